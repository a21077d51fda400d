/- Cells: Moved of the reference. -/
import Derived.Test.YteifcgffeplkkaaCelAB
import Derived.Test.YteifcgffeplkkaaCelV
import Derived.Deep.RegionLaw
import Derived.Deep.AppendLies
namespace Go.Proofs.Yteifcgffeplkkaa
set_option linter.all false
open Go.RowKit Go.Sort Go.Deep

theorem lit_valsB {W : World} {l : List Val} {o : Array Value} {k B : Nat} (hB : B = W.heap.size) (hk : l.length = k) (ho : o.toList = flat Val.cs l) (hm : k ≤ 10) : IsV (W.alloc (.cells o 32)) (.slice (some ⟨B, 0, none⟩) k k) l := by
  subst hk hB
  refine ownsRow_slOf (base := 0) (e := 32) (fun _ => rfl) ?_
  rw [← ho]
  exact World.ownsRow_lit W o l.length (Nat.zero_le _) (by unfold maxLen; omega) (by rw [← Array.length_toList, ho, flat_len cs_len])

theorem step_call {P : Program} {ops : Array Oper} {o : Oper} {a : Act} {w : World} {K : Act → World → Prop} {Q : Exit → Act → World → Prop} {E : Prop}
    (hg : o.guard = none) (f : FuncId) (args : Array Operand) (ts : Array TypeId) (hop : o.op = Op.call { callee := .value (.func f), args := args, argTypes := ts }) (vs : Array Value) (hv : args.map a.eval = vs) (hc : Sem.run P (callFunc f vs) w = .ok (.enter f vs) w)
    (h : Calls P f vs w fun e w' => ∃ v, e = .returned v ∧ K (a.put o.dst v) w') : if Region.wanted o (yielded ops a.tmps) = true then Oper.wp P o a w K Q else E := by
  have hw : Region.wanted o (yielded ops a.tmps) = true := by simp [Region.wanted, hg]
  rw [if_pos hw]
  subst hv
  unfold Oper.wp
  simp [execOp, hop, resolve, invoke, Act.eval, Deferred.ofValue, hc, Oper.upon_enter]
  refine h.mono ?_
  rintro e w' ⟨v, rfl, hk⟩
  exact hk

/-- an append as one step of a region that draws its order; the row is the call's own -/
theorem step_appW {ops : Array Oper} {o : Oper} {a : Act} {w : World} {K : Act → World → Prop} {Q : Exit → Act → World → Prop} {E : Prop} (lo : Nat)
    (hg : o.guard = none) (s x : Operand) (hop : o.op = Op.call { callee := Callee.builtin Builtin.append, args := #[s, x], argTypes := #[22, 22] })
    (ys xs : List Val) {yv sv : Value} (hs : a.eval s = yv) (hx : a.eval x = sv) (hlo : lo ≤ w.heap.size) (hown : OwnV w lo yv ys) (hsv : IsV w sv xs) (hf : fitV (ys ++ xs))
    (hK : ∀ A n w', OwnV w' lo (.slice A (ys ++ xs).length n) (ys ++ xs) → Touch (fun k => yv.ownBlock = some k) w w' → K (a.put o.dst (.slice A (ys ++ xs).length n)) w') :
    if Region.wanted o (yielded ops a.tmps) = true then Oper.wp Try.prog o a w K Q else E := by
  have hw : Region.wanted o (yielded ops a.tmps) = true := by simp [Region.wanted, hg]
  rw [if_pos hw]
  obtain ⟨A, n, w', hr, h2, h3⟩ := run_appV (ty := o.type) hown hlo hsv hf
  have hb : Touch (fun k => yv.ownBlock = some k) w w' := ⟨h3.os, h3.tape, h3.output, h3.size, fun k hk hn => h3.block k hk fun e => hn e.symm⟩
  unfold Oper.wp
  simp [execOp, hop, resolve, invoke, builtin, hs, hx, hr, Result.andThen]
  have := hK A n w' h2 hb
  rw [List.length_append] at this
  exact this
/-- what one round of such a loop leaves -/
theorem app_val {w1 wr w5 : World} {pp : Regrown} {ob : Obj} {bx n0 : Nat} {A0 : Option Addr} {ys : List Val} {o' : Obj} (ho : OwnV wr w1.heap.size (.slice A0 ys.length n0) ys) (hT : Touch (fun b => b = bx) w1 wr)
    (h5 : Touch (fun k => Value.ownBlock (.slice A0 ys.length n0) = some k) ((gr wr pp).alloc ob) w5) (hx : wr.heap[bx]? = some o') (hbx : bx < w1.heap.size) :
    w5.heap[bx]? = some o' ∧ Touch (fun b => b = bx) w1 w5 := by
  have T1 : Touch (fun k => Value.ownBlock (.slice A0 ys.length n0) = some k) wr w5 := (((Touch.refl _ wr).gr pp).alloc ob).trans h5 (fun _ _ h => h)
  refine ⟨(T1.block bx (Nat.lt_of_lt_of_le hbx hT.size) (fun e => by have := (ho.lt _ e).1; omega)).trans hx, hT.trans T1 (fun i hi e => by have := (ho.lt _ e).1; omega)⟩
theorem app_set {w1 w5 : World} {bx j : Nat} {v u : Value} {ys : List Val} (ho : OwnV w5 w1.heap.size v ys) (hT : Touch (fun b => b = bx) w1 w5) (hbx : bx < w1.heap.size) :
    OwnV (w5.setCell ⟨bx, j, none⟩ u) w1.heap.size v ys ∧ Touch (fun b => b = bx) w1 (w5.setCell ⟨bx, j, none⟩ u) :=
  ⟨ownsRow_touch ho ((Touch.refl (fun b => b = bx) w5).set1 j u) (fun g hg e => by have := (ho.lt _ hg).1; omega), hT.set1 j u⟩

set_option maxRecDepth 100000 in
set_option maxHeartbeats 8000000 in
theorem rMoved_any (sv mv fv tv : Value) (c : CellD) (fr tl : List Int) (hf : c.fit) (w : World) (h1 : IsV w sv c.sl) (h2 : IsV w mv c.mo) (h3 : IsI w fv fr) (h4 : IsI w tv tl) :
    Calls Try.prog 24 #[cellV c.k c.sh c.fl c.ag sv mv, fv, tv] w fun e w' => ∃ s m, e = .returned (cellV c.k c.sh c.fl c.ag s m) ∧ IsV w' s (c.sl.map (movV (pairsM fr tl))) ∧ IsV w' m (c.mo.map (movV (pairsM fr tl))) ∧ Below w.heap.size w w' := by
  have H1 := Lib.hid h1
  have H2 := Lib.hid h2
  have H3 := Lib.hid h3
  have H4 := Lib.hid h4
  have F := Lib.hid hf
  obtain ⟨A1, n1, rfl, _, hm1⟩ := h1.form
  obtain ⟨A2, n2, rfl, _, hm2⟩ := h2.form
  have fl1 := hf.1.le
  have fl2 := hf.2.le
  clear h1 h2 h3 h4 hf hm1 hm2
  go_enter Try.func24, Try.ntmps24
  go_upto_region 3 with fail
  have p1 : (((w.alloc (cellO c.k c.sh c.fl c.ag (.slice A1 c.sl.length n1) (.slice A2 c.mo.length n2))).alloc (cellO 0 0 0 0 (.slice none 0 0) (.slice none 0 0))).alloc (cellO c.k c.sh c.fl c.ag (.slice none 0 0) (.slice none 0 0))).heap[w.heap.size]? = _ := hq_0 _ _ _ _
  have p2 : (((w.alloc (cellO c.k c.sh c.fl c.ag (.slice A1 c.sl.length n1) (.slice A2 c.mo.length n2))).alloc (cellO 0 0 0 0 (.slice none 0 0) (.slice none 0 0))).alloc (cellO c.k c.sh c.fl c.ag (.slice none 0 0) (.slice none 0 0))).heap[w.heap.size + 1]? = _ := hq_1 _ _ _ _
  have p3 : (((w.alloc (cellO c.k c.sh c.fl c.ag (.slice A1 c.sl.length n1) (.slice A2 c.mo.length n2))).alloc (cellO 0 0 0 0 (.slice none 0 0) (.slice none 0 0))).alloc (cellO c.k c.sh c.fl c.ag (.slice none 0 0) (.slice none 0 0))).heap[w.heap.size + 1 + 1]? = _ := hq_2 _ _ _ _
  have pb : Below w.heap.size w (((w.alloc (cellO c.k c.sh c.fl c.ag (.slice A1 c.sl.length n1) (.slice A2 c.mo.length n2))).alloc (cellO 0 0 0 0 (.slice none 0 0) (.slice none 0 0))).alloc (cellO c.k c.sh c.fl c.ag (.slice none 0 0) (.slice none 0 0))) := by (repeat (with_reducible first | exact Below.refl _ _ | (refine bl_set ?_ (by first | omega | (simp; done) | (simp; omega)) _) | refine bl_gr ?_ _ | refine bl_al ?_ _ | refine below_setRow ?_ (by first | omega | (simp; done) | (simp; omega)) _ | refine bl_drewN ?_ _ | refine Below.drew ?_ | (refine bl_tr ?_ (by assumption))))
  generalize hW : ((w.alloc _).alloc _).alloc _ = w1 at p1 p2 p3 pb ⊢
  clear hW
  have P1 := Lib.hid p1
  have P2 := Lib.hid p2
  have P3 := Lib.hid p3
  have PB := Lib.hid pb
  have s2 : w.heap.size + 1 + 1 < w1.heap.size := (Array.getElem?_eq_some_iff.1 p3).1
  have SS := Lib.hid s2
  clear p1 p2 p3 pb
  generalize hBB : w.heap.size + 1 + 1 = BB at *
  have ZB := Lib.hid hBB
  clear hBB
  go_loopw [8] (fun i wr => ∃ (k : Nat) (A0 : Option Addr) (n0 : Nat) (ys : List Val), k ≤ c.sl.length ∧ i = .int .i64 k ∧ ys = (c.sl.take k).map (movV (pairsM fr tl)) ∧ OwnV wr w1.heap.size (.slice A0 ys.length n0) ys ∧
    wr.heap[BB]? = some (cellO c.k c.sh c.fl c.ag (.slice A0 ys.length n0) (.slice none 0 0)) ∧ Touch (fun b => b = BB) w1 wr) (fun i _ => c.sl.length - (intOf i).toNat)
  case atStart => exact ⟨0, none, 0, [], by omega, rfl, by simp, World.ownsRow_nil _ _ _ _, P3.out, Touch.refl _ _⟩
  case round =>
    obtain ⟨k, A0, n0, ys, hk, rfl, hys, ho, hx, hT⟩ := hrel
    have HY := Lib.hid hys
    have yl : ys.length = k := by rw [hys, List.length_map, List.length_take]; omega
    clear hys
    have sz := hT.size
    have k1 : wr.heap[w.heap.size]? = some (cellO c.k c.sh c.fl c.ag (.slice A1 c.sl.length n1) (.slice A2 c.mo.length n2)) := (hT.block _ (by have := SS.out; have := ZB.out; omega) (by have := ZB.out; omega)).trans P1.out
    have k2 : wr.heap[w.heap.size + 1]? = some (cellO 0 0 0 0 (.slice none 0 0) (.slice none 0 0)) := (hT.block _ (by have := SS.out; have := ZB.out; omega) (by have := ZB.out; omega)).trans P2.out
    have hB : Below w.heap.size w wr := (PB.out).trans (hT.below PB.out.size (fun i e => by have := ZB.out; omega))
    obtain ⟨⟨a0, a1, a2, a3, a4, a5⟩, _⟩ := cells6 k1
    obtain ⟨⟨b0, b1, b2, b3, b4, b5⟩, f0, f1, f2, f3, f4, f5⟩ := cells6 hx
    have lx : w.heap.size < wr.heap.size := (Array.getElem?_eq_some_iff.1 k1).1
    have lB : BB < wr.heap.size := (Array.getElem?_eq_some_iff.1 hx).1
    have INV := Lib.hid (And.intro ho (And.intro hx (And.intro hT (And.intro k1 (And.intro k2 hB)))))
    have H3w := Lib.hid (H3.out.below hB)
    have H4w := Lib.hid (H4.out.below hB)
    by_cases hlt : k < c.sl.length
    · have HV := H1.out.below hB
      obtain ⟨b, off, rfl⟩ := isV_addr HV (by omega)
      obtain ⟨hb, c00, c01, c02⟩ := HV.v3 k hlt
      have ev : c.sl[k]? = some (vAt c.sl k) := by unfold vAt; rw [List.getElem?_eq_getElem hlt]; rfl
      have q0 : ¬ (k : Int) < 0 := by omega
      have q1 : (k : Int) < c.sl.length := by omega
      generalize vAt c.sl k = v at *
      have TK := Lib.hid (show ys ++ [movV (pairsM fr tl) v] = (c.sl.take (k + 1)).map (movV (pairsM fr tl)) by rw [HY.out, List.take_add_one, ev, List.map_append]; rfl)
      have RM := Lib.hid (fun (W : World) (h : Below wr.heap.size wr W) => rmoved_any v fv tv fr tl W (H3w.out.below h) (H4w.out.below h))
      have nb := Nat.ne_of_lt lB
      have FB := Lib.hid (show fitV (ys ++ [movV (pairsM fr tl) v]) by unfold fitV; rw [List.length_append, yl]; simp; omega)
      have YL := Lib.hid yl
      have r1 : ∀ n, (BB < wr.heap.size + n) = True := fun n => eq_true (by omega)
      have r2 : ∀ n, (w.heap.size < wr.heap.size + n) = True := fun n => eq_true (by omega)
      have r3 : ∀ n, (b < wr.heap.size + n) = True := fun n => eq_true (by omega)
      have r4 : ∀ n, (BB = wr.heap.size + n) = False := fun n => eq_false (by omega)
      clear ho hx hT k1 k2 hB HV ev yl
      go_upto_region 5 with fail
      generalize hz : movV (pairsM fr tl) v = z at *
      have HZ := Lib.hid hz
      clear hz
      go_region_law (first
        | (refine step_call rfl 39 _ _ rfl #[v.agg, fv, tv] (by simp [Act.eval, Act.put]) (by go_simp) ((RM.out _ (by (repeat (with_reducible first | exact Below.refl _ _ | (refine bl_set ?_ (by first | omega | (simp; done) | (simp; omega)) _) | refine bl_gr ?_ _ | refine bl_al ?_ _ | refine below_setRow ?_ (by first | omega | (simp; done) | (simp; omega)) _ | refine bl_drewN ?_ _ | refine Below.drew ?_ | (refine bl_tr ?_ (by assumption)))))).mono ?_); rintro e w' ⟨rfl, hb⟩; refine ⟨_, rfl, ?_⟩; obtain ⟨pp, rfl⟩ := gr_of_below hb; clear hb)
        | (refine step_appW w1.heap.size rfl (.tmp 27) (.tmp 36) rfl ys [z] (yv := .slice A0 ys.length n0) (sv := .slice (some ⟨wr.heap.size + pp.os.size, 0, none⟩) 1 1) (by simp [Act.eval, Act.put]) (by simp [Act.eval, Act.put]) ?_ ?_ ?_ FB.out ?_; (next => (rw [World.size_alloc, gr_size]; omega)); (next => exact (ownsRow_below INV.out.1 (below_gr _ _)).alloc _); (next => exact lit_valsB (by simp [gr_size]) rfl rfl (by omega)); intro A5 n5 w5 o5 t5; have AV := app_val INV.out.1 INV.out.2.2.1 t5 INV.out.2.1 SS.out; generalize hy2 : ys ++ [z] = y2 at o5 ⊢; have HY2 := Lib.hid hy2; obtain ⟨⟨d0, d1, d2, d3, d4, d5⟩, g0, g1, g2, g3, g4, g5⟩ := cells6 AV.1; have O5 := Lib.hid o5; have AW := Lib.hid AV; clear o5 t5 AV hy2))
      all_goals as_aux_lemma =>
        go_simp
        go_wp2
        go_roundw
        case rel => exact ⟨k + 1, A5, n5, y2, by omega, by go_num, HY2.out.symm.trans TK.out, (app_set O5.out AW.out.2 SS.out).1, heap_setCell_same _ _ _ _ _ _ AW.out.1, (app_set O5.out AW.out.2 SS.out).2⟩
        case measure => simp [intOf]; omega
    · have q1 : ¬ (k : Int) < c.sl.length := by omega
      have E1 := Lib.hid (show ys = c.sl.map (movV (pairsM fr tl)) by rw [HY.out, List.take_of_length_le (by omega)])
      obtain ⟨wo, hwo⟩ : ∃ wo : World, wo = wr := ⟨_, rfl⟩
      have V1 := Lib.hid (show IsV wo (.slice A0 ys.length n0) ys by rw [hwo]; exact OwnV.isV ho)
      have lo1 := Lib.hid (show ∀ b off cap, Value.slice A0 ys.length n0 = .slice (some ⟨b, off, none⟩) ys.length cap → BB < b by
        intro b off cap e
        have := (ho.lt b (by rw [e]; rfl)).1
        have := SS.out
        omega)
      have P1 := Lib.hid (show wo.heap[w.heap.size]? = some (cellO c.k c.sh c.fl c.ag (.slice A1 c.sl.length n1) (.slice A2 c.mo.length n2)) by rw [hwo]; exact k1)
      have P2 := Lib.hid (show wo.heap[w.heap.size + 1]? = some (cellO 0 0 0 0 (.slice none 0 0) (.slice none 0 0)) by rw [hwo]; exact k2)
      have P3 := Lib.hid (show wo.heap[BB]? = some (cellO c.k c.sh c.fl c.ag (.slice A0 ys.length n0) (.slice none 0 0)) by rw [hwo]; exact hx)
      have PB := Lib.hid (show Below w.heap.size w wo by rw [hwo]; exact hB)
      have SS := Lib.hid (show BB < wo.heap.size by rw [hwo]; exact lB)
      clear ho hx hT k1 k2 hB HY INV H3w H4w yl
      go_wp2
      clear q1 hlt hk
      clear a0 a1 a2 a3 a4 a5 b0 b1 b2 b3 b4 b5 f0 f1 f2 f3 f4 f5
      clear sz lx lB
      subst hwo
      go_loopw [9] (fun i wr => ∃ (k : Nat) (A9 : Option Addr) (n9 : Nat) (zs : List Val), k ≤ c.mo.length ∧ i = .int .i64 k ∧ zs = (c.mo.take k).map (movV (pairsM fr tl)) ∧ OwnV wr wo.heap.size (.slice A9 zs.length n9) zs ∧
        wr.heap[BB]? = some (cellO c.k c.sh c.fl c.ag (.slice A0 ys.length n0) (.slice A9 zs.length n9)) ∧ Touch (fun b => b = BB) wo wr) (fun i _ => c.mo.length - (intOf i).toNat)
      case atStart => exact ⟨0, none, 0, [], by omega, rfl, by simp, World.ownsRow_nil _ _ _ _, P3.out, Touch.refl _ _⟩
      case round =>
        obtain ⟨k, A9, n9, zs, hk, rfl, hys, ho, hx, hT⟩ := hrel
        have HY := Lib.hid hys
        have yl : zs.length = k := by rw [hys, List.length_map, List.length_take]; omega
        clear hys
        have sz := hT.size
        have k1 : wr.heap[w.heap.size]? = some (cellO c.k c.sh c.fl c.ag (.slice A1 c.sl.length n1) (.slice A2 c.mo.length n2)) := (hT.block _ (by have := SS.out; have := ZB.out; omega) (by have := ZB.out; omega)).trans P1.out
        have k2 : wr.heap[w.heap.size + 1]? = some (cellO 0 0 0 0 (.slice none 0 0) (.slice none 0 0)) := (hT.block _ (by have := SS.out; have := ZB.out; omega) (by have := ZB.out; omega)).trans P2.out
        have hB : Below w.heap.size w wr := (PB.out).trans (hT.below PB.out.size (fun i e => by have := ZB.out; omega))
        obtain ⟨⟨a0, a1, a2, a3, a4, a5⟩, _⟩ := cells6 k1
        obtain ⟨⟨b0, b1, b2, b3, b4, b5⟩, f0, f1, f2, f3, f4, f5⟩ := cells6 hx
        have lx : w.heap.size < wr.heap.size := (Array.getElem?_eq_some_iff.1 k1).1
        have lB : BB < wr.heap.size := (Array.getElem?_eq_some_iff.1 hx).1
        have INV := Lib.hid (And.intro ho (And.intro hx (And.intro hT (And.intro k1 (And.intro k2 hB)))))
        have H3w := Lib.hid (H3.out.below hB)
        have H4w := Lib.hid (H4.out.below hB)
        by_cases hlt : k < c.mo.length
        · have HV := H2.out.below hB
          obtain ⟨b, off, rfl⟩ := isV_addr HV (by omega)
          obtain ⟨hb, c00, c01, c02⟩ := HV.v3 k hlt
          have ev : c.mo[k]? = some (vAt c.mo k) := by unfold vAt; rw [List.getElem?_eq_getElem hlt]; rfl
          have q0 : ¬ (k : Int) < 0 := by omega
          have q1 : (k : Int) < c.mo.length := by omega
          generalize vAt c.mo k = v at *
          have TK := Lib.hid (show zs ++ [movV (pairsM fr tl) v] = (c.mo.take (k + 1)).map (movV (pairsM fr tl)) by rw [HY.out, List.take_add_one, ev, List.map_append]; rfl)
          have RM := Lib.hid (fun (W : World) (h : Below wr.heap.size wr W) => rmoved_any v fv tv fr tl W (H3w.out.below h) (H4w.out.below h))
          have nb := Nat.ne_of_lt lB
          have FB := Lib.hid (show fitV (zs ++ [movV (pairsM fr tl) v]) by unfold fitV; rw [List.length_append, yl]; simp; omega)
          have YL := Lib.hid yl
          have r1 : ∀ n, (BB < wr.heap.size + n) = True := fun n => eq_true (by omega)
          have r2 : ∀ n, (w.heap.size < wr.heap.size + n) = True := fun n => eq_true (by omega)
          have r3 : ∀ n, (b < wr.heap.size + n) = True := fun n => eq_true (by omega)
          have r4 : ∀ n, (BB = wr.heap.size + n) = False := fun n => eq_false (by omega)
          clear ho hx hT k1 k2 hB HV ev yl
          go_upto_region 9 with fail
          generalize hz : movV (pairsM fr tl) v = z at *
          have HZ := Lib.hid hz
          clear hz
          go_region_law (first
            | (refine step_call rfl 39 _ _ rfl #[v.agg, fv, tv] (by simp [Act.eval, Act.put]) (by go_simp) ((RM.out _ (by (repeat (with_reducible first | exact Below.refl _ _ | (refine bl_set ?_ (by first | omega | (simp; done) | (simp; omega)) _) | refine bl_gr ?_ _ | refine bl_al ?_ _ | refine below_setRow ?_ (by first | omega | (simp; done) | (simp; omega)) _ | refine bl_drewN ?_ _ | refine Below.drew ?_ | (refine bl_tr ?_ (by assumption)))))).mono ?_); rintro e w' ⟨rfl, hb⟩; refine ⟨_, rfl, ?_⟩; obtain ⟨pp, rfl⟩ := gr_of_below hb; clear hb)
            | (refine step_appW wo.heap.size rfl (.tmp 47) (.tmp 56) rfl zs [z] (yv := .slice A9 zs.length n9) (sv := .slice (some ⟨wr.heap.size + pp.os.size, 0, none⟩) 1 1) (by simp [Act.eval, Act.put]) (by simp [Act.eval, Act.put]) ?_ ?_ ?_ FB.out ?_; (next => (rw [World.size_alloc, gr_size]; omega)); (next => exact (ownsRow_below INV.out.1 (below_gr _ _)).alloc _); (next => exact lit_valsB (by simp [gr_size]) rfl rfl (by omega)); intro A5 n5 w5 o5 t5; have AV := app_val INV.out.1 INV.out.2.2.1 t5 INV.out.2.1 SS.out; generalize hy2 : zs ++ [z] = y2 at o5 ⊢; have HY2 := Lib.hid hy2; obtain ⟨⟨d0, d1, d2, d3, d4, d5⟩, g0, g1, g2, g3, g4, g5⟩ := cells6 AV.1; have O5 := Lib.hid o5; have AW := Lib.hid AV; clear o5 t5 AV hy2))
          all_goals as_aux_lemma =>
            go_simp
            go_wp2
            go_roundw
            case rel => exact ⟨k + 1, A5, n5, y2, by omega, by go_num, HY2.out.symm.trans TK.out, (app_set O5.out AW.out.2 SS.out).1, heap_setCell_same _ _ _ _ _ _ AW.out.1, (app_set O5.out AW.out.2 SS.out).2⟩
            case measure => simp [intOf]; omega
        · have q1 : ¬ (k : Int) < c.mo.length := by omega
          have E2 := Lib.hid (show zs = c.mo.map (movV (pairsM fr tl)) by rw [HY.out, List.take_of_length_le (by omega)])
          have V2 := Lib.hid (show IsV wr (.slice A9 zs.length n9) zs from OwnV.isV ho)
          have V1w := Lib.hid (show IsV wr (.slice A0 ys.length n0) ys from V1.out.touch hT (fun b off cap e _ e2 => by have := lo1.out b off cap e; omega))
          have lo2 := Lib.hid (show ∀ b off cap, Value.slice A9 zs.length n9 = .slice (some ⟨b, off, none⟩) zs.length cap → BB < b by
            intro b off cap e
            have := (ho.lt b (by rw [e]; rfl)).1
            have := SS.out
            omega)
          obtain ⟨⟨x0, x1, x2, x3, x4, x5⟩, y0, y1, y2, y3, y4, y5⟩ := cells6 k2
          have K4 := Lib.hid k2
          have HB := Lib.hid hB
          have l9 : w.heap.size + 1 < wr.heap.size := by have := ZB.out; omega
          clear ho hx hT k1 k2 hB INV H3w H4w P1 P2 P3 PB V1 SS yl HY
          go_wp2
          obtain ⟨w5, hw5⟩ : ∃ w5, w5 = ((((((wr.setCell ⟨w.heap.size + 1, 0, none⟩ (.int .i64 c.k)).setCell ⟨w.heap.size + 1, 1, none⟩ (.int .i64 c.sh)).setCell ⟨w.heap.size + 1, 2, none⟩ (.int .i64 c.fl)).setCell ⟨w.heap.size + 1, 3, none⟩ (.int .i64 c.ag)).setCell ⟨w.heap.size + 1, 4, none⟩ (.slice A0 ys.length n0)).setCell ⟨w.heap.size + 1, 5, none⟩ (.slice A9 zs.length n9)) := ⟨_, rfl⟩
          rw [← hw5]
          have jt : Touch (fun b => b = w.heap.size + 1) wr w5 := by
            rw [hw5]
            exact (((((((Touch.refl _ _).set1 _ _).set1 _ _).set1 _ _).set1 _ _).set1 _ _).set1 _ _)
          have j1 : IsV w5 (.slice A0 ys.length n0) ys := V1w.out.touch jt (fun b off cap e _ e2 => by have := lo1.out b off cap e; have := ZB.out; omega)
          have j2 : IsV w5 (.slice A9 zs.length n9) zs := V2.out.touch jt (fun b off cap e _ e2 => by have := lo2.out b off cap e; have := ZB.out; omega)
          have j3 : w5.heap[w.heap.size + 1]? = some (cellO c.k c.sh c.fl c.ag (.slice A0 ys.length n0) (.slice A9 zs.length n9)) := by
            rw [hw5]
            exact heap_setCell_same _ _ _ _ _ _ (heap_setCell_same _ _ _ _ _ _ (heap_setCell_same _ _ _ _ _ _ (heap_setCell_same _ _ _ _ _ _ (heap_setCell_same _ _ _ _ _ _ (heap_setCell_same _ _ _ _ _ _ K4.out)))))
          have jb : Below w.heap.size w w5 := by
            rw [hw5]
            iterate 6 refine bl_set ?_ (Nat.le_succ _) _
            exact HB.out
          clear hw5 a0 a1 a2 a3 a4 a5 b0 b1 b2 b3 b4 b5 f0 f1 f2 f3 f4 f5 x0 x1 x2 x3 x4 x5 y0 y1 y2 y3 y4 y5 K4 HB jt
          obtain ⟨⟨a0, a1, a2, a3, a4, a5⟩, _⟩ := cells6 j3
          refine bodyPost_ret (v := cellV c.k c.sh c.fl c.ag (.slice A0 ys.length n0) (.slice A9 zs.length n9)) (by clear j1 j2 j3 jb; simp [results, Try.results24, go_sem, *]) rfl ⟨_, _, rfl, ?_, ?_, jb⟩
          · rw [← E1.out]; exact j1
          · rw [← E2.out]; exact j2
end Go.Proofs.Yteifcgffeplkkaa
