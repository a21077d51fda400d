/- Weak maps: the reference's Opens. -/
import Derived.Test.YtdikdkllbhanfaaWkP
namespace Go.Proofs.Ytdikdkllbhanfaa
set_option linter.all false
open Go.RowKit Go.Sort Go.Deep Go.Shelf

/-- a number appended -/
theorem step_appI {ops : Array Oper} {o : Oper} {a : Act} {w : World} {K : Act → World → Prop} {Q : Exit → Act → World → Prop} {E : Prop} (lo : Nat)
    (hg : o.guard = none) (s x : Operand) (hop : o.op = Op.call { callee := Callee.builtin Builtin.append, args := #[s, x], argTypes := #[25, 25] })
    (ys : List Int) (b : Int) {yv : Value} {B : Nat} (hs : a.eval s = yv) (hx : a.eval x = .slice (some ⟨B, 0, none⟩) 1 1) (hlo : lo ≤ w.heap.size) (hown : OwnI w lo yv ys)
    (hblk : w.heap[B]? = some (.cells #[.int .i64 b] 3)) (hf : ys.length + 1 ≤ 10000000000)
    (hK : ∀ g n w', OwnI w' lo (.slice (some ⟨g, 0, none⟩) (ys ++ [b]).length n) (ys ++ [b]) → Touch (fun k => yv.ownBlock = some k) w w' → K (a.put o.dst (.slice (some ⟨g, 0, none⟩) (ys ++ [b]).length n)) w') :
    if Region.wanted o (yielded ops a.tmps) = true then Oper.wp Try.prog o a w K Q else E := by
  obtain ⟨i, hi, hz, hsz, hby⟩ := info_parts int_info
  refine step_append_lies w hg s x 25 hop lo 3 i (.int .i64 0) 1 8 Try.underlying25 hi hz hsz hby rfl (by omega) yv ys.length (ys.map (Value.int .i64)) hs hown ⟨B, 0, none⟩ 1 1 [.int .i64 b] hx rfl ?_ (by intro u hu; simp at hu; subst hu; rfl) (by omega) (by unfold maxLen; omega) (by omega) hlo w.heap.size rfl ?_
  · intro j u hu
    rw [add_off, cell_of_row w B _ _ _ _ hblk]
    simpa using hu
  · intro g cap w' h1 h2 h3 _
    have := hK g cap w' (by unfold OwnI; rw [List.length_append, List.map_append]; exact h1) ⟨h2.os, h2.tape, h2.output, h2.size, fun k hk hn => h2.block k hk fun e => hn e.symm⟩
    rw [List.length_append] at this
    exact this
theorem wpList_appI {ops : Array Oper} {rest : List Oper} {o : Oper} {a : Act} {w : World} {Q : Exit → Act → World → Prop} (hgd : o.guard = none) (lo : Nat) (s x : Operand)
    (hop : o.op = Op.call { callee := Callee.builtin Builtin.append, args := #[s, x], argTypes := #[25, 25] })
    (ys : List Int) (b : Int) {yv : Value} {B : Nat} (hs : a.eval s = yv) (hx : a.eval x = .slice (some ⟨B, 0, none⟩) 1 1) (hlo : lo ≤ w.heap.size) (hown : OwnI w lo yv ys)
    (hblk : w.heap[B]? = some (.cells #[.int .i64 b] 3)) (hf : ys.length + 1 ≤ 10000000000)
    (hK : ∀ g n w', OwnI w' lo (.slice (some ⟨g, 0, none⟩) (ys ++ [b]).length n) (ys ++ [b]) → Touch (fun k => yv.ownBlock = some k) w w' → wpList Try.prog ops Q rest (a.put o.dst (.slice (some ⟨g, 0, none⟩) (ys ++ [b]).length n)) w') : wpList Try.prog ops Q (o :: rest) a w := by
  refine wpList_step fun K hK' => ?_
  exact step_appI lo hgd s x hop ys b hs hx hlo hown hblk hf (fun g n w' h1 h2 => hK' _ _ (hK g n w' h1 h2))
theorem own_TI {W X w3 : World} {lo : Nat} {yv : Value} {ys : List Int} (hX : Below W.heap.size W X) (ho : OwnI X lo yv ys) (h0 : W.heap.size ≤ lo) (t3 : Touch (fun k => yv.ownBlock = some k) X w3) : Below W.heap.size W w3 :=
  hX.trans (t3.below hX.size fun k hk => Nat.le_trans h0 (ho.lt k hk).1)

set_option maxRecDepth 100000 in
set_option maxHeartbeats 8000000 in
theorem ropens_yes (sv mv lv : Value) (c : CellD) (live : List Int) (hc : c.ok) (m : Nat) (hm : c.mo.length = 2 * m) (hmx : c.mo.length ≤ 1048576) (w : World) (h1 : IsV w sv c.sl) (h2 : IsV w mv c.mo) (h3 : IsI w lv live) (hb : isW c = true) :
    Calls Try.prog 15 #[cellV c.k c.sh c.fl c.ag sv mv, lv] w fun e w' => ∃ v, e = .returned v ∧ IsI w' v (opL live c.mo (List.finRange m)) ∧ Below w.heap.size w w' := by
  obtain ⟨A0, n0, rfl, _, _⟩ := h1.form
  obtain ⟨A2, n2, rfl, _, _⟩ := h2.form
  have H1 := Lib.hid h1
  have H2 := Lib.hid h2
  obtain ⟨A3, n3, rfl, _, _⟩ := h3.form
  have H3 := Lib.hid h3
  have HM := Lib.hid (And.intro hm hmx)
  have IS := Lib.hid (fun W a b => by have := ris_any _ _ c hc W a b; rw [hb] at this; exact this : ∀ (W : World), IsV W (.slice A0 c.sl.length n0) c.sl → IsV W (.slice A2 c.mo.length n2) c.mo → Calls Try.prog 32 #[cellV c.k c.sh c.fl c.ag (.slice A0 c.sl.length n0) (.slice A2 c.mo.length n2)] W fun e w' => e = .returned (.bool true) ∧ Below W.heap.size W w')
  clear h1 h2 h3 hm hmx hc hb
  go_enter Try.func15, Try.ntmps15
  go_upto_region 1 with fail
  refine wp_world (fun W => W.heap[w.heap.size]? = some (cellO c.k c.sh c.fl c.ag (.slice A0 c.sl.length n0) (.slice A2 c.mo.length n2)) ∧ Below w.heap.size w W) ⟨heap_alloc_new _ _, bl_al (Below.refl _ _) _⟩ ?_
  rintro W ⟨j1, jb⟩
  have l0 : w.heap.size < W.heap.size := (Array.getElem?_eq_some_iff.1 j1).1
  have KK := Lib.hid (show ∀ X, Below W.heap.size W X → X.heap[w.heap.size]? = some (cellO c.k c.sh c.fl c.ag (.slice A0 c.sl.length n0) (.slice A2 c.mo.length n2)) from fun X h => (h.block _ l0).trans j1)
  have BW := Lib.hid jb
  have I1 := Lib.hid (H1.out.below jb)
  have I2 := Lib.hid (H2.out.below jb)
  have I3 := Lib.hid (H3.out.below jb)
  clear j1 jb H1 H2 H3
  go_wp2
  go_loopw [5, 6] (fun kp i wr => ∃ (k : Nat) (A9 : Option Addr) (n9 : Nat), k ≤ m ∧ i = .int .i64 ((2 * k : Nat) : Int) ∧ kp = .slice A9 (opL live c.mo ((List.finRange m).take k)).length n9 ∧ OwnI wr W.heap.size (.slice A9 (opL live c.mo ((List.finRange m).take k)).length n9) (opL live c.mo ((List.finRange m).take k)) ∧ Below W.heap.size W wr) (fun _ i _ => 2 * m - (intOf i).toNat)
  case atStart => exact ⟨0, none, 0, by omega, by simp, rfl, World.ownsRow_nil _ _ _ _, Below.refl _ _⟩
  case round =>
    obtain ⟨k, A9, n9, hk, rfl, rfl, ho, hB⟩ := hrel
    have hml := HM.out
    obtain ⟨⟨p0, p1, p2, p3, p4, p5⟩, _⟩ := cells6 (KK.out wr hB)
    have sX := hB.size
    have l0w : w.heap.size < wr.heap.size := by omega
    have INV := Lib.hid (And.intro ho hB)
    have O2 := Lib.hid hB
    by_cases hlt : k < m
    · obtain ⟨b, off, rfl⟩ := isV_addr I2.out (by omega)
      obtain ⟨lb, x0, x1, x2⟩ := (I2.out.below hB).v3 (2 * k) (by omega)
      obtain ⟨_, v0, v1, v2⟩ := (I2.out.below hB).v3 (2 * k + 1) (by omega)
      have l0x : ∀ n, w.heap.size < wr.heap.size + n := fun n => by omega
      have lbx : ∀ n, b < wr.heap.size + n := fun n => by omega
      have KL := opL_len live c.mo ((List.finRange m).take k)
      rw [List.length_take, List.length_finRange] at KL
      have KD := Lib.hid (show opL live c.mo ((List.finRange m).take (k + 1)) = opL live c.mo ((List.finRange m).take k) ++ opE live c.mo k by rw [finRange_take m k hlt, opL_snoc])
      unfold opE at KD
      generalize hL : c.mo.length = L at *
      generalize hq : 2 * k = q at *
      generalize vAt c.mo q = u at *
      generalize vAt c.mo (q + 1) = v at *
      generalize opL live c.mo ((List.finRange m).take k) = ks at *
      have g1 : ¬ (q : Int) < 0 := by omega
      have g2 : (q : Int) < L := by omega
      have g3 : (q : Int) + 1 < L := by omega
      have g6 : q ≤ 1048576 := by omega
      have hk1 : k + 1 ≤ m := hlt
      have HQ := Lib.hid (And.intro hL hq)
      have HKL := Lib.hid (show ks.length + 1 ≤ 10000000000 by omega)
      have CT := Lib.hid (show ∀ Z, Below W.heap.size W Z → Calls Try.prog 33 #[.int .i64 u.n, .slice A3 live.length n3] Z fun e w' => e = .returned (.bool (inB live u.n)) ∧ Z = w' from fun Z hZ => In_any _ live u.n Z (I3.out.below hZ))
      have NO := Lib.hid (show opL live c.mo ((List.finRange m).take (k + 1)) = ks → ∀ Y, Below wr.heap.size wr Y → ∃ (k' : Nat) (A : Option Addr) (n : Nat), k' ≤ m ∧ Value.int .i64 ((q + 2 : Nat) : Int) = .int .i64 ((2 * k' : Nat) : Int) ∧ Value.slice A9 ks.length n9 = .slice A (opL live c.mo ((List.finRange m).take k')).length n ∧ OwnI Y W.heap.size (.slice A (opL live c.mo ((List.finRange m).take k')).length n) (opL live c.mo ((List.finRange m).take k')) ∧ Below W.heap.size W Y from
        fun e Y hY => ⟨k + 1, A9, n9, hk1, by rw [show 2 * (k + 1) = q + 2 by omega], by rw [e], by rw [e]; exact ownsRow_below INV.out.1 hY, bl_tr INV.out.2 hY⟩)
      clear hL hq hml hB ho hlt hk KL
      have kp : (leadsB v = false ∧ (v.k == 7) = false ∧ (v.k == 9) = false) ∨ (leadsB v = true ∧ ((v.k == 7) = true ∨ (v.k == 7) = false ∧ (v.k == 9) = true)) := by
        unfold leadsB
        cases v.k == 7 <;> cases v.k == 9 <;> simp
      cases hi : inB live u.n
      · rw [hi, Bool.and_false] at KD
        simp only [cond_false, List.append_nil] at KD
        rw [hi] at CT
        clear hi kp
        go_wp2_with (first
          | (go_at_call 32; refine (callGr (IS.out _ (I1.out.below (by (repeat (with_reducible first | exact O2.out | exact Below.refl _ _ | refine bl_rapp ?_ | (refine bl_set ?_ (by first | omega | (simp; done) | (simp; omega)) _) | refine bl_gr ?_ _ | refine bl_al ?_ _ | refine bl_drewN ?_ _ | refine Below.drew ?_)))) (I2.out.below (by (repeat (with_reducible first | exact O2.out | exact Below.refl _ _ | refine bl_rapp ?_ | (refine bl_set ?_ (by first | omega | (simp; done) | (simp; omega)) _) | refine bl_gr ?_ _ | refine bl_al ?_ _ | refine bl_drewN ?_ _ | refine Below.drew ?_)))))).mono ?_; rintro e w' ⟨pp, rfl, rfl⟩)
          | (go_at_call 33; refine (CT.out _ (by (repeat (with_reducible first | exact O2.out | exact Below.refl _ _ | refine bl_rapp ?_ | (refine bl_set ?_ (by first | omega | (simp; done) | (simp; omega)) _) | refine bl_gr ?_ _ | refine bl_al ?_ _ | refine bl_drewN ?_ _ | refine Below.drew ?_)))).mono ?_; rintro e w' ⟨rfl, rfl⟩))
        go_roundw
        case rel => exact NO.out KD.out _ (by (repeat (with_reducible first  | exact Below.refl _ _ | refine bl_rapp ?_ | (refine bl_set ?_ (by first | omega | (simp; done) | (simp; omega)) _) | refine bl_gr ?_ _ | refine bl_al ?_ _ | refine bl_drewN ?_ _ | refine Below.drew ?_)))
        case measure => have := HQ.out.2; simp [intOf]; omega
      · rw [hi] at CT KD
        clear hi
        rcases kp with ⟨e1, e2, e3⟩ | ⟨e1, e2⟩
        · rw [e1, Bool.false_and] at KD
          simp only [cond_false, List.append_nil] at KD
          clear e1
          go_wp2_with (first
            | (go_at_call 32; refine (callGr (IS.out _ (I1.out.below (by (repeat (with_reducible first | exact O2.out | exact Below.refl _ _ | refine bl_rapp ?_ | (refine bl_set ?_ (by first | omega | (simp; done) | (simp; omega)) _) | refine bl_gr ?_ _ | refine bl_al ?_ _ | refine bl_drewN ?_ _ | refine Below.drew ?_)))) (I2.out.below (by (repeat (with_reducible first | exact O2.out | exact Below.refl _ _ | refine bl_rapp ?_ | (refine bl_set ?_ (by first | omega | (simp; done) | (simp; omega)) _) | refine bl_gr ?_ _ | refine bl_al ?_ _ | refine bl_drewN ?_ _ | refine Below.drew ?_)))))).mono ?_; rintro e w' ⟨pp, rfl, rfl⟩)
            | (go_at_call 33; refine (CT.out _ (by (repeat (with_reducible first | exact O2.out | exact Below.refl _ _ | refine bl_rapp ?_ | (refine bl_set ?_ (by first | omega | (simp; done) | (simp; omega)) _) | refine bl_gr ?_ _ | refine bl_al ?_ _ | refine bl_drewN ?_ _ | refine Below.drew ?_)))).mono ?_; rintro e w' ⟨rfl, rfl⟩))
          go_roundw
          case rel => exact NO.out KD.out _ (by (repeat (with_reducible first  | exact Below.refl _ _ | refine bl_rapp ?_ | (refine bl_set ?_ (by first | omega | (simp; done) | (simp; omega)) _) | refine bl_gr ?_ _ | refine bl_al ?_ _ | refine bl_drewN ?_ _ | refine Below.drew ?_)))
          case measure => have := HQ.out.2; simp [intOf]; omega
        · rw [e1, Bool.true_and] at KD
          simp only [cond_true] at KD
          clear e1
          rcases e2 with e2 | ⟨e2, e3⟩
          all_goals
            go_wp2_with (first
              | (go_at_call 32; refine (callGr (IS.out _ (I1.out.below (by (repeat (with_reducible first | exact O2.out | exact Below.refl _ _ | refine bl_rapp ?_ | (refine bl_set ?_ (by first | omega | (simp; done) | (simp; omega)) _) | refine bl_gr ?_ _ | refine bl_al ?_ _ | refine bl_drewN ?_ _ | refine Below.drew ?_)))) (I2.out.below (by (repeat (with_reducible first | exact O2.out | exact Below.refl _ _ | refine bl_rapp ?_ | (refine bl_set ?_ (by first | omega | (simp; done) | (simp; omega)) _) | refine bl_gr ?_ _ | refine bl_al ?_ _ | refine bl_drewN ?_ _ | refine Below.drew ?_)))))).mono ?_; rintro e w' ⟨pp, rfl, rfl⟩)
              | (go_at_call 33; refine (CT.out _ (by (repeat (with_reducible first | exact O2.out | exact Below.refl _ _ | refine bl_rapp ?_ | (refine bl_set ?_ (by first | omega | (simp; done) | (simp; omega)) _) | refine bl_gr ?_ _ | refine bl_al ?_ _ | refine bl_drewN ?_ _ | refine Below.drew ?_)))).mono ?_; rintro e w' ⟨rfl, rfl⟩)
              | (at_builtin; refine wpList_appI rfl W.heap.size (.tmp 43) (.tmp 46) rfl ks v.n (yv := .slice A9 ks.length n9) (by simp [Act.eval, Act.put]) (by simp [Act.eval, Act.put]; rfl) ?_ ?_ ?_ HKL.out ?_; (next => exact (show Below W.heap.size W _ by (repeat (with_reducible first | exact O2.out | exact Below.refl _ _ | refine bl_rapp ?_ | (refine bl_set ?_ (by first | omega | (simp; done) | (simp; omega)) _) | refine bl_gr ?_ _ | refine bl_al ?_ _ | refine bl_drewN ?_ _ | refine Below.drew ?_))).size); (next => exact ownsRow_below INV.out.1 (by (repeat (with_reducible first  | exact Below.refl _ _ | refine bl_rapp ?_ | (refine bl_set ?_ (by first | omega | (simp; done) | (simp; omega)) _) | refine bl_gr ?_ _ | refine bl_al ?_ _ | refine bl_drewN ?_ _ | refine Below.drew ?_)))); (next => first | exact heap_alloc_new _ _ | (have := heap_alloc_new ((gr wr pp).alloc (valB v)) (.cells #[.int .i64 v.n] 3); simpa [gr_size] using this)); intro g7 n7 w7 o7 t7; have B9 := Lib.hid (show Below W.heap.size W w7 from own_TI (by (repeat (with_reducible first | exact O2.out | exact Below.refl _ _ | refine bl_rapp ?_ | (refine bl_set ?_ (by first | omega | (simp; done) | (simp; omega)) _) | refine bl_gr ?_ _ | refine bl_al ?_ _ | refine bl_drewN ?_ _ | refine Below.drew ?_))) (ownsRow_below INV.out.1 (by (repeat (with_reducible first  | exact Below.refl _ _ | refine bl_rapp ?_ | (refine bl_set ?_ (by first | omega | (simp; done) | (simp; omega)) _) | refine bl_gr ?_ _ | refine bl_al ?_ _ | refine bl_drewN ?_ _ | refine Below.drew ?_)))) (Nat.le_refl _) t7); rw [← KD.out] at o7 ⊢; have O7 := Lib.hid o7; clear o7 t7))
            go_roundw
            case rel => exact ⟨k + 1, some ⟨g7, 0, none⟩, n7, by omega, by have := HQ.out.2; rw [show 2 * (k + 1) = q + 2 by omega]; go_num, rfl, O7.out, B9.out⟩
            case measure => have := HQ.out.2; simp [intOf]; omega
    · have hkm : k = m := by omega
      subst hkm
      rw [List.take_of_length_le (by simp)] at ho ⊢
      have h12 : ¬ ((2 * k : Nat) : Int) < c.mo.length := by omega
      have OI := Lib.hid (OwnI.isI ho)
      clear ho hml hlt hk INV
      generalize hks : opL live c.mo (List.finRange k) = ks at *
      have HKS := Lib.hid hks
      clear hks
      go_wp2_with (go_at_call 32; refine (callGr (IS.out _ (I1.out.below (by (repeat (with_reducible first | exact O2.out | exact Below.refl _ _ | refine bl_rapp ?_ | (refine bl_set ?_ (by first | omega | (simp; done) | (simp; omega)) _) | refine bl_gr ?_ _ | refine bl_al ?_ _ | refine bl_drewN ?_ _ | refine Below.drew ?_)))) (I2.out.below (by (repeat (with_reducible first | exact O2.out | exact Below.refl _ _ | refine bl_rapp ?_ | (refine bl_set ?_ (by first | omega | (simp; done) | (simp; omega)) _) | refine bl_gr ?_ _ | refine bl_al ?_ _ | refine bl_drewN ?_ _ | refine Below.drew ?_)))))).mono ?_; rintro e w' ⟨pp, rfl, rfl⟩)
      go_ret
      exact ⟨.slice A9 ks.length n9, rfl, by rw [HKS.out]; exact OI.out.below (by (repeat (with_reducible first  | exact Below.refl _ _ | refine bl_rapp ?_ | (refine bl_set ?_ (by first | omega | (simp; done) | (simp; omega)) _) | refine bl_gr ?_ _ | refine bl_al ?_ _ | refine bl_drewN ?_ _ | refine Below.drew ?_))), bl_tr BW.out (by (repeat (with_reducible first | exact O2.out | exact Below.refl _ _ | refine bl_rapp ?_ | (refine bl_set ?_ (by first | omega | (simp; done) | (simp; omega)) _) | refine bl_gr ?_ _ | refine bl_al ?_ _ | refine bl_drewN ?_ _ | refine Below.drew ?_)))⟩
set_option maxRecDepth 100000 in
set_option maxHeartbeats 8000000 in
theorem ropens_no (sv mv lv : Value) (c : CellD) (live : List Int) (hc : c.ok) (w : World) (h1 : IsV w sv c.sl) (h2 : IsV w mv c.mo) (h3 : IsI w lv live) (hb : isW c = false) :
    Calls Try.prog 15 #[cellV c.k c.sh c.fl c.ag sv mv, lv] w fun e w' => e = .returned (.slice none 0 0) ∧ Below w.heap.size w w' := by
  obtain ⟨A0, n0, rfl, _, _⟩ := h1.form
  obtain ⟨A2, n2, rfl, _, _⟩ := h2.form
  have H1 := Lib.hid h1
  have H2 := Lib.hid h2
  obtain ⟨A3, n3, rfl, _, _⟩ := h3.form
  have IS := Lib.hid (fun W a b => by have := ris_any _ _ c hc W a b; rw [hb] at this; exact this : ∀ (W : World), IsV W (.slice A0 c.sl.length n0) c.sl → IsV W (.slice A2 c.mo.length n2) c.mo → Calls Try.prog 32 #[cellV c.k c.sh c.fl c.ag (.slice A0 c.sl.length n0) (.slice A2 c.mo.length n2)] W fun e w' => e = .returned (.bool false) ∧ Below W.heap.size W w')
  clear h1 h2 h3 hc hb
  go_enter Try.func15, Try.ntmps15
  go_upto_region 1 with fail
  refine wp_world (fun W => W.heap[w.heap.size]? = some (cellO c.k c.sh c.fl c.ag (.slice A0 c.sl.length n0) (.slice A2 c.mo.length n2)) ∧ Below w.heap.size w W) ⟨heap_alloc_new _ _, bl_al (Below.refl _ _) _⟩ ?_
  rintro W ⟨j1, jb⟩
  have l0 : w.heap.size < W.heap.size := (Array.getElem?_eq_some_iff.1 j1).1
  have BW := Lib.hid jb
  have I1 := Lib.hid (H1.out.below jb)
  have I2 := Lib.hid (H2.out.below jb)
  have J := Lib.hid j1
  clear j1 jb H1 H2
  go_wp2
  go_loopw [5, 6] (fun kp i wr => kp = .slice none 0 0 ∧ i = .int .i64 0 ∧ wr = W) (fun _ _ _ => 0)
  case atStart => exact ⟨rfl, rfl, rfl⟩
  case round =>
    obtain ⟨rfl, rfl, rfl⟩ := hrel
    obtain ⟨⟨p0, p1, p2, p3, p4, p5⟩, _⟩ := cells6 J.out
    go_wp2_with (go_at_call 32; refine (callGr (IS.out _ (I1.out.below (by (repeat (with_reducible first  | exact Below.refl _ _ | refine bl_rapp ?_ | (refine bl_set ?_ (by first | omega | (simp; done) | (simp; omega)) _) | refine bl_gr ?_ _ | refine bl_al ?_ _ | refine bl_drewN ?_ _ | refine Below.drew ?_)))) (I2.out.below (by (repeat (with_reducible first  | exact Below.refl _ _ | refine bl_rapp ?_ | (refine bl_set ?_ (by first | omega | (simp; done) | (simp; omega)) _) | refine bl_gr ?_ _ | refine bl_al ?_ _ | refine bl_drewN ?_ _ | refine Below.drew ?_)))))).mono ?_; rintro e w' ⟨pp, rfl, rfl⟩)
    go_ret
    exact ⟨rfl, bl_tr BW.out (by (repeat (with_reducible first  | exact Below.refl _ _ | refine bl_rapp ?_ | (refine bl_set ?_ (by first | omega | (simp; done) | (simp; omega)) _) | refine bl_gr ?_ _ | refine bl_al ?_ _ | refine bl_drewN ?_ _ | refine Below.drew ?_)))⟩
theorem ropens_any (sv mv lv : Value) (c : CellD) (live : List Int) (hc : c.ok) (w : World) (h1 : IsV w sv c.sl) (h2 : IsV w mv c.mo) (h3 : IsI w lv live) :
    Calls Try.prog 15 #[cellV c.k c.sh c.fl c.ag sv mv, lv] w fun e w' => ∃ v, e = .returned v ∧ IsI w' v (opC c live) ∧ Below w.heap.size w w' := by
  cases hb : isW c
  · refine (ropens_no sv mv lv c live hc w h1 h2 h3 hb).mono ?_
    rintro e w' ⟨rfl, h⟩
    refine ⟨_, rfl, ?_, h⟩
    rw [show opC c live = [] by simp [opC, hb]]
    exact .nil_
  · obtain ⟨m, hm, _, hmx⟩ := isW_len hb
    rw [show opC c live = opL live c.mo (List.finRange m) by unfold opC; rw [if_pos hb, show c.mo.length / 2 = m by omega]]
    exact ropens_yes sv mv lv c live hc m hm hmx w h1 h2 h3 hb
end Go.Proofs.Ytdikdkllbhanfaa
