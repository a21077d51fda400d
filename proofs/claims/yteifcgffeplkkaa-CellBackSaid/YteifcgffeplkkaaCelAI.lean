/- Cells: the law CellBack, walked. -/
import Derived.Test.YteifcgffeplkkaaCelAH
import Derived.Deep.RegionHeldLaw
namespace Go.Proofs.Yteifcgffeplkkaa
set_option linter.all false
open Go.RowKit Go.Sort Go.Deep

theorem run_appI {w : World} {lo : Nat} {ty : TypeId} {yv sv : Value} {ys xs : List Int} (hown : OwnI w lo yv ys) (hlo : lo ≤ w.heap.size) (hsv : IsI w sv xs) (hf : ys.length + xs.length ≤ 1000000) :
    ∃ A n w', (Builtin.append_ #[28, 28] ty #[yv, sv]).run Try.prog w = .ok (.slice A (ys ++ xs).length n) w' ∧ OwnI w' lo (.slice A (ys ++ xs).length n) (ys ++ xs) ∧ w.grownBy w' yv.ownBlock := by
  obtain ⟨i, hi, hz, hsz, hby⟩ := info_parts int_info
  by_cases h0 : xs.length = 0
  · obtain rfl : xs = [] := List.eq_nil_of_length_eq_zero h0
    rw [List.append_nil]
    obtain ⟨A, c, rfl, _⟩ := hsv.form
    cases A with
    | none =>
      rcases hown.2 with ⟨rfl, hn⟩ | ⟨g, cap, cur, rfl, hb, hg, hnc, hcm, hcs, _⟩
      · refine ⟨none, 0, w, ?_, ?_, ⟨rfl, rfl, rfl, Nat.le_refl _, fun _ _ _ => rfl⟩⟩
        · rw [hn]
          simp [Builtin.append_, run_underlying Try.underlying28, sizeOf, typeInfo, hi, Builtin.lenOf, Builtin.firstCells, loadCells, loadCellsFrom]
        · rw [hn]
          exact hown
      · refine ⟨_, cap, w, ?_, hown, ⟨rfl, rfl, rfl, Nat.le_refl _, fun _ _ _ => rfl⟩⟩
        simp [Builtin.append_, run_underlying Try.underlying28, sizeOf, typeInfo, hi, Builtin.lenOf, Builtin.firstCells, storeCells, hnc]
    | some ad =>
      obtain ⟨v', w', hr, h2, h3, _⟩ := run_append_own (P := Try.prog) w lo 28 ty 3 i (.int .i64 0) 1 8 Try.underlying28 hi hz hsz hby rfl (by omega) yv ys.length (ys.map (Value.int .i64)) hown ad 0 c [] rfl (by simp) (by simp) (by unfold maxLen; omega) (by omega) hlo
      obtain ⟨A, n, rfl⟩ := ownsRow_form h2
      rw [List.append_nil] at h2
      exact ⟨A, n, w', hr, h2, h3⟩
  · obtain ⟨ad, c, rfl, hsrc⟩ := SlOf.src (en := intCs) (n := 1) (fun _ => rfl) hsv (Nat.pos_of_ne_zero h0)
    rw [flat_int] at hsrc
    obtain ⟨v', w', hr, h2, h3, _⟩ := run_append_own (P := Try.prog) w lo 28 ty 3 i (.int .i64 0) 1 8 Try.underlying28 hi hz hsz hby rfl (by omega) yv ys.length (ys.map (Value.int .i64)) hown ad xs.length c (xs.map (Value.int .i64)) (by simp) hsrc (by intro u hu; obtain ⟨x, _, rfl⟩ := List.mem_map.1 hu; rfl) (by unfold maxLen; omega) (by omega) hlo
    obtain ⟨A, n, rfl⟩ := ownsRow_form h2
    refine ⟨A, n, w', ?_, ?_, h3⟩
    · rw [List.length_append]; exact hr
    · unfold OwnI
      rw [List.length_append, List.map_append]
      exact h2
theorem step_appI {ops : Array Oper} {o : Oper} {a : Act} {w : World} {K : Act → World → Prop} {Q : Exit → Act → World → Prop} {E : Prop} (W : World)
    (hg : o.guard = none) (s x : Operand) (hop : o.op = Op.call { callee := Callee.builtin Builtin.append, args := #[s, x], argTypes := #[28, 28] })
    (ys xs : List Int) {yv sv : Value} (hs : a.eval s = yv) (hx : a.eval x = sv) (hB : Below W.heap.size W w) (hown : OwnI w W.heap.size yv ys) (hsv : IsI w sv xs) (hf : ys.length + xs.length ≤ 1000000)
    (hK : ∀ A n w', OwnI w' W.heap.size (.slice A (ys ++ xs).length n) (ys ++ xs) → Below W.heap.size W w' → K (a.put o.dst (.slice A (ys ++ xs).length n)) w') :
    if Region.wanted o (yielded ops a.tmps) = true then Oper.wp Try.prog o a w K Q else E := by
  have hw : Region.wanted o (yielded ops a.tmps) = true := by simp [Region.wanted, hg]
  rw [if_pos hw]
  obtain ⟨A, n, w', hr, h2, h3⟩ := run_appI (ty := o.type) hown hB.size hsv hf
  have hb : Below W.heap.size W w' := by
    refine hB.trans ⟨h3.os, h3.tape, h3.output, h3.size, fun k hk => h3.block k (Nat.lt_of_lt_of_le hk hB.size) fun e => ?_⟩
    have := (hown.lt _ e.symm).1
    omega
  unfold Oper.wp
  simp [execOp, hop, resolve, invoke, builtin, hs, hx, hr, Result.andThen]
  have := hK A n w' h2 hb
  rw [List.length_append] at this
  exact this

theorem back_of {sv mv fv tv : Value} {c : CellD} {fr : List Int} (hc : c.ok) (g : Gath fr (allA c)) (hl : c.sl.length ≤ 1100 ∧ c.mo.length ≤ 1100) (hn : fr.length ≤ 100000) {w : World}
    (h1 : IsV w sv (c.sl.map (movV (pairsM fr (tlOf fr.length))))) (h2 : IsV w mv (c.mo.map (movV (pairsM fr (tlOf fr.length))))) (h3 : IsI w fv fr) (h4 : IsI w tv (tlOf fr.length)) :
    Calls Try.prog 23 #[cellV c.k c.sh c.fl c.ag sv mv, tv, fv] w fun e w' => ∃ s m pp, e = .returned (cellV c.k c.sh c.fl c.ag s m) ∧ Hid (IsV (gr w pp) s c.sl ∧ IsV (gr w pp) m c.mo) ∧ w' = gr w pp := by
  have f1 : (c.mov (pairsM fr (tlOf fr.length))).fit := fit_small (by simpa [CellD.mov] using hl)
  refine (moved_any sv mv tv fv (c.mov (pairsM fr (tlOf fr.length))) (tlOf fr.length) fr (ok_mov hc g hn) (tlOf_ok hn) (fun x hx => ⟨by have := (g.2.2 x hx).1; omega, by have := (g.2.2 x hx).2; omega⟩) f1 (by rw [tlOf_len]; exact hn) w h1 h2 h4 h3).mono ?_
  rintro e w' ⟨s, m, rfl, o1, o2, hB⟩
  obtain ⟨q, rfl⟩ := gr_of_below hB
  refine ⟨s, m, q, rfl, Lib.hid ⟨?_, ?_⟩, rfl⟩
  · have e := map_back g (l := c.sl) (fun v hv => List.mem_append_left _ hv)
    rw [← e]
    exact o1
  · have e := map_back g (l := c.mo) (fun v hv => List.mem_append_right _ hv)
    rw [← e]
    exact o2
theorem rightm_of {sv mv : Value} {c : CellD} {fr : List Int} (hc : c.ok) (g : Gath fr (allA c)) (hn : fr.length ≤ 100000) {w : World}
    (h1 : IsV w sv (c.sl.map (movV (pairsM fr (tlOf fr.length))))) (h2 : IsV w mv (c.mo.map (movV (pairsM fr (tlOf fr.length))))) :
    Calls Try.prog 18 #[cellV c.k c.sh c.fl c.ag sv mv] w fun e w' => e = .returned (.bool (rightB c)) ∧ Below w.heap.size w w' := by
  have := right_any sv mv (c.mov (pairsM fr (tlOf fr.length))) (ok_mov hc g hn) w h1 h2
  rw [right_back g] at this
  exact this
theorem leadsm_of {sv mv : Value} {c : CellD} {fr : List Int} {k : Nat} (hc : c.ok) (g : Gath fr (allA c)) (hl : c.sl.length ≤ 1100 ∧ c.mo.length ≤ 1100) (hn : fr.length ≤ 100000) (hk : (addrD true (elemsD c)).length = k) {w : World}
    (h1 : IsV w sv (c.sl.map (movV (pairsM fr (tlOf fr.length))))) (h2 : IsV w mv (c.mo.map (movV (pairsM fr (tlOf fr.length))))) :
    Calls Try.prog 11 #[cellV c.k c.sh c.fl c.ag sv mv] w fun e w' => ∃ A n pp, e = .returned (.slice A k n) ∧ w' = gr w pp := by
  have h := callGrI (k := k) (by rw [addrD_mov]; exact hk) (leads_of sv mv (c.mov (pairsM fr (tlOf fr.length))) (ok_mov hc g hn) w h1 h2 (by simp [CellD.mov]; omega))
  refine h.mono ?_
  rintro e w' ⟨A, n, pp, rfl, _, rfl⟩
  exact ⟨A, n, pp, rfl, rfl⟩
theorem leads0_of {sv mv : Value} {c : CellD} {k : Nat} (hc : c.ok) (hl : c.sl.length ≤ 1100 ∧ c.mo.length ≤ 1100) (hk : (addrD true (elemsD c)).length = k) {w : World} (h1 : IsV w sv c.sl) (h2 : IsV w mv c.mo) :
    Calls Try.prog 11 #[cellV c.k c.sh c.fl c.ag sv mv] w fun e w' => ∃ A n pp, e = .returned (.slice A k n) ∧ w' = gr w pp := by
  have h := callGrI (k := k) hk (leads_of sv mv c hc w h1 h2 (by omega))
  refine h.mono ?_
  rintro e w' ⟨A, n, pp, rfl, _, rfl⟩
  exact ⟨A, n, pp, rfl, rfl⟩

/-- one number is appended to an own row -/
theorem wpList_push {w : World} {ops : Array Oper} {rest : List Oper} {o : Oper} {a : Act} {Q : Exit → Act → World → Prop} (hgd : o.guard = none) (s x : Operand)
    (ho : o.op = .call { callee := .builtin .append, args := #[s, x], argTypes := #[28, 28] }) (lo : Nat) (ys : List Int) (m : Nat) {yv : Value} {B : Nat}
    (hs : a.eval s = yv) (hx : a.eval x = .slice (some ⟨B, 0, none⟩) 1 1) (hlo : lo ≤ w.heap.size) (hown : w.ownsRow lo 3 1 yv m (ys.map (Value.int .i64))) (n : Int)
    (hblk : w.heap[B]? = some (.cells #[.int .i64 n] 3)) (hlen : m ≤ 100000)
    (hK : ∀ g cap w', w'.ownsRow lo 3 1 (.slice (some ⟨g, 0, none⟩) (m + 1) cap) (m + 1) ((ys ++ [n]).map (Value.int .i64)) → Touch (fun k => yv.ownBlock = some k) w w' → (yv.ownBlock = some g ∨ g = w.heap.size) → g < w'.heap.size →
      wpList Try.prog ops Q rest (a.put o.dst (.slice (some ⟨g, 0, none⟩) (m + 1) cap)) w') : wpList Try.prog ops Q (o :: rest) a w := by
  obtain ⟨i, hi, hz, hsz, hby⟩ := info_parts int_info
  refine wpList_append_lies w hgd s x 28 ho lo 3 i (.int .i64 0) 1 8 Try.underlying28 hi hz hsz hby rfl (by omega) yv m (ys.map (Value.int .i64)) hs hown ⟨B, 0, none⟩ 1 1 [.int .i64 n] hx rfl ?_ ?_ (by omega) (by unfold maxLen; omega) (by omega) hlo w.heap.size rfl ?_
  · intro j u hu
    cases j with
    | zero =>
      simp at hu
      subst hu
      exact cell_of_row w B _ _ _ _ hblk
    | succ j => simp at hu
  · intro u hu
    simp at hu
    subst hu
    rfl
  · intro g cap w' h1 h2 h3 h4
    refine hK g cap w' ?_ ⟨h2.os, h2.tape, h2.output, h2.size, fun k hk hn => h2.block k hk fun e => hn e.symm⟩ h3 h4
    rw [List.map_append]
    exact h1

set_option maxRecDepth 100000 in
set_option maxHeartbeats 8000000 in
theorem cellBack_any (sv mv : Value) (c : CellD) (hc : c.ok) (w : World) (h1 : IsV w sv c.sl) (h2 : IsV w mv c.mo) :
    Calls Try.prog 7 #[cellV c.k c.sh c.fl c.ag sv mv] w fun e w' => e = .returned (.bool true) ∧ Below w.heap.size w w' := by
  have H1 := Lib.hid h1
  have H2 := Lib.hid h2
  have OK := Lib.hid hc
  clear h1 h2 hc
  go_enter Try.func7, Try.ntmps7
  go_upto_region 1 with fail
  have hx := heap_alloc_new w (cellO c.k c.sh c.fl c.ag sv mv)
  generalize hW : w.alloc _ = W at hx ⊢
  have lt : w.heap.size < W.heap.size := by rw [← hW]; simp
  have B : Below w.heap.size w W := by rw [← hW]; exact bl_al (Below.refl _ _) _
  clear hW
  obtain ⟨⟨b0, b1, b2, b3, b4, b5⟩, _⟩ := cells6 hx
  have J1 := Lib.hid (H1.out.below B)
  have J2 := Lib.hid (H2.out.below B)
  have BB := Lib.hid B
  have HX := Lib.hid hx
  clear H1 H2 B hx
  go_upto_region 4 with (first
    | (go_at_call 8; refine (smallGr (small_any _ _ c OK.out _ (J1.out.below (by (repeat (with_reducible first | exact Below.refl _ _ | refine bl_rapp ?_ | (refine bl_set ?_ (by first | omega | (simp; done) | (simp; omega)) _) | refine bl_gr ?_ _ | refine bl_al ?_ _ | refine below_setRow ?_ (by first | omega | (simp; done) | (simp; omega)) _ | refine bl_drewN ?_ _ | refine Below.drew ?_ | (refine bl_tr ?_ (by assumption)))))) (J2.out.below (by (repeat (with_reducible first | exact Below.refl _ _ | refine bl_rapp ?_ | (refine bl_set ?_ (by first | omega | (simp; done) | (simp; omega)) _) | refine bl_gr ?_ _ | refine bl_al ?_ _ | refine below_setRow ?_ (by first | omega | (simp; done) | (simp; omega)) _ | refine bl_drewN ?_ _ | refine Below.drew ?_ | (refine bl_tr ?_ (by assumption)))))))).mono ?_; rintro e w' ⟨r, p0, rfl, hr, rfl⟩; cases r)
    | (go_at_call 9; refine (callGr (lives_any _)).mono ?_; rintro e w' ⟨pp, rfl, rfl⟩))
  · go_ret
    exact ⟨rfl, bl_tr BB.out (by (repeat (with_reducible first | exact Below.refl _ _ | refine bl_rapp ?_ | (refine bl_set ?_ (by first | omega | (simp; done) | (simp; omega)) _) | refine bl_gr ?_ _ | refine bl_al ?_ _ | refine below_setRow ?_ (by first | omega | (simp; done) | (simp; omega)) _ | refine bl_drewN ?_ _ | refine Below.drew ?_ | (refine bl_tr ?_ (by assumption)))))⟩
  · have ls : c.sl.length ≤ 1100 ∧ c.mo.length ≤ 1100 := by first | exact hr.out rfl | exact hr.out trivial | exact hr.out
    have LH := Lib.hid ls
    obtain ⟨W2, hW2⟩ : ∃ W2, W2 = gr W p0 := ⟨_, rfl⟩
    rw [← hW2]
    have jb : Below W.heap.size W W2 := by rw [hW2]; exact below_gr _ _
    clear hW2 ls hr
    have hx2 := (jb.block _ lt).trans HX.out
    have lt2 : w.heap.size < W2.heap.size := Nat.lt_of_lt_of_le lt jb.size
    have I1 := Lib.hid (J1.out.below jb)
    have I2 := Lib.hid (J2.out.below jb)
    have B2 := Lib.hid (bl_tr BB.out jb)
    have KK := Lib.hid (fun (W1 : World) (h : Below W2.heap.size W2 W1) => (h.block _ lt2).trans hx2)
    have LL := Lib.hid (show c.sl.length + c.mo.length ≤ 17592186044416 by have := LH.out; omega)
    have LA := Lib.hid (show (addrD true (elemsD c)).length ≤ 2200 ∧ (addrD false (elemsD c)).length ≤ 2200 by
      have a := addrD_len true (elemsD c)
      have b := addrD_len false (elemsD c)
      rw [elemsD_len] at a b
      have := LH.out
      omega)
    clear b0 b1 b2 b3 b4 b5 J1 J2 BB HX jb lt
    obtain ⟨⟨b0, b1, b2, b3, b4, b5⟩, _⟩ := cells6 hx2
    clear hx2
    go_cut [18, 19, 20] (fun s l i w' => ∃ A n, s = .slice A (allA c).length n ∧ l = .int .i64 (allA c).length ∧ i = .int .i64 0 ∧ IsI w' (.slice A (allA c).length n) (allA c) ∧ Below W2.heap.size W2 w')
    case first =>
      go_region_held_law (fun w' : World => w'.cell? ⟨w.heap.size, 0, none⟩ = some (.int .i64 c.k) ∧ w'.cell? ⟨w.heap.size, 1, none⟩ = some (.int .i64 c.sh) ∧ w'.cell? ⟨w.heap.size, 2, none⟩ = some (.int .i64 c.fl) ∧ w'.cell? ⟨w.heap.size, 3, none⟩ = some (.int .i64 c.ag) ∧ w'.cell? ⟨w.heap.size, 4, none⟩ = some sv ∧ w'.cell? ⟨w.heap.size, 5, none⟩ = some mv) (first | (and_intros <;> assumption) | (and_intros <;> go_simp)) (first
        | (refine step_call rfl 11 _ _ rfl #[cellV c.k c.sh c.fl c.ag sv mv] (by simp [Act.eval, Act.put]) (by go_simp) ((leads_of _ _ c OK.out _ (I1.out.below (by (repeat (with_reducible first | exact Below.refl _ _ | (refine bl_set ?_ (by first | omega | (simp; done) | (simp; omega)) _) | refine bl_gr ?_ _ | refine bl_al ?_ _ | refine below_setRow ?_ (by first | omega | (simp; done) | (simp; omega)) _ | refine bl_drewN ?_ _ | refine Below.drew ?_ | (refine bl_tr ?_ (by assumption)))))) (I2.out.below (by (repeat (with_reducible first | exact Below.refl _ _ | (refine bl_set ?_ (by first | omega | (simp; done) | (simp; omega)) _) | refine bl_gr ?_ _ | refine bl_al ?_ _ | refine below_setRow ?_ (by first | omega | (simp; done) | (simp; omega)) _ | refine bl_drewN ?_ _ | refine Below.drew ?_ | (refine bl_tr ?_ (by assumption)))))) LL.out).mono ?_); rintro e w3 ⟨v3, rfl, hi3, hb3⟩; refine ⟨_, rfl, ?_⟩; have T3 := Lib.hid (bl_tr (a := W2) (by (repeat (with_reducible first | exact Below.refl _ _ | (refine bl_set ?_ (by first | omega | (simp; done) | (simp; omega)) _) | refine bl_gr ?_ _ | refine bl_al ?_ _ | refine below_setRow ?_ (by first | omega | (simp; done) | (simp; omega)) _ | refine bl_drewN ?_ _ | refine Below.drew ?_ | (refine bl_tr ?_ (by assumption))))) hb3); have I3 := Lib.hid hi3; have HB3 := Lib.hid hb3; have l3 : w.heap.size < w3.heap.size := Nat.lt_of_lt_of_le lt2 T3.out.size; obtain ⟨⟨d0, d1, d2, d3, d4, d5⟩, _⟩ := cells6 (KK.out w3 T3.out); clear hi3 hb3)
        | (refine step_appI W2 rfl (.tmp 12) (.tmp 14) rfl [] (addrD true (elemsD c)) (by simp [Act.eval, Act.put]) (by simp [Act.eval, Act.put]) (bl_tr T3.out (by (repeat (with_reducible first | exact Below.refl _ _ | (refine bl_set ?_ (by first | omega | (simp; done) | (simp; omega)) _) | refine bl_gr ?_ _ | refine bl_al ?_ _ | refine below_setRow ?_ (by first | omega | (simp; done) | (simp; omega)) _ | refine bl_drewN ?_ _ | refine Below.drew ?_ | (refine bl_tr ?_ (by assumption)))))) (World.ownsRow_made _ #[] 0 T3.out.size (Nat.zero_le _) rfl) (I3.out.below (by (repeat (with_reducible first | exact Below.refl _ _ | (refine bl_set ?_ (by first | omega | (simp; done) | (simp; omega)) _) | refine bl_gr ?_ _ | refine bl_al ?_ _ | refine below_setRow ?_ (by first | omega | (simp; done) | (simp; omega)) _ | refine bl_drewN ?_ _ | refine Below.drew ?_ | (refine bl_tr ?_ (by assumption)))))) (by have := LA.out; simp; omega) ?_; intro A4 n4 w4 o4 t4; simp only [List.nil_append] at o4 ⊢; obtain ⟨⟨e0, e1, e2, e3, e4, e5⟩, _⟩ := cells6 (KK.out w4 t4); have O4 := Lib.hid o4; have T4 := Lib.hid t4; clear o4 t4)
        | (refine step_appI W2 rfl (.tmp 12) (.tmp 14) rfl [] (addrD true (elemsD c)) (by simp [Act.eval, Act.put]) (by simp [Act.eval, Act.put]) (bl_tr T3.out (by (repeat (with_reducible first | exact Below.refl _ _ | (refine bl_set ?_ (by first | omega | (simp; done) | (simp; omega)) _) | refine bl_gr ?_ _ | refine bl_al ?_ _ | refine below_setRow ?_ (by first | omega | (simp; done) | (simp; omega)) _ | refine bl_drewN ?_ _ | refine Below.drew ?_ | (refine bl_tr ?_ (by assumption)))))) (ownsRow_below (World.ownsRow_made W2 #[] 0 (Nat.le_refl _) (Nat.zero_le _) rfl) (bl_tr (by (repeat (with_reducible first | exact Below.refl _ _ | (refine bl_set ?_ (by first | omega | (simp; done) | (simp; omega)) _) | refine bl_gr ?_ _ | refine bl_al ?_ _ | refine below_setRow ?_ (by first | omega | (simp; done) | (simp; omega)) _ | refine bl_drewN ?_ _ | refine Below.drew ?_ | (refine bl_tr ?_ (by assumption))))) HB3.out)) (I3.out.below (by (repeat (with_reducible first | exact Below.refl _ _ | (refine bl_set ?_ (by first | omega | (simp; done) | (simp; omega)) _) | refine bl_gr ?_ _ | refine bl_al ?_ _ | refine below_setRow ?_ (by first | omega | (simp; done) | (simp; omega)) _ | refine bl_drewN ?_ _ | refine Below.drew ?_ | (refine bl_tr ?_ (by assumption)))))) (by have := LA.out; simp; omega) ?_; intro A4 n4 w4 o4 t4; simp only [List.nil_append] at o4 ⊢; obtain ⟨⟨e0, e1, e2, e3, e4, e5⟩, _⟩ := cells6 (KK.out w4 t4); have O4 := Lib.hid o4; have T4 := Lib.hid t4; clear o4 t4)
        | (refine step_call rfl 13 _ _ rfl #[cellV c.k c.sh c.fl c.ag sv mv] (by simp [Act.eval, Act.put]) (by go_simp) ((weakly_of _ _ c OK.out _ (I1.out.below T4.out) (I2.out.below T4.out) LL.out).mono ?_); rintro e w5 ⟨v5, rfl, hi5, hb5⟩; refine ⟨_, rfl, ?_⟩; have T5 := Lib.hid (bl_tr T4.out hb5); have I5 := Lib.hid hi5; have O5 := Lib.hid (ownsRow_below O4.out hb5); obtain ⟨⟨k0, k1, k2, k3, k4, k5⟩, _⟩ := cells6 (KK.out w5 T5.out); clear hi5 hb5)
        | (refine step_appI W2 rfl (.tmp 15) (.tmp 17) rfl (addrD true (elemsD c)) (addrD false (elemsD c)) (by simp [Act.eval, Act.put]) (by simp [Act.eval, Act.put]) T5.out O5.out I5.out (by have := LA.out; omega) ?_; intro A6 n6 w6 o6 t6; obtain ⟨⟨f0, f1, f2, f3, f4, f5⟩, _⟩ := cells6 (KK.out w6 t6); have O6 := Lib.hid (show IsI w6 (.slice A6 (allA c).length n6) (allA c) from OwnI.isI o6); have T6 := Lib.hid t6; clear o6 t6))
      all_goals go_simp
      all_goals go_wp2_with fail
      all_goals go_meet
      all_goals
        have e : (allA c).length = (addrD true (elemsD c)).length + (addrD false (elemsD c)).length := by unfold allA; rw [List.length_append]
        have ei : ((allA c).length : Int) = (addrD true (elemsD c)).length + (addrD false (elemsD c)).length := by rw [e]; omega
        exact ⟨A6, n6, by rw [e], by rw [ei], rfl, O6.out, T6.out⟩
    case rest =>
      obtain ⟨A, nA, rfl, rfl, rfl, hI, hB⟩ := hcut
      have TC := Lib.hid hB
      have IC := Lib.hid hI
      have lenL : (allA c).length ≤ 4400 := by
        have e : (allA c).length = (addrD true (elemsD c)).length + (addrD false (elemsD c)).length := by unfold allA; rw [List.length_append]
        have := LA.out
        omega
      clear hB hI b0 b1 b2 b3 b4 b5
      go_wp2
      generalize hL : allA c = L at *
      have EL := Lib.hid hL
      clear hL
      go_loopw [20, 3, 4] (fun i s u wr => ∃ (k : Nat) (fr : List Int) (A1 : Option Addr) (n1 : Nat) (A2 : Option Addr) (n2 : Nat), k ≤ L.length ∧ i = .int .i64 k ∧ s = .slice A1 fr.length n1 ∧ u = .slice A2 fr.length n2 ∧
        OwnI wr wc.heap.size (.slice A1 fr.length n1) fr ∧ wr.ownsRow wc.heap.size 3 1 (.slice A2 fr.length n2) fr.length ((tlOf fr.length).map (Value.int .i64)) ∧
        (∀ b, Value.ownBlock (.slice A1 fr.length n1) = some b → Value.ownBlock (.slice A2 fr.length n2) ≠ some b) ∧ Hid (Gath fr (L.take k)) ∧ fr.length ≤ k ∧ Below wc.heap.size wc wr) (fun i _ _ _ => L.length - (intOf i).toNat)
      case atStart => exact ⟨0, [], none, 0, none, 0, by omega, rfl, rfl, rfl, World.ownsRow_nil _ _ _ _, World.ownsRow_nil _ _ _ _, fun b h => (by cases h), Lib.hid Gath.nil, (by simp), Below.refl _ _⟩
      case round =>
        obtain ⟨k, fr, A1, n1, A2, n2, hk, rfl, rfl, rfl, o1, o2, od, hg, hfk, hbw⟩ := hrel
        have BW := Lib.hid hbw
        have O1 := Lib.hid o1
        have O2 := Lib.hid o2
        have OD := Lib.hid od
        have J1 := Lib.hid (OwnI.isI o1)
        clear o1 o2 od
        have TB := Lib.hid (bl_tr TC.out hbw)
        have RB := Lib.hid (bl_tr B2.out TB.out)
        by_cases hlt : k < L.length
        · obtain ⟨b1', o1', _, e1, _, hb1, hx⟩ := (IC.out.below hbw).at_ (by omega)
          simp only [Value.slice.injEq] at e1
          obtain ⟨rfl, _, rfl⟩ := e1
          obtain ⟨x, ex⟩ : ∃ x, L[k]? = some x := ⟨_, List.getElem?_eq_getElem hlt⟩
          have cx0 : wr.cell? ⟨b1', o1' + k, none⟩ = some (.int .i64 x) := by have := hx k x ex 0 _ rfl; simpa using this
          have ET := Lib.hid (show L.take (k + 1) = L.take k ++ [x] by rw [List.take_add_one, ex]; rfl)
          have q1 : (k : Int) < L.length := by omega
          clear hx ex hbw
          have cz : x < 1 ∨ (¬ x < 1 ∧ 1099511627776 < x) ∨ (¬ x < 1 ∧ ¬ 1099511627776 < x) := by omega
          rcases cz with z1 | ⟨z1, z2⟩ | ⟨z1, z2⟩
          · go_wp2_with (go_at_call 9; refine (callGr (lives_any _)).mono ?_; rintro e w' ⟨pp, rfl, rfl⟩)
            go_ret
            exact ⟨rfl, bl_tr RB.out (by (repeat (with_reducible first | exact Below.refl _ _ | refine bl_rapp ?_ | (refine bl_set ?_ (by first | omega | (simp; done) | (simp; omega)) _) | refine bl_gr ?_ _ | refine bl_al ?_ _ | refine below_setRow ?_ (by first | omega | (simp; done) | (simp; omega)) _ | refine bl_drewN ?_ _ | refine Below.drew ?_ | (refine bl_tr ?_ (by assumption)))))⟩
          · go_wp2_with (go_at_call 9; refine (callGr (lives_any _)).mono ?_; rintro e w' ⟨pp, rfl, rfl⟩)
            go_ret
            exact ⟨rfl, bl_tr RB.out (by (repeat (with_reducible first | exact Below.refl _ _ | refine bl_rapp ?_ | (refine bl_set ?_ (by first | omega | (simp; done) | (simp; omega)) _) | refine bl_gr ?_ _ | refine bl_al ?_ _ | refine below_setRow ?_ (by first | omega | (simp; done) | (simp; omega)) _ | refine bl_drewN ?_ _ | refine Below.drew ?_ | (refine bl_tr ?_ (by assumption)))))⟩
          · by_cases hm : x ∈ fr
            · obtain ⟨m, hmc⟩ : ∃ m : Nat, fr.count x = m + 1 := ⟨fr.count x - 1, by have := List.count_pos_iff.2 hm; omega⟩
              have CQ := Lib.hid (fun (W : World) (h : Below wr.heap.size wr W) => by have := counts_any _ fr x W (J1.out.below h); rw [hmc] at this; exact this : ∀ W : World, Below wr.heap.size wr W → Calls Try.prog 17 #[.slice A1 fr.length n1, .int .i64 x] W fun e w' => e = .returned (.int .i64 ((m + 1 : Nat) : Int)) ∧ Below W.heap.size W w')
              have hq : (((m + 1 : Nat) : Int) == 0) = false := beq_eq_false_iff_ne.2 (by omega)
              have G2 := Lib.hid (hg.out.old hm)
              clear hmc hm hg
              generalize ((m + 1 : Nat) : Int) = mm at *
              go_wp2_with (go_at_call 17; refine (callGr (CQ.out _ (by (repeat (with_reducible first | exact Below.refl _ _ | (refine bl_set ?_ (by first | omega | (simp; done) | (simp; omega)) _) | refine bl_gr ?_ _ | refine bl_al ?_ _ | refine below_setRow ?_ (by first | omega | (simp; done) | (simp; omega)) _ | refine bl_drewN ?_ _ | refine Below.drew ?_ | (refine bl_tr ?_ (by assumption))))))).mono ?_; rintro e w' ⟨pp, rfl, rfl⟩)
              go_roundw
              case rel => exact ⟨k + 1, fr, A1, n1, A2, n2, by omega, by go_num, rfl, rfl, ownsRow_below O1.out (by (repeat (with_reducible first | exact Below.refl _ _ | (refine bl_set ?_ (by first | omega | (simp; done) | (simp; omega)) _) | refine bl_gr ?_ _ | refine bl_al ?_ _ | refine below_setRow ?_ (by first | omega | (simp; done) | (simp; omega)) _ | refine bl_drewN ?_ _ | refine Below.drew ?_ | (refine bl_tr ?_ (by assumption))))), ownsRow_below O2.out (by (repeat (with_reducible first | exact Below.refl _ _ | (refine bl_set ?_ (by first | omega | (simp; done) | (simp; omega)) _) | refine bl_gr ?_ _ | refine bl_al ?_ _ | refine below_setRow ?_ (by first | omega | (simp; done) | (simp; omega)) _ | refine bl_drewN ?_ _ | refine Below.drew ?_ | (refine bl_tr ?_ (by assumption))))), OD.out, Lib.hid (by rw [ET.out]; exact G2.out), by omega, bl_tr BW.out (by (repeat (with_reducible first | exact Below.refl _ _ | (refine bl_set ?_ (by first | omega | (simp; done) | (simp; omega)) _) | refine bl_gr ?_ _ | refine bl_al ?_ _ | refine below_setRow ?_ (by first | omega | (simp; done) | (simp; omega)) _ | refine bl_drewN ?_ _ | refine Below.drew ?_ | (refine bl_tr ?_ (by assumption)))))⟩
              case measure => simp [intOf]; omega
            · have CQ := Lib.hid (fun (W : World) (h : Below wr.heap.size wr W) => by have := counts_any _ fr x W (J1.out.below h); rw [List.count_eq_zero_of_not_mem hm] at this; exact this : ∀ W : World, Below wr.heap.size wr W → Calls Try.prog 17 #[.slice A1 fr.length n1, .int .i64 x] W fun e w' => e = .returned (.int .i64 0) ∧ Below W.heap.size W w')
              have G2 := Lib.hid (hg.out.new hm (by omega) (by omega))
              clear hm hg
              have hw1 : wrap64 (2199023255552 + (fr.length : Int)) = 2199023255552 + (fr.length : Int) := by simp only [wrap64]; omega
              have hw2 : IntKind.i64.wrap (2199023255552 + (fr.length : Int)) = 2199023255552 + (fr.length : Int) := by rw [IntKind.wrap_i64]; omega
              go_wp2_with (first
                | (go_at_call 17; refine (callGr (CQ.out _ (by (repeat (with_reducible first | exact Below.refl _ _ | (refine bl_set ?_ (by first | omega | (simp; done) | (simp; omega)) _) | refine bl_gr ?_ _ | refine bl_al ?_ _ | refine below_setRow ?_ (by first | omega | (simp; done) | (simp; omega)) _ | refine bl_drewN ?_ _ | refine Below.drew ?_ | (refine bl_tr ?_ (by assumption))))))).mono ?_; rintro e w' ⟨pp, rfl, rfl⟩)
                | (at_builtin; refine wpList_push rfl _ _ rfl wc.heap.size (tlOf fr.length) fr.length rfl rfl ?_ (P5.out.alloc _) (2199023255552 + (fr.length : Int)) (heap_alloc_new _ _) (by omega) ?_; (next => (have := Q5.out.2.2.size; rw [World.size_alloc]; omega)); intro g6 n6 w6 r6 t6 gg6 lt6; have Q6 := Lib.hid (And.intro r6 (And.intro t6 (And.intro gg6 lt6))); clear r6 t6 gg6 lt6)
                | (at_builtin; refine wpList_push rfl _ _ rfl wc.heap.size fr fr.length rfl rfl ?_ ((ownsRow_below O1.out (below_gr wr pp)).alloc _) x ?_ (by omega) ?_; (next => (have := BW.out.size; rw [World.size_alloc, gr_size]; omega)); (next => (have := heap_alloc_new (gr wr pp) (.cells #[.int .i64 x] 3); rw [gr_size] at this; exact this)); intro g5 n5 w5 r5 t5 gg5 lt5; have T5 := (((Touch.refl (fun k => Value.ownBlock (.slice A1 fr.length n1) = some k) wr).gr pp).alloc (.cells #[.int .i64 x] 3)).trans t5 (fun _ _ h => h); have P5 := Lib.hid (ownsRow_touch O2.out T5 (fun g hg e => OD.out g e hg)); have Q5 := Lib.hid (And.intro r5 (And.intro (And.intro gg5 lt5) (BW.out.trans (T5.below BW.out.size (fun k e => (O1.out.lt _ e).1))))); clear r5 t5 gg5 lt5 T5))
              have nd : ∀ g, Value.ownBlock (.slice A2 fr.length n2) = some g → g ≠ g5 := by
                intro g hg e
                subst e
                rcases Q5.out.2.1.1 with h | h
                · exact OD.out g h hg
                · have := (O2.out.lt _ hg).2
                  rw [World.size_alloc, gr_size] at h
                  omega
              have T6 : Touch (fun k => Value.ownBlock (.slice A2 fr.length n2) = some k) w5 w6 := ((Touch.refl _ w5).alloc _).trans Q6.out.2.1 (fun _ _ h => h)
              have r5 := ownsRow_touch Q5.out.1 T6 (fun g hg e => nd g e (by simpa [Value.ownBlock] using hg.symm))
              have r6 := Q6.out.1
              rw [← tlOf_succ] at r6
              have dd : ∀ b, Value.ownBlock (.slice (some ⟨g5, 0, none⟩) (fr.length + 1) n5) = some b → Value.ownBlock (.slice (some ⟨g6, 0, none⟩) (fr.length + 1) n6) ≠ some b := by
                intro b h1 h2
                simp only [Value.ownBlock, Option.some.injEq] at h1 h2
                subst h1
                rcases Q6.out.2.2.1 with h | h
                · exact nd _ h h2
                · rw [World.size_alloc] at h
                  have := Q5.out.2.1.2
                  omega
              have b6 : Below wc.heap.size wc w6 := Q5.out.2.2.trans (T6.below Q5.out.2.2.size (fun k e => (O2.out.lt _ e).1))
              have R := Lib.hid (And.intro r5 (And.intro r6 (And.intro dd b6)))
              clear r5 r6 dd b6 nd T6 hw1 hw2
              go_roundw
              case rel =>
                have e : (fr ++ [x]).length = fr.length + 1 := by simp
                refine ⟨k + 1, fr ++ [x], some ⟨g5, 0, none⟩, n5, some ⟨g6, 0, none⟩, n6, by omega, by go_num, by rw [e], by rw [e], ?_, ?_, ?_, Lib.hid (by rw [ET.out]; exact G2.out), by omega, R.out.2.2.2⟩
                · unfold OwnI; rw [e]; exact R.out.1
                · rw [e]; exact R.out.2.1
                · rw [e]; exact R.out.2.2.1
              case measure => simp [intOf]; omega
        · have q1 : ¬ (k : Int) < L.length := by omega
          have GA := Lib.hid (show Gath fr (allA c) by rw [EL.out]; have := hg.out; rwa [List.take_of_length_le (by omega)] at this)
          have J2 := Lib.hid (show IsI wr (.slice A2 fr.length n2) (tlOf fr.length) from OwnI.isI (show OwnI wr wc.heap.size (.slice A2 fr.length n2) (tlOf fr.length) by unfold OwnI; rw [tlOf_len]; exact O2.out))
          have fl : fr.length ≤ 100000 := by omega
          have FL := Lib.hid fl
          have FC := Lib.hid (fit_small LH.out)
          have K1 := Lib.hid (KK.out wr TB.out)
          have V1 := Lib.hid (I1.out.below TB.out)
          have V2 := Lib.hid (I2.out.below TB.out)
          have lw : w.heap.size < wr.heap.size := Nat.lt_of_lt_of_le lt2 TB.out.size
          obtain ⟨⟨b0, b1, b2, b3, b4, b5⟩, _⟩ := cells6 K1.out
          clear hg hbw O1 O2 OD BW TB TC IC KK I1 I2 B2 EL fl lt2
          go_upto_region 14 with (go_at_call 23; refine (moved_any sv mv _ _ c fr (tlOf fr.length) OK.out (fun x hx => ⟨by have := (GA.out.2.2 x hx).1; omega, by have := (GA.out.2.2 x hx).2; omega⟩) (tlOf_ok FL.out) FC.out FL.out _ V1.out V2.out J1.out J2.out).mono ?_; rintro e w7 ⟨s7, m7, rfl, hs7, hm7, hb7⟩; obtain ⟨A7, n7, e7, _, _⟩ := hs7.form; rw [List.length_map] at e7; subst e7; obtain ⟨A8, n8, e8, _, _⟩ := hm7.form; rw [List.length_map] at e8; subst e8; have S7 := Lib.hid (And.intro hs7 (And.intro hm7 hb7)); clear hs7 hm7 hb7)
          refine wp_world (fun W => Below w7.heap.size w7 W ∧ W.heap[w7.heap.size]? = some (cellO c.k c.sh c.fl c.ag (.slice A7 c.sl.length n7) (.slice A8 c.mo.length n8))) ⟨by (repeat (with_reducible first | exact Below.refl _ _ | (refine bl_set ?_ (by first | omega | (simp; done) | (simp; omega)) _) | refine bl_gr ?_ _ | refine bl_al ?_ _ | refine below_setRow ?_ (by first | omega | (simp; done) | (simp; omega)) _ | refine bl_drewN ?_ _ | refine Below.drew ?_ | (refine bl_tr ?_ (by assumption)))), heap_alloc_new _ _⟩ ?_
          rintro w8 ⟨hb8, k8⟩
          have hb7 := S7.out.2.2
          have hb := bl_tr hb7 hb8
          have k1 := (hb.block _ lw).trans K1.out
          have X1 := Lib.hid (S7.out.1.below hb8)
          have X2 := Lib.hid (S7.out.2.1.below hb8)
          have Y1 := Lib.hid (V1.out.below hb)
          have Y2 := Lib.hid (V2.out.below hb)
          have Z1 := Lib.hid (J1.out.below hb)
          have Z2 := Lib.hid (J2.out.below hb)
          have RE := Lib.hid (bl_tr RB.out hb)
          have l7 : w7.heap.size < w8.heap.size := (Array.getElem?_eq_some_iff.1 k8).1
          have l1 : w.heap.size < w8.heap.size := (Array.getElem?_eq_some_iff.1 k1).1
          obtain ⟨⟨d0, d1, d2, d3, d4, d5⟩, _⟩ := cells6 k8
          clear b0 b1 b2 b3 b4 b5
          obtain ⟨⟨b0, b1, b2, b3, b4, b5⟩, _⟩ := cells6 k1
          generalize h7 : w7.heap.size = B7 at *
          obtain ⟨kk, hkk⟩ : ∃ kk, (addrD true (elemsD c)).length = kk := ⟨_, rfl⟩
          have HK := Lib.hid hkk
          clear h7 hb8 k8 hb7 hb k1 S7 K1 V1 V2 J1 J2 RB lw hkk q1 hlt hk hfk
          go_region_held3 (fun w' : World => w'.cell? ⟨w.heap.size, 0, none⟩ = some (.int .i64 c.k) ∧ w'.cell? ⟨w.heap.size, 1, none⟩ = some (.int .i64 c.sh) ∧ w'.cell? ⟨w.heap.size, 2, none⟩ = some (.int .i64 c.fl) ∧ w'.cell? ⟨w.heap.size, 3, none⟩ = some (.int .i64 c.ag) ∧ w'.cell? ⟨w.heap.size, 4, none⟩ = some sv ∧ w'.cell? ⟨w.heap.size, 5, none⟩ = some mv ∧
            w'.cell? ⟨B7, 0, none⟩ = some (.int .i64 c.k) ∧ w'.cell? ⟨B7, 1, none⟩ = some (.int .i64 c.sh) ∧ w'.cell? ⟨B7, 2, none⟩ = some (.int .i64 c.fl) ∧ w'.cell? ⟨B7, 3, none⟩ = some (.int .i64 c.ag) ∧ w'.cell? ⟨B7, 4, none⟩ = some (.slice A7 c.sl.length n7) ∧ w'.cell? ⟨B7, 5, none⟩ = some (.slice A8 c.mo.length n8)) (and_intros <;> go_simp) (first
            | (go_at_call 23; refine (back_of OK.out GA.out LH.out FL.out (X1.out.below (by (repeat (with_reducible first | exact Below.refl _ _ | refine bl_rapp ?_ | (refine bl_set ?_ (by first | omega | (simp; done) | (simp; omega)) _) | refine bl_gr ?_ _ | refine bl_al ?_ _ | refine below_setRow ?_ (by first | omega | (simp; done) | (simp; omega)) _ | refine bl_drewN ?_ _ | refine Below.drew ?_ | (refine bl_tr ?_ (by assumption)))))) (X2.out.below (by (repeat (with_reducible first | exact Below.refl _ _ | refine bl_rapp ?_ | (refine bl_set ?_ (by first | omega | (simp; done) | (simp; omega)) _) | refine bl_gr ?_ _ | refine bl_al ?_ _ | refine below_setRow ?_ (by first | omega | (simp; done) | (simp; omega)) _ | refine bl_drewN ?_ _ | refine Below.drew ?_ | (refine bl_tr ?_ (by assumption)))))) (Z1.out.below (by (repeat (with_reducible first | exact Below.refl _ _ | refine bl_rapp ?_ | (refine bl_set ?_ (by first | omega | (simp; done) | (simp; omega)) _) | refine bl_gr ?_ _ | refine bl_al ?_ _ | refine below_setRow ?_ (by first | omega | (simp; done) | (simp; omega)) _ | refine bl_drewN ?_ _ | refine Below.drew ?_ | (refine bl_tr ?_ (by assumption)))))) (Z2.out.below (by (repeat (with_reducible first | exact Below.refl _ _ | refine bl_rapp ?_ | (refine bl_set ?_ (by first | omega | (simp; done) | (simp; omega)) _) | refine bl_gr ?_ _ | refine bl_al ?_ _ | refine below_setRow ?_ (by first | omega | (simp; done) | (simp; omega)) _ | refine bl_drewN ?_ _ | refine Below.drew ?_ | (refine bl_tr ?_ (by assumption))))))).mono ?_; rintro e w' ⟨s9, m9, p9, rfl, I9, rfl⟩)
            | (go_at_call 20; have i1 := I9.out.1; have i2 := I9.out.2; (try simp only [gr_gr, drew_gr] at i1 i2); refine (callGr (rsame_eq (i1.below (by (repeat (with_reducible first | exact Below.refl _ _ | refine bl_rapp ?_ | (refine bl_set ?_ (by first | omega | (simp; done) | (simp; omega)) _) | refine bl_gr ?_ _ | refine bl_al ?_ _ | refine below_setRow ?_ (by first | omega | (simp; done) | (simp; omega)) _ | refine bl_drewN ?_ _ | refine Below.drew ?_ | (refine bl_tr ?_ (by assumption)))))) (i2.below (by (repeat (with_reducible first | exact Below.refl _ _ | refine bl_rapp ?_ | (refine bl_set ?_ (by first | omega | (simp; done) | (simp; omega)) _) | refine bl_gr ?_ _ | refine bl_al ?_ _ | refine below_setRow ?_ (by first | omega | (simp; done) | (simp; omega)) _ | refine bl_drewN ?_ _ | refine Below.drew ?_ | (refine bl_tr ?_ (by assumption)))))) (Y1.out.below (by (repeat (with_reducible first | exact Below.refl _ _ | refine bl_rapp ?_ | (refine bl_set ?_ (by first | omega | (simp; done) | (simp; omega)) _) | refine bl_gr ?_ _ | refine bl_al ?_ _ | refine below_setRow ?_ (by first | omega | (simp; done) | (simp; omega)) _ | refine bl_drewN ?_ _ | refine Below.drew ?_ | (refine bl_tr ?_ (by assumption)))))) (Y2.out.below (by (repeat (with_reducible first | exact Below.refl _ _ | refine bl_rapp ?_ | (refine bl_set ?_ (by first | omega | (simp; done) | (simp; omega)) _) | refine bl_gr ?_ _ | refine bl_al ?_ _ | refine below_setRow ?_ (by first | omega | (simp; done) | (simp; omega)) _ | refine bl_drewN ?_ _ | refine Below.drew ?_ | (refine bl_tr ?_ (by assumption)))))))).mono ?_; rintro e w' ⟨p5, rfl, rfl⟩; clear i1 i2)
            | (go_at_call_of 18 (sv); refine (callGr (right_any _ _ c OK.out _ (Y1.out.below (by (repeat (with_reducible first | exact Below.refl _ _ | refine bl_rapp ?_ | (refine bl_set ?_ (by first | omega | (simp; done) | (simp; omega)) _) | refine bl_gr ?_ _ | refine bl_al ?_ _ | refine below_setRow ?_ (by first | omega | (simp; done) | (simp; omega)) _ | refine bl_drewN ?_ _ | refine Below.drew ?_ | (refine bl_tr ?_ (by assumption)))))) (Y2.out.below (by (repeat (with_reducible first | exact Below.refl _ _ | refine bl_rapp ?_ | (refine bl_set ?_ (by first | omega | (simp; done) | (simp; omega)) _) | refine bl_gr ?_ _ | refine bl_al ?_ _ | refine below_setRow ?_ (by first | omega | (simp; done) | (simp; omega)) _ | refine bl_drewN ?_ _ | refine Below.drew ?_ | (refine bl_tr ?_ (by assumption)))))))).mono ?_; rintro e w' ⟨pp, rfl, rfl⟩)
            | (go_at_call 18; refine (callGr (rightm_of OK.out GA.out FL.out (X1.out.below (by (repeat (with_reducible first | exact Below.refl _ _ | refine bl_rapp ?_ | (refine bl_set ?_ (by first | omega | (simp; done) | (simp; omega)) _) | refine bl_gr ?_ _ | refine bl_al ?_ _ | refine below_setRow ?_ (by first | omega | (simp; done) | (simp; omega)) _ | refine bl_drewN ?_ _ | refine Below.drew ?_ | (refine bl_tr ?_ (by assumption)))))) (X2.out.below (by (repeat (with_reducible first | exact Below.refl _ _ | refine bl_rapp ?_ | (refine bl_set ?_ (by first | omega | (simp; done) | (simp; omega)) _) | refine bl_gr ?_ _ | refine bl_al ?_ _ | refine below_setRow ?_ (by first | omega | (simp; done) | (simp; omega)) _ | refine bl_drewN ?_ _ | refine Below.drew ?_ | (refine bl_tr ?_ (by assumption)))))))).mono ?_; rintro e w' ⟨pp, rfl, rfl⟩)
            | (go_at_call_of 11 sv; refine (leads0_of OK.out LH.out HK.out (Y1.out.below (by (repeat (with_reducible first | exact Below.refl _ _ | refine bl_rapp ?_ | (refine bl_set ?_ (by first | omega | (simp; done) | (simp; omega)) _) | refine bl_gr ?_ _ | refine bl_al ?_ _ | refine below_setRow ?_ (by first | omega | (simp; done) | (simp; omega)) _ | refine bl_drewN ?_ _ | refine Below.drew ?_ | (refine bl_tr ?_ (by assumption)))))) (Y2.out.below (by (repeat (with_reducible first | exact Below.refl _ _ | refine bl_rapp ?_ | (refine bl_set ?_ (by first | omega | (simp; done) | (simp; omega)) _) | refine bl_gr ?_ _ | refine bl_al ?_ _ | refine below_setRow ?_ (by first | omega | (simp; done) | (simp; omega)) _ | refine bl_drewN ?_ _ | refine Below.drew ?_ | (refine bl_tr ?_ (by assumption))))))).mono ?_; rintro e w' ⟨Aa, na, pa, rfl, rfl⟩)
            | (go_at_call 11; refine (leadsm_of OK.out GA.out LH.out FL.out HK.out (X1.out.below (by (repeat (with_reducible first | exact Below.refl _ _ | refine bl_rapp ?_ | (refine bl_set ?_ (by first | omega | (simp; done) | (simp; omega)) _) | refine bl_gr ?_ _ | refine bl_al ?_ _ | refine below_setRow ?_ (by first | omega | (simp; done) | (simp; omega)) _ | refine bl_drewN ?_ _ | refine Below.drew ?_ | (refine bl_tr ?_ (by assumption)))))) (X2.out.below (by (repeat (with_reducible first | exact Below.refl _ _ | refine bl_rapp ?_ | (refine bl_set ?_ (by first | omega | (simp; done) | (simp; omega)) _) | refine bl_gr ?_ _ | refine bl_al ?_ _ | refine below_setRow ?_ (by first | omega | (simp; done) | (simp; omega)) _ | refine bl_drewN ?_ _ | refine Below.drew ?_ | (refine bl_tr ?_ (by assumption))))))).mono ?_; rintro e w' ⟨Ab, nb, pb, rfl, rfl⟩)
            | (go_at_call 9; refine (callGr (lives_any _)).mono ?_; rintro e w' ⟨pp, rfl, rfl⟩))
          all_goals go_wp2_with fail
          all_goals go_ret
          all_goals exact ⟨rfl, bl_tr RE.out (by (repeat (with_reducible first | exact Below.refl _ _ | refine bl_rapp ?_ | (refine bl_set ?_ (by first | omega | (simp; done) | (simp; omega)) _) | refine bl_gr ?_ _ | refine bl_al ?_ _ | refine below_setRow ?_ (by first | omega | (simp; done) | (simp; omega)) _ | refine bl_drewN ?_ _ | refine Below.drew ?_ | (refine bl_tr ?_ (by assumption)))))⟩
end Go.Proofs.Yteifcgffeplkkaa
