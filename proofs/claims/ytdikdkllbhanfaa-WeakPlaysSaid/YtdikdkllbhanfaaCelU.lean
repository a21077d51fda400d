/- Cells: Same and lists of values. -/
import Derived.Test.YtdikdkllbhanfaaCelA
namespace Go.Proofs.Ytdikdkllbhanfaa
set_option linter.all false
open Go.RowKit Go.Sort Go.Deep

set_option maxHeartbeats 1000000 in
theorem samev_any (a b : Value) (xs ys : List Val) (w : World) (ha : IsV w a xs) (hb : IsV w b ys) :
    Calls Try.prog 31 #[a, b] w fun e w' => e = .returned (.bool (decide (xs = ys))) ∧ Below w.heap.size w w' := by
  obtain ⟨A, ca, rfl, hca, hma⟩ := ha.form
  obtain ⟨B, cb, rfl, hcb, hmb⟩ := hb.form
  unfold maxLen at hma hmb
  by_cases hl : xs.length = ys.length
  case neg =>
    go_enter Try.func31, Try.ntmps31
    go_wp2
    go_ret
    exact ⟨ret_bool (by symm; simp; intro h; exact hl (by rw [h])), by (repeat (with_reducible first | exact Below.refl _ _ | (refine bl_set ?_ (by first | omega | (simp; done) | (simp; omega)) _) | refine bl_gr ?_ _ | refine bl_al ?_ _ | refine below_setRow ?_ (by first | omega | (simp; done) | (simp; omega)) _ | refine bl_drewN ?_ _ | refine Below.drew ?_ | (refine bl_tr ?_ (by assumption))))⟩
  have HL := Lib.hid hl
  have hle1 : xs.length ≤ ys.length := by omega
  have hle2 : ys.length ≤ xs.length := by omega
  have hne : ((xs.length : Int) != (ys.length : Int)) = false := by simp [hl]
  clear hl
  go_enter Try.func31, Try.ntmps31
  go_wp2
  go_loopw [5] (fun i wr => ∃ k : Nat, k ≤ xs.length ∧ i = .int .i64 k ∧ xs.take k = ys.take k ∧ Below w.heap.size w wr) (fun i _ => xs.length - (intOf i).toNat)
  case atStart => exact ⟨0, by omega, rfl, rfl, Below.refl _ _⟩
  case round =>
    obtain ⟨k, hk, rfl, htk, hbw⟩ := hrel
    have HT := Lib.hid htk
    clear htk
    by_cases hlt : k < xs.length
    · obtain ⟨b1, o1, _, e1, _, hb1, hx⟩ := (ha.below hbw).at_ (by omega)
      obtain ⟨b2, o2, _, e2, _, hb2, hy⟩ := (hb.below hbw).at_ (by omega)
      simp only [Value.slice.injEq] at e1 e2
      obtain ⟨rfl, _, rfl⟩ := e1
      obtain ⟨rfl, _, rfl⟩ := e2
      have hlt2 : k < ys.length := by omega
      obtain ⟨x, ex⟩ : ∃ x, xs[k]? = some x := ⟨_, List.getElem?_eq_getElem hlt⟩
      obtain ⟨y, ey⟩ : ∃ y, ys[k]? = some y := ⟨_, List.getElem?_eq_getElem hlt2⟩
      have cx0 : wr.cell? ⟨b1, o1 + k * 3, none⟩ = some (.int .i64 x.k) := hx k x ex 0 _ rfl
      have cx1 : wr.cell? ⟨b1, o1 + k * 3 + 1, none⟩ = some (.int .i64 x.n) := hx k x ex 1 _ rfl
      have cx2 : wr.cell? ⟨b1, o1 + k * 3 + 2, none⟩ = some (.string x.s) := hx k x ex 2 _ rfl
      have cy0 : wr.cell? ⟨b2, o2 + k * 3, none⟩ = some (.int .i64 y.k) := hy k y ey 0 _ rfl
      have cy1 : wr.cell? ⟨b2, o2 + k * 3 + 1, none⟩ = some (.int .i64 y.n) := hy k y ey 1 _ rfl
      have cy2 : wr.cell? ⟨b2, o2 + k * 3 + 2, none⟩ = some (.string y.s) := hy k y ey 2 _ rfl
      have EX := Lib.hid ex
      have EY := Lib.hid ey
      clear hx hy ex ey ha hb
      go_wp2
      ((first | (with_reducible refine wp_quiet_gr Try.mixed ?_ ?_) | (with_reducible refine wp_quiet_any Try.mixed ?_ ?_)); (next => kernel_rfl); (repeat (with_reducible refine wpQuiet_step (fun K hK => ?_); go_simp; first | (refine hK _ ?_; clear hK K) | (apply Exists.intro; refine ⟨fun _ => ?_, hK _ ?_⟩; (fail); clear hK K))); refine wpQuiet_nil ?_; intro pq)
      go_wp2
      · have hq : (!x.eq y) = true := by assumption
        go_ret
        refine ⟨ret_bool ?_, by (repeat (with_reducible first | exact Below.refl _ _ | (refine bl_set ?_ (by first | omega | (simp; done) | (simp; omega)) _) | refine bl_gr ?_ _ | refine bl_al ?_ _ | refine below_setRow ?_ (by first | omega | (simp; done) | (simp; omega)) _ | refine bl_drewN ?_ _ | refine Below.drew ?_ | (refine bl_tr ?_ (by assumption))))⟩
        symm
        rw [decide_eq_false_iff_not]
        rintro rfl
        have := EX.out.symm.trans EY.out
        simp only [Option.some.injEq] at this
        subst this
        simp [Val.eq_self] at hq
      · have hq : (!x.eq y) = false := by assumption
        have hxy : x = y := Val.eq_iff.1 (by simpa using hq)
        go_roundw
        case rel =>
          refine ⟨k + 1, by omega, by go_num, ?_, by (repeat (with_reducible first | exact Below.refl _ _ | (refine bl_set ?_ (by first | omega | (simp; done) | (simp; omega)) _) | refine bl_gr ?_ _ | refine bl_al ?_ _ | refine below_setRow ?_ (by first | omega | (simp; done) | (simp; omega)) _ | refine bl_drewN ?_ _ | refine Below.drew ?_ | (refine bl_tr ?_ (by assumption))))⟩
          rw [List.take_add_one, List.take_add_one, HT.out, EX.out, EY.out, hxy]
        case measure => simp [intOf]; omega
    · go_wp2
      go_ret
      refine ⟨ret_bool ?_, by (repeat (with_reducible first | exact Below.refl _ _ | (refine bl_set ?_ (by first | omega | (simp; done) | (simp; omega)) _) | refine bl_gr ?_ _ | refine bl_al ?_ _ | refine below_setRow ?_ (by first | omega | (simp; done) | (simp; omega)) _ | refine bl_drewN ?_ _ | refine Below.drew ?_ | (refine bl_tr ?_ (by assumption))))⟩
      symm
      rw [decide_eq_true_iff]
      have := HT.out
      have e := HL.out
      rwa [List.take_of_length_le (by omega), List.take_of_length_le (by omega)] at this
theorem cellD_eq (c d : CellD) : decide (c = d) = (c.k == d.k && c.sh == d.sh && c.fl == d.fl && c.ag == d.ag && decide (c.sl = d.sl) && decide (c.mo = d.mo)) := by
  obtain ⟨c1, c2, c3, c4, c5, c6⟩ := c
  obtain ⟨d1, d2, d3, d4, d5, d6⟩ := d
  rw [Bool.eq_iff_iff]
  simp [and_assoc]

set_option maxHeartbeats 1000000 in
theorem rsame_any (sv mv tv nv : Value) (c d : CellD) (w : World) (h1 : IsV w sv c.sl) (h2 : IsV w mv c.mo) (h3 : IsV w tv d.sl) (h4 : IsV w nv d.mo) :
    Calls Try.prog 12 #[cellV c.k c.sh c.fl c.ag sv mv, cellV d.k d.sh d.fl d.ag tv nv] w fun e w' => e = .returned (.bool (decide (c = d))) ∧ Below w.heap.size w w' := by
  have E := Lib.hid (cellD_eq c d)
  go_enter Try.func12, Try.ntmps12
  go_wp2_with (first | (go_at_call_of 31 (sv); refine (callGr (samev_any sv tv c.sl d.sl _ (h1.below (by (repeat (with_reducible first | exact Below.refl _ _ | (refine bl_set ?_ (by first | omega | (simp; done) | (simp; omega)) _) | refine bl_gr ?_ _ | refine bl_al ?_ _ | refine below_setRow ?_ (by first | omega | (simp; done) | (simp; omega)) _ | refine bl_drewN ?_ _ | refine Below.drew ?_ | (refine bl_tr ?_ (by assumption)))))) (h3.below (by (repeat (with_reducible first | exact Below.refl _ _ | (refine bl_set ?_ (by first | omega | (simp; done) | (simp; omega)) _) | refine bl_gr ?_ _ | refine bl_al ?_ _ | refine below_setRow ?_ (by first | omega | (simp; done) | (simp; omega)) _ | refine bl_drewN ?_ _ | refine Below.drew ?_ | (refine bl_tr ?_ (by assumption)))))))).mono ?_; rintro e w' ⟨pp, rfl, rfl⟩) | (go_at_call_of 31 (mv); refine (callGr (samev_any mv nv c.mo d.mo _ (h2.below (by (repeat (with_reducible first | exact Below.refl _ _ | (refine bl_set ?_ (by first | omega | (simp; done) | (simp; omega)) _) | refine bl_gr ?_ _ | refine bl_al ?_ _ | refine below_setRow ?_ (by first | omega | (simp; done) | (simp; omega)) _ | refine bl_drewN ?_ _ | refine Below.drew ?_ | (refine bl_tr ?_ (by assumption)))))) (h4.below (by (repeat (with_reducible first | exact Below.refl _ _ | (refine bl_set ?_ (by first | omega | (simp; done) | (simp; omega)) _) | refine bl_gr ?_ _ | refine bl_al ?_ _ | refine below_setRow ?_ (by first | omega | (simp; done) | (simp; omega)) _ | refine bl_drewN ?_ _ | refine Below.drew ?_ | (refine bl_tr ?_ (by assumption)))))))).mono ?_; rintro e w' ⟨pp, rfl, rfl⟩))
  all_goals go_ret
  all_goals go_tidy
  all_goals exact ⟨ret_bool (by rw [E.out]; simp [*]), by (repeat (with_reducible first | exact Below.refl _ _ | (refine bl_set ?_ (by first | omega | (simp; done) | (simp; omega)) _) | refine bl_gr ?_ _ | refine bl_al ?_ _ | refine below_setRow ?_ (by first | omega | (simp; done) | (simp; omega)) _ | refine bl_drewN ?_ _ | refine Below.drew ?_ | (refine bl_tr ?_ (by assumption))))⟩
end Go.Proofs.Ytdikdkllbhanfaa
