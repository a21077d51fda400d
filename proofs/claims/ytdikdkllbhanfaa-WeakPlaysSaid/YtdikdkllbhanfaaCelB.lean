/- Cells: what a value may be, by the program and by the reference. -/
import Derived.Test.YtdikdkllbhanfaaCelA
namespace Go.Proofs.Ytdikdkllbhanfaa
set_option linter.all false
open Go.RowKit Go.Sort Go.Deep

theorem mayB_out (v : Val) (h : v.k < 0 ∨ 9 < v.k) : mayB v = false := by
  have h5 : (v.k == 5) = false := beq_eq_false_iff_ne.2 (by omega)
  have h2 : (v.k == 2) = false := beq_eq_false_iff_ne.2 (by omega)
  have h3 : (v.k == 3) = false := beq_eq_false_iff_ne.2 (by omega)
  have h6 : (v.k == 6) = false := beq_eq_false_iff_ne.2 (by omega)
  have h7 : (v.k == 7) = false := beq_eq_false_iff_ne.2 (by omega)
  have h9 : (v.k == 9) = false := beq_eq_false_iff_ne.2 (by omega)
  simp only [mayB, h5, h2, h3, h6, h7, h9, cond_false, Bool.or_false]
  have : (decide (0 ≤ v.k) && decide (v.k ≤ 9)) = false := by
    rw [← Bool.decide_and, decide_eq_false_iff_not]
    omega
  rw [Bool.and_assoc, this]
  simp
set_option maxRecDepth 100000 in
set_option maxHeartbeats 2000000 in
theorem may_any (v : Val) (w : World) (hs : v.s.size ≤ maxLen) : Calls Try.prog 52 #[v.agg] w fun e w' => e = .returned (.bool (mayB v)) ∧ Below w.heap.size w w' := by
  unfold maxLen at hs
  go_enter Try.func52, Try.ntmps52
  go_wp2
  all_goals go_ret
  all_goals exact ⟨ret_bool (by first | (simp [mayB, *]; done) | (simp [mayB, *]; intros; omega) | (rw [mayB_out v (by omega)]) | (simp_all [mayB]; done)), by (repeat (with_reducible first | exact Below.refl _ _ | (refine bl_set ?_ (by first | omega | (simp; done) | (simp; omega)) _) | refine bl_gr ?_ _ | refine bl_al ?_ _ | refine below_setRow ?_ (by first | omega | (simp; done) | (simp; omega)) _ | refine bl_drewN ?_ _ | refine Below.drew ?_ | (refine bl_tr ?_ (by assumption))))⟩
set_option maxRecDepth 100000 in
set_option maxHeartbeats 2000000 in
theorem May_any (v : Val) (w : World) (hs : v.s.size ≤ maxLen) : Calls Try.prog 40 #[v.agg] w fun e w' => e = .returned (.bool (mayB v)) ∧ Below w.heap.size w w' := by
  unfold maxLen at hs
  go_enter Try.func40, Try.ntmps40
  go_wp2
  all_goals go_ret
  all_goals exact ⟨ret_bool (by first | (simp [mayB, *]; done) | (simp [mayB, *]; intros; omega) | (rw [mayB_out v (by omega)]) | (simp_all [mayB]; done)), by (repeat (with_reducible first | exact Below.refl _ _ | (refine bl_set ?_ (by first | omega | (simp; done) | (simp; omega)) _) | refine bl_gr ?_ _ | refine bl_al ?_ _ | refine below_setRow ?_ (by first | omega | (simp; done) | (simp; omega)) _ | refine bl_drewN ?_ _ | refine Below.drew ?_ | (refine bl_tr ?_ (by assumption))))⟩
end Go.Proofs.Ytdikdkllbhanfaa
