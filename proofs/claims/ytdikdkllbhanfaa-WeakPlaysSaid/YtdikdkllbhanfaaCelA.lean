/- Cells: the program's and the reference's small tests on values. -/
import Derived.Test.YtdikdkllbhanfaaSl
namespace Go.Proofs.Ytdikdkllbhanfaa
set_option linter.all false
open Go.RowKit Go.Sort Go.Deep

/-- what a value may be -/
def mayB (v : Val) : Bool :=
  bif v.k == 5 then v.n == 0 && decide ((v.s.size : Int) ≤ 65536) else bif !v.s.toList.isEmpty then false else
    bif v.k == 2 then v.n == 0 || v.n == 1 else bif v.k == 3 then decide (-9007199254740992 ≤ v.n) && decide (v.n ≤ 9007199254740992)
      else bif v.k == 6 || v.k == 7 || v.k == 9 then decide (1 ≤ v.n) else v.n == 0 && decide (0 ≤ v.k) && decide (v.k ≤ 9)
def numB (v : Val) (lo hi : Int) : Bool := v.k == 3 && decide (lo ≤ v.n) && decide (v.n ≤ hi)
def orNoneB (v : Val) (kind : Int) : Bool := v.k == 0 || v.k == kind
def leadsB (v : Val) : Bool := v.k == 7 || v.k == 9
def hasB (k : Int) : Bool := k == 1 || k == 2 || k == 3 || k == 6 || k == 8 || k == 9 || k == 10

set_option maxRecDepth 100000 in
set_option maxHeartbeats 1000000 in
theorem orNone_any (v : Val) (kind : Int) (w : World) : Calls Try.prog 57 #[v.agg, .int .i64 kind] w fun e w' => e = .returned (.bool (orNoneB v kind)) ∧ Below w.heap.size w w' := by
  go_enter Try.func57, Try.ntmps57
  go_wp2
  all_goals go_ret
  all_goals exact ⟨ret_bool (by simp [orNoneB, *]), by (repeat (with_reducible first | exact Below.refl _ _ | (refine bl_set ?_ (by first | omega | (simp; done) | (simp; omega)) _) | refine bl_gr ?_ _ | refine bl_al ?_ _ | refine below_setRow ?_ (by first | omega | (simp; done) | (simp; omega)) _ | refine bl_drewN ?_ _ | refine Below.drew ?_ | (refine bl_tr ?_ (by assumption))))⟩
set_option maxRecDepth 100000 in
set_option maxHeartbeats 1000000 in
theorem none_any (v : Val) (kind : Int) (w : World) : Calls Try.prog 48 #[v.agg, .int .i64 kind] w fun e w' => e = .returned (.bool (orNoneB v kind)) ∧ Below w.heap.size w w' := by
  go_enter Try.func48, Try.ntmps48
  go_wp2
  all_goals go_ret
  all_goals exact ⟨ret_bool (by simp [orNoneB, *]), by (repeat (with_reducible first | exact Below.refl _ _ | (refine bl_set ?_ (by first | omega | (simp; done) | (simp; omega)) _) | refine bl_gr ?_ _ | refine bl_al ?_ _ | refine below_setRow ?_ (by first | omega | (simp; done) | (simp; omega)) _ | refine bl_drewN ?_ _ | refine Below.drew ?_ | (refine bl_tr ?_ (by assumption))))⟩
set_option maxRecDepth 100000 in
set_option maxHeartbeats 1000000 in
theorem number_any (v : Val) (lo hi : Int) (w : World) : Calls Try.prog 58 #[v.agg, .int .i64 lo, .int .i64 hi] w fun e w' => e = .returned (.bool (numB v lo hi)) ∧ Below w.heap.size w w' := by
  go_enter Try.func58, Try.ntmps58
  go_wp2
  all_goals go_ret
  all_goals exact ⟨ret_bool (by simp [numB, *] <;> (intros; omega)), by (repeat (with_reducible first | exact Below.refl _ _ | (refine bl_set ?_ (by first | omega | (simp; done) | (simp; omega)) _) | refine bl_gr ?_ _ | refine bl_al ?_ _ | refine below_setRow ?_ (by first | omega | (simp; done) | (simp; omega)) _ | refine bl_drewN ?_ _ | refine Below.drew ?_ | (refine bl_tr ?_ (by assumption))))⟩
set_option maxRecDepth 100000 in
set_option maxHeartbeats 1000000 in
theorem num_any (v : Val) (lo hi : Int) (w : World) : Calls Try.prog 49 #[v.agg, .int .i64 lo, .int .i64 hi] w fun e w' => e = .returned (.bool (numB v lo hi)) ∧ Below w.heap.size w w' := by
  go_enter Try.func49, Try.ntmps49
  go_wp2
  all_goals go_ret
  all_goals exact ⟨ret_bool (by simp [numB, *] <;> (intros; omega)), by (repeat (with_reducible first | exact Below.refl _ _ | (refine bl_set ?_ (by first | omega | (simp; done) | (simp; omega)) _) | refine bl_gr ?_ _ | refine bl_al ?_ _ | refine below_setRow ?_ (by first | omega | (simp; done) | (simp; omega)) _ | refine bl_drewN ?_ _ | refine Below.drew ?_ | (refine bl_tr ?_ (by assumption))))⟩
set_option maxRecDepth 100000 in
set_option maxHeartbeats 1000000 in
theorem has_any (k : Int) (w : World) : Calls Try.prog 56 #[.int .i64 k] w fun e w' => e = .returned (.bool (hasB k)) ∧ Below w.heap.size w w' := by
  go_enter Try.func56, Try.ntmps56
  go_wp2
  all_goals go_ret
  all_goals exact ⟨ret_bool (by simp [hasB, *]), by (repeat (with_reducible first | exact Below.refl _ _ | (refine bl_set ?_ (by first | omega | (simp; done) | (simp; omega)) _) | refine bl_gr ?_ _ | refine bl_al ?_ _ | refine below_setRow ?_ (by first | omega | (simp; done) | (simp; omega)) _ | refine bl_drewN ?_ _ | refine Below.drew ?_ | (refine bl_tr ?_ (by assumption))))⟩
set_option maxRecDepth 100000 in
set_option maxHeartbeats 1000000 in
theorem props_any (k : Int) (w : World) : Calls Try.prog 47 #[.int .i64 k] w fun e w' => e = .returned (.bool (hasB k)) ∧ Below w.heap.size w w' := by
  go_enter Try.func47, Try.ntmps47
  go_wp2
  all_goals go_ret
  all_goals exact ⟨ret_bool (by simp [hasB, *]), by (repeat (with_reducible first | exact Below.refl _ _ | (refine bl_set ?_ (by first | omega | (simp; done) | (simp; omega)) _) | refine bl_gr ?_ _ | refine bl_al ?_ _ | refine below_setRow ?_ (by first | omega | (simp; done) | (simp; omega)) _ | refine bl_drewN ?_ _ | refine Below.drew ?_ | (refine bl_tr ?_ (by assumption))))⟩
end Go.Proofs.Ytdikdkllbhanfaa
