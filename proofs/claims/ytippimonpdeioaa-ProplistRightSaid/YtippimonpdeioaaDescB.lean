/- Walks of package desc: Data, Of, bars. -/
import Derived.Test.YtippimonpdeioaaDescA
namespace Go.Proofs.Ytippimonpdeioaa
set_option linter.all false
open Go.RowKit Go.Sort

set_option maxHeartbeats 1000000 in
theorem bars_any (p : Prp) (d : Dsc) (w : World) :
    Calls Try.prog 48 #[p.agg, d.agg] w fun e w' => e = .returned (.bool (barsM p d)) ∧ Below w.heap.size w w' := by
  go_enter Try.func48, Try.ntmps48
  go_wp2_with (first | (go_at_call 61; refine (callGr (says_any d _ _)).mono ?_; rintro e w' ⟨pp, rfl, rfl⟩) | (go_at_call 62; refine (callGr (alike_any _ _ _)).mono ?_; rintro e w' ⟨pp, rfl, rfl⟩))
  all_goals go_ret
  all_goals go_tidy
  all_goals exact ⟨ret_bool (by simp [barsM, *]), by (repeat (with_reducible first | exact Below.refl _ _ | (refine bl_set ?_ (by first | omega | (simp; done) | (simp; omega)) _) | refine bl_gr ?_ _ | refine bl_al ?_ _ | refine below_setRow ?_ (by first | omega | (simp; done) | (simp; omega)) _ | refine bl_drewN ?_ _ | refine Below.drew ?_ | (refine bl_tr ?_ (by assumption))))⟩
end Go.Proofs.Ytippimonpdeioaa
