/- Walks of the reference: bars. -/
import Derived.Test.YtippimonpdeioaaDescE
namespace Go.Proofs.Ytippimonpdeioaa
set_option linter.all false
open Go.RowKit Go.Sort

set_option maxHeartbeats 4000000 in
theorem rbars_any (p : Prp) (d : Dsc) (w : World) (hn : i64ok d.h) (ha : i64ok d.a) (hp : i64ok p.a) :
    Calls Try.prog 52 #[p.agg, d.agg] w fun e w' => e = .returned (.bool (barsR p d)) ∧ Below w.heap.size w w' := by
  cases h16 : bt d.h 16
  all_goals
    go_enter Try.func52, Try.ntmps52
    go_wp2_with (first | (go_at_call 36; refine (callGr (rsays_any d _ _ (by omega) (by omega) hn)).mono ?_; rintro e w' ⟨pp, rfl, rfl⟩) | (go_at_call 35; refine (bit_any _ _ _ (by omega) (by omega) (by assumption)).mono ?_; rintro e w' ⟨rfl, rfl⟩) | (go_at_call 34; refine (callGr (racc_any d _ hn)).mono ?_; rintro e w' ⟨pp, rfl, rfl⟩) | (go_at_call 33; refine (callGr (rdata_any d _ hn)).mono ?_; rintro e w' ⟨pp, rfl, rfl⟩) | (go_at_call 64; refine (callGr (ralike_any _ _ _)).mono ?_; rintro e w' ⟨pp, rfl, rfl⟩))
  all_goals try ((first | (with_reducible refine wp_quiet_gr Try.mixed ?_ ?_) | (with_reducible refine wp_quiet_any Try.mixed ?_ ?_)); (next => kernel_rfl); (repeat (quiet_step (first | (go_at_call 36; exact callQ (rsays_any d _ _ (by omega) (by omega) hn)) | (go_at_call 35; exact Calls.regrown_of ((bit_any _ _ _ (by omega) (by omega) (by assumption)).mono fun _ _ h => ⟨h.1, by rw [← h.2]; exact Below.refl _ _⟩))))); refine wpQuiet_nil ?_; intro pq)
  all_goals go_wp2_with (first | (go_at_call 36; refine (callGr (rsays_any d _ _ (by omega) (by omega) hn)).mono ?_; rintro e w' ⟨pp, rfl, rfl⟩) | (go_at_call 35; refine (bit_any _ _ _ (by omega) (by omega) (by assumption)).mono ?_; rintro e w' ⟨rfl, rfl⟩) | (go_at_call 34; refine (callGr (racc_any d _ hn)).mono ?_; rintro e w' ⟨pp, rfl, rfl⟩) | (go_at_call 33; refine (callGr (rdata_any d _ hn)).mono ?_; rintro e w' ⟨pp, rfl, rfl⟩) | (go_at_call 64; refine (callGr (ralike_any _ _ _)).mono ?_; rintro e w' ⟨pp, rfl, rfl⟩))
  all_goals go_ret
  all_goals go_tidy
  all_goals exact ⟨ret_bool (by simp [barsR, *]), by (repeat (with_reducible first | exact Below.refl _ _ | (refine bl_set ?_ (by first | omega | (simp; done) | (simp; omega)) _) | refine bl_gr ?_ _ | refine bl_al ?_ _ | refine below_setRow ?_ (by first | omega | (simp; done) | (simp; omega)) _ | refine bl_drewN ?_ _ | refine Below.drew ?_ | (refine bl_tr ?_ (by assumption))))⟩
end Go.Proofs.Ytippimonpdeioaa
