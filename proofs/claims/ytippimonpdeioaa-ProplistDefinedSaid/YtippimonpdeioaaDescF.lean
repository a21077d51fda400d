/- Walks of the reference: Full, bars. -/
import Derived.Test.YtippimonpdeioaaDescE
namespace Go.Proofs.Ytippimonpdeioaa
set_option linter.all false
open Go.RowKit Go.Sort

theorem three (a b : Bool) : a = false ∨ (a = true ∧ b = true) ∨ (a = true ∧ b = false) := by cases a <;> cases b <;> simp

set_option maxRecDepth 100000 in
set_option maxHeartbeats 40000000 in
theorem rfull_any (d : Dsc) (k : Val) (w : World) (hn : i64ok d.h) (ha : i64ok d.a) :
    Calls Try.prog 51 #[d.agg, k.agg] w fun e w' => e = .returned (fullR d k).agg ∧ Below w.heap.size w w' := by
  rcases three (bt d.h 16) (bt d.a 2) with h1 | ⟨h1, h2⟩ | ⟨h1, h2⟩ <;> rcases three (bt d.h 32) (bt d.a 4) with h3 | ⟨h3, h4⟩ | ⟨h3, h4⟩ <;> cases h5 : accR d.h <;> rcases three (bt d.h 2) (bt d.a 1) with h6 | ⟨h6, h7⟩ | ⟨h6, h7⟩
  all_goals as_aux_lemma =>
    go_enter Try.func51, Try.ntmps51
    go_wp2_with (first | (go_at_call 36; refine (callGr (rsays_any d _ _ (by omega) (by omega) hn)).mono ?_; rintro e w' ⟨pp, rfl, rfl⟩) | (go_at_call 35; refine (bit_any _ _ _ (by omega) (by omega) ha).mono ?_; rintro e w' ⟨rfl, rfl⟩) | (go_at_call 34; refine (callGr (racc_any d _ hn)).mono ?_; rintro e w' ⟨pp, rfl, rfl⟩))
    refine bodyPost_ret (v := (fullR d k).agg) (by simp [results, Try.results51, go_sem, gr_size, fullR, fullA, *]) rfl ⟨rfl, by (repeat (with_reducible first | exact Below.refl _ _ | (refine bl_set ?_ (by first | omega | (simp; done) | (simp; omega)) _) | refine bl_gr ?_ _ | refine bl_al ?_ _ | refine below_setRow ?_ (by first | omega | (simp; done) | (simp; omega)) _ | refine bl_drewN ?_ _ | refine Below.drew ?_ | (refine bl_tr ?_ (by assumption))))⟩
end Go.Proofs.Ytippimonpdeioaa
