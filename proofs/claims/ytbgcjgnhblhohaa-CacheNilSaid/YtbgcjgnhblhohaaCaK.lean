/- Inline caches: the law CacheNil, walked. -/
import Derived.Test.YtbgcjgnhblhohaaCaJ
import Derived.Test.YtbgcjgnhblhohaaCaH
namespace Go.Proofs.Ytbgcjgnhblhohaa
set_option linter.all false
open Go.RowKit Go.Sort Go.Deep Go.Shelf

set_option maxRecDepth 100000 in
set_option maxHeartbeats 8000000 in
theorem cacheNil_any (n : Int) (x : Ent) (w : World) : Calls Try.prog 6 #[.int .i64 n, x.agg] w fun e w' => e = .returned (.bool true) ∧ Below w.heap.size w w' := by
  have y1 : (Ent.mk ⟨0, 0, ⟨#[]⟩⟩ 0 0 0 0 0).eq ⟨⟨0, 0, ⟨#[]⟩⟩, 0, 0, 0, 0, 0⟩ = true := Ent.eq_self _
  go_enter Try.func6, Try.ntmps6
  go_wp2_with (first | (go_at_call 9; refine (callGr (look_nil _ _ _ _ _)).mono ?_; rintro e w' ⟨pp, rfl, rfl⟩) | (go_at_call 20; refine (callGr (flush_nil _)).mono ?_; rintro e w' ⟨pp, rfl, rfl⟩) | (go_at_call 8; refine (callGr (note_nil _ _ _)).mono ?_; rintro e w' ⟨pp, rfl, rfl⟩) | (go_at_call 11; refine (callGr (drop_nil _ _)).mono ?_; rintro e w' ⟨pp, rfl, rfl⟩) | (go_at_call 10; refine (callGr (state_nil _ _)).mono ?_; rintro e w' ⟨pp, rfl, rfl⟩) | (go_at_call 14; refine (callGr (entries_nil _ _)).mono ?_; rintro e w' ⟨pp, rfl, rfl⟩) | (go_at_call 15; refine (callGr (hits_nil _)).mono ?_; rintro e w' ⟨pp, rfl, rfl⟩) | (go_at_call 16; refine (callGr (misses_nil _)).mono ?_; rintro e w' ⟨pp, rfl, rfl⟩) | (go_at_call 12; refine (callGr (goes_any _)).mono ?_; rintro e w' ⟨pp, rfl, rfl⟩))
  go_ret
  exact ⟨rfl, by (repeat (with_reducible first | exact Below.refl _ _ | (refine bl_set ?_ (by first | omega | (simp; done) | (simp; omega)) _) | refine bl_gr ?_ _ | refine bl_al ?_ _ | refine below_setRow ?_ (by first | omega | (simp; done) | (simp; omega)) _ | refine bl_drewN ?_ _ | refine Below.drew ?_ | (refine bl_tr ?_ (by assumption))))⟩
end Go.Proofs.Ytbgcjgnhblhohaa
