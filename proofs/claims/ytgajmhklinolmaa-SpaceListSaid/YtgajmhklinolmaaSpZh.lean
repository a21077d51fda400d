/- Walk of SpaceNil. -/
import Derived.Test.YtgajmhklinolmaaSpZg
namespace Go.Proofs.Ytgajmhklinolmaa
set_option linter.all false
open Go.RowKit Go.Sort Go.Deep

set_option maxRecDepth 100000 in
set_option maxHeartbeats 2000000 in
theorem spaceNil_any (i k sh fl ag : Int) (A B : Option Addr) (n ca m cb : Nat) (w : World) :
    Calls Try.prog 5 #[.int .i64 i, cellV k sh fl ag (.slice A n ca) (.slice B m cb)] w fun e w' => e = .returned (.bool true) ∧ Below w.heap.size w w' := by
  have CC := Lib.hid (fun w => cell_any (.slice none 0 0) (.slice none 0 0) (.slice none 0 0) (.slice none 0 0) (kindD 0) (kindD 0) w .nil_ .nil_ .nil_ .nil_)
  go_enter Try.func5, Try.ntmps5
  go_wp2_with (first | (go_at_call 14; refine (callGr (put_nil _ _ _ _ _ _ _ _ _ _ _)).mono ?_; rintro e w' ⟨pp, rfl, rfl⟩) | (go_at_call 18; refine (callGr (at_nil _ _)).mono ?_; rintro e w' ⟨pp, rfl, rfl⟩) | (go_at_call 21; refine (callGr (clear_nil _)).mono ?_; rintro e w' ⟨pp, rfl, rfl⟩) | (go_at_call 19; refine (callGr (CC.out _)).mono ?_; rintro e w' ⟨pp, rfl, rfl⟩) | (go_at_call 17; refine (callGr (set_nil _ _ _ _ _ _ _ _ _ _ _ _)).mono ?_; rintro e w' ⟨pp, rfl, rfl⟩) | (go_at_call 20; refine (callGr (len_nil _)).mono ?_; rintro e w' ⟨pp, rfl, rfl⟩) | (go_at_call 22; refine (callGr (room_nil _)).mono ?_; rintro e w' ⟨pp, rfl, rfl⟩) | (go_at_call 16; refine (callGr (all_nil _)).mono ?_; rintro e w' ⟨pp, rfl, rfl⟩) | (go_at_call 8; refine (callGr (goes_any _)).mono ?_; rintro e w' ⟨pp, rfl, rfl⟩))
  go_ret
  exact ⟨by simp, by (repeat (with_reducible first | exact Below.refl _ _ | (refine bl_set ?_ (by first | omega | (simp; done) | (simp; omega)) _) | refine bl_gr ?_ _ | refine bl_al ?_ _ | refine below_setRow ?_ (by first | omega | (simp; done) | (simp; omega)) _ | refine bl_drewN ?_ _ | refine Below.drew ?_ | (refine bl_tr ?_ (by assumption))))⟩
end Go.Proofs.Ytgajmhklinolmaa
