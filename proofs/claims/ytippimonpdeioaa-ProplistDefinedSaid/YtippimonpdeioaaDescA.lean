/- Walks of the small functions of package desc and of its reference. -/
import Derived.Test.YtippimonpdeioaaDescDef
namespace Go.Proofs.Ytippimonpdeioaa
set_option linter.all false
open Go.RowKit Go.Sort

set_option maxHeartbeats 400000 in
theorem says_any (d : Dsc) (p : Int) (w : World) :
    Calls Try.prog 61 #[d.agg, .int .i64 p] w fun e w' => e = .returned (.bool (hs d.h p)) ∧ Below w.heap.size w w' := by
  go_enter Try.func61, Try.ntmps61
  go_wp2
  go_ret
  exact ⟨rfl, bl_al (Below.refl _ _) _⟩

set_option maxHeartbeats 400000 in
theorem bit_any (n b : Int) (w : World) (hb : 0 < b) (hb' : b < 100) (hn : i64ok n):
    Calls Try.prog 35 #[.int .i64 n, .int .i64 b] w fun e w' => e = .returned (.bool (bt n b)) ∧ w = w' := by
  unfold i64ok at hn
  go_enter Try.func35, Try.ntmps35
  go_wp2
  go_ret
  exact ⟨rfl, rfl⟩

set_option maxHeartbeats 400000 in
theorem alike_any (a b : Val) (w : World) :
    Calls Try.prog 62 #[a.agg, b.agg] w fun e w' => e = .returned (.bool (a.eq b)) ∧ Below w.heap.size w w' := by
  go_enter Try.func62, Try.ntmps62
  go_wp2
  all_goals go_ret
  all_goals exact ⟨by simp [Val.eq, *], bl_al (bl_al (Below.refl _ _) _) _⟩

set_option maxHeartbeats 400000 in
theorem ralike_any (a b : Val) (w : World) :
    Calls Try.prog 64 #[a.agg, b.agg] w fun e w' => e = .returned (.bool (a.eq b)) ∧ Below w.heap.size w w' := by
  go_enter Try.func64, Try.ntmps64
  go_wp2
  all_goals go_ret
  all_goals exact ⟨by simp [Val.eq, *], bl_al (bl_al (Below.refl _ _) _) _⟩

set_option maxHeartbeats 400000 in
theorem rsays_any (d : Dsc) (p : Int) (w : World) (hb : 0 < p) (hb' : p < 100) (hn : i64ok d.h) :
    Calls Try.prog 36 #[d.agg, .int .i64 p] w fun e w' => e = .returned (.bool (bt d.h p)) ∧ Below w.heap.size w w' := by
  go_enter Try.func36, Try.ntmps36
  go_wp2_with (go_at_call 35; refine (bit_any _ _ _ hb hb' hn).mono ?_; rintro e w' ⟨rfl, rfl⟩)
  go_ret
  exact ⟨rfl, bl_al (Below.refl _ _) _⟩

set_option maxHeartbeats 400000 in
theorem asked_any (d : Dsc) (w : World) :
    Calls Try.prog 63 #[d.agg] w fun e w' => e = .returned (.int .i64 (askedM d.h)) ∧ Below w.heap.size w w' := by
  go_enter Try.func63, Try.ntmps63
  go_wp2_with (go_at_call 61; refine (callGr (says_any d _ _)).mono ?_; rintro e w' ⟨pp, rfl, rfl⟩)
  all_goals go_ret
  all_goals exact ⟨ret_int (by simp [askedM, *]; try decide), by (repeat (with_reducible first | exact Below.refl _ _ | (refine bl_set ?_ (by first | omega | (simp; done) | (simp; omega)) _) | refine bl_gr ?_ _ | refine bl_al ?_ _ | refine below_setRow ?_ (by first | omega | (simp; done) | (simp; omega)) _ | refine bl_drewN ?_ _ | refine Below.drew ?_ | (refine bl_tr ?_ (by assumption))))⟩
end Go.Proofs.Ytippimonpdeioaa
