/- Walks of the small functions of package desc and of its reference. -/
import Derived.Test.YtfkpniinpneidaaDescDef
namespace Go.Proofs.Ytfkpniinpneidaa
set_option linter.all false
open Go.RowKit Go.Sort

set_option maxHeartbeats 400000 in
theorem says_any (d : Dsc) (p : Int) (w : World) :
    Calls Try.prog 33 #[d.agg, .int .i64 p] w fun e w' => e = .returned (.bool (hs d.h p)) ∧ Below w.heap.size w w' := by
  go_enter Try.func33, Try.ntmps33
  go_wp2
  go_ret
  exact ⟨rfl, bl_al (Below.refl _ _) _⟩

set_option maxHeartbeats 400000 in
theorem bit_any (n b : Int) (w : World) (hb : 0 < b) (hb' : b < 100) (hn : i64ok n):
    Calls Try.prog 24 #[.int .i64 n, .int .i64 b] w fun e w' => e = .returned (.bool (bt n b)) ∧ w = w' := by
  unfold i64ok at hn
  go_enter Try.func24, Try.ntmps24
  go_wp2
  go_ret
  exact ⟨rfl, rfl⟩

set_option maxHeartbeats 400000 in
theorem alike_any (a b : Val) (w : World) :
    Calls Try.prog 20 #[a.agg, b.agg] w fun e w' => e = .returned (.bool (a.eq b)) ∧ Below w.heap.size w w' := by
  go_enter Try.func20, Try.ntmps20
  go_wp2
  all_goals go_ret
  all_goals exact ⟨by simp [Val.eq, *], bl_al (bl_al (Below.refl _ _) _) _⟩

set_option maxHeartbeats 400000 in
theorem ralike_any (a b : Val) (w : World) :
    Calls Try.prog 21 #[a.agg, b.agg] w fun e w' => e = .returned (.bool (a.eq b)) ∧ Below w.heap.size w w' := by
  go_enter Try.func21, Try.ntmps21
  go_wp2
  all_goals go_ret
  all_goals exact ⟨by simp [Val.eq, *], bl_al (bl_al (Below.refl _ _) _) _⟩

set_option maxHeartbeats 400000 in
theorem half_any (a : Val) (w : World) :
    Calls Try.prog 35 #[a.agg] w fun e w' => e = .returned (.bool (a.k == 0 || a.k == 7)) ∧ Below w.heap.size w w' := by
  go_enter Try.func35, Try.ntmps35
  go_wp2
  all_goals go_ret
  all_goals exact ⟨by simp [*], bl_al (Below.refl _ _) _⟩

set_option maxHeartbeats 400000 in
theorem rsays_any (d : Dsc) (p : Int) (w : World) (hb : 0 < p) (hb' : p < 100) (hn : i64ok d.h) :
    Calls Try.prog 25 #[d.agg, .int .i64 p] w fun e w' => e = .returned (.bool (bt d.h p)) ∧ Below w.heap.size w w' := by
  go_enter Try.func25, Try.ntmps25
  go_wp2_with (go_at_call 24; refine (bit_any _ _ _ hb hb' hn).mono ?_; rintro e w' ⟨rfl, rfl⟩)
  go_ret
  exact ⟨rfl, bl_al (Below.refl _ _) _⟩

set_option maxHeartbeats 400000 in
theorem asked_any (d : Dsc) (w : World) :
    Calls Try.prog 34 #[d.agg] w fun e w' => e = .returned (.int .i64 (askedM d.h)) ∧ Below w.heap.size w w' := by
  go_enter Try.func34, Try.ntmps34
  go_wp2_with (go_at_call 33; refine (callGr (says_any d _ _)).mono ?_; rintro e w' ⟨pp, rfl, rfl⟩)
  all_goals go_ret
  all_goals exact ⟨ret_int (by simp [askedM, *]; try decide), by (repeat (with_reducible first | exact Below.refl _ _ | (refine bl_set ?_ (by first | omega | (simp; done) | (simp; omega)) _) | refine bl_gr ?_ _ | refine bl_al ?_ _ | refine bl_drewN ?_ _ | refine Below.drew ?_ | (refine bl_tr ?_ (by assumption))))⟩
end Go.Proofs.Ytfkpniinpneidaa
