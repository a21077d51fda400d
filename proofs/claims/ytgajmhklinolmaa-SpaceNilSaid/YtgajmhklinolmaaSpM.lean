/- Walk of the arena's Put. -/
import Derived.Test.YtgajmhklinolmaaSpL
namespace Go.Proofs.Ytgajmhklinolmaa
set_option linter.all false
open Go.RowKit Go.Sort Go.Deep

set_option maxRecDepth 100000 in
set_option maxHeartbeats 1000000 in
theorem put_full (F : Nat → Prop) (s : Nat) (room : Int) (l : List CellD) (k sh fl ag : Int) (A B : Option Addr) (n ca m cb : Nat) (w : World) (h : Arena w F s room l) (hr : room ≤ l.length) :
    Calls Try.prog 14 #[.pointer (some ⟨s, 0, none⟩), cellV k sh fl ag (.slice A n ca) (.slice B m cb)] w fun e w' => e = .returned (.tuple #[.int .i64 0, .int .i64 5]) ∧ Below w.heap.size w w' := by
  have hs : s < w.heap.size := by obtain ⟨rs, v, h⟩ := h; exact h.low s h.ins
  obtain ⟨D, cap, r0, r1, _, hm, _⟩ := h.room
  have n0 : s ≠ w.heap.size := by omega
  clear h
  go_enter Try.func14, Try.ntmps14
  go_upto_region 3 with fail
  ((first | (with_reducible refine wp_quiet_gr Try.mixed ?_ ?_) | (with_reducible refine wp_quiet_any Try.mixed ?_ ?_)); (next => kernel_rfl); (repeat (quiet_step (fail))); refine wpQuiet_nil ?_; intro pq)
  go_wp2
  go_ret2
  exact ⟨rfl, by (repeat (with_reducible first | exact Below.refl _ _ | (refine bl_set ?_ (by first | omega | (simp; done) | (simp; omega)) _) | refine bl_gr ?_ _ | refine bl_al ?_ _ | refine below_setRow ?_ (by first | omega | (simp; done) | (simp; omega)) _ | refine bl_drewN ?_ _ | refine Below.drew ?_ | (refine bl_tr ?_ (by assumption))))⟩
end Go.Proofs.Ytgajmhklinolmaa
