/- Cells: what Slots may be, by the reference. -/
import Derived.Test.YtdikdkllbhanfaaCelE
namespace Go.Proofs.Ytdikdkllbhanfaa
set_option linter.all false
open Go.RowKit Go.Sort Go.Deep

set_option maxRecDepth 100000 in
set_option maxHeartbeats 4000000 in
theorem rslots_any (sv mv : Value) (c : CellD) (w : World) (h1 : IsV w sv c.sl) (h2 : IsV w mv c.mo) :
    Calls Try.prog 41 #[cellV c.k c.sh c.fl c.ag sv mv] w fun e w' => e = .returned (.bool (slotsB c)) ∧ Below w.heap.size w w' := by
  obtain ⟨A1, n1, rfl, _, hm1⟩ := h1.form
  obtain ⟨A2, n2, rfl, _, hm2⟩ := h2.form
  unfold maxLen at hm1 hm2
  have SB := Lib.hid (show slotsB c = _ from rfl)
  by_cases h0 : c.sl.length = 0
  · have z0 : c.sl.length ≤ 0 := by omega
    have z1 : ((c.sl.length : Int) == 2) = false := beq_eq_false_iff_ne.2 (by omega)
    have z2 : ((c.sl.length : Int) == 0) = true := beq_iff_eq.2 (by omega)
    clear h0 h1 h2
    go_enter Try.func41, Try.ntmps41
    go_wp2_with ((go_at_call 47; refine (callGr (props_any _ _)).mono ?_; rintro e w' ⟨pp, rfl, rfl⟩))
    all_goals go_ret
    all_goals exact ⟨ret_bool (by first | (simp [slotsB, *]; done) | (simp [slotsB, *]; intros; omega) | (simp [slotsB, *]; simp [hasB])), by (repeat (with_reducible first | exact Below.refl _ _ | (refine bl_set ?_ (by first | omega | (simp; done) | (simp; omega)) _) | refine bl_gr ?_ _ | refine bl_al ?_ _ | refine below_setRow ?_ (by first | omega | (simp; done) | (simp; omega)) _ | refine bl_drewN ?_ _ | refine Below.drew ?_ | (refine bl_tr ?_ (by assumption))))⟩
  · obtain ⟨b, o, rfl⟩ := isV_addr h1 (by omega)
    obtain ⟨hb, a0, a1, a2⟩ := h1.v3 0 (by omega)
    rw [Nat.zero_mul, Nat.add_zero] at a0 a1 a2
    have nb : b ≠ w.heap.size := by omega
    generalize hs0 : vAt c.sl 0 = s0 at a0 a1 a2
    by_cases h1' : c.sl.length = 1
    · have z0 : c.sl.length ≤ 1 := by omega
      have z3 : 1 ≤ c.sl.length := by omega
      have z1 : ((c.sl.length : Int) == 2) = false := beq_eq_false_iff_ne.2 (by omega)
      have z2 : ((c.sl.length : Int) == 0) = false := beq_eq_false_iff_ne.2 (by omega)
      have HS := Lib.hid hs0
      clear h0 h1' h1 h2 hs0
      go_enter Try.func41, Try.ntmps41
      go_wp2_with ((go_at_call 47; refine (callGr (props_any _ _)).mono ?_; rintro e w' ⟨pp, rfl, rfl⟩))
      all_goals go_ret
      all_goals exact ⟨ret_bool (by first | (simp [slotsB, HS.out, *]; done) | (simp [slotsB, HS.out, *]; intros; omega) | (simp [slotsB, HS.out, *]; simp [hasB])), by (repeat (with_reducible first | exact Below.refl _ _ | (refine bl_set ?_ (by first | omega | (simp; done) | (simp; omega)) _) | refine bl_gr ?_ _ | refine bl_al ?_ _ | refine below_setRow ?_ (by first | omega | (simp; done) | (simp; omega)) _ | refine bl_drewN ?_ _ | refine Below.drew ?_ | (refine bl_tr ?_ (by assumption))))⟩
    · obtain ⟨_, d0, d1, d2⟩ := h1.v3 1 (by omega)
      generalize hs1 : vAt c.sl 1 = s1 at d0 d1 d2
      have z3 : 2 ≤ c.sl.length := by omega
      have z2 : ((c.sl.length : Int) == 0) = false := beq_eq_false_iff_ne.2 (by omega)
      have HS := Lib.hid (And.intro hs0 hs1)
      clear h0 h1' h1 h2 hs0 hs1
      go_enter Try.func41, Try.ntmps41
      go_wp2_with (first | (go_at_call 47; refine (callGr (props_any _ _)).mono ?_; rintro e w' ⟨pp, rfl, rfl⟩) | (go_at_call 48; refine (callGr (none_any _ _ _)).mono ?_; rintro e w' ⟨pp, rfl, rfl⟩))
      all_goals go_ret
      all_goals exact ⟨ret_bool (by first | (simp [slotsB, HS.out.1, HS.out.2, *]; done) | (simp [slotsB, HS.out.1, HS.out.2, *]; intros; omega) | (simp [slotsB, HS.out.1, HS.out.2, *]; simp [hasB])), by (repeat (with_reducible first | exact Below.refl _ _ | (refine bl_set ?_ (by first | omega | (simp; done) | (simp; omega)) _) | refine bl_gr ?_ _ | refine bl_al ?_ _ | refine below_setRow ?_ (by first | omega | (simp; done) | (simp; omega)) _ | refine bl_drewN ?_ _ | refine Below.drew ?_ | (refine bl_tr ?_ (by assumption))))⟩
end Go.Proofs.Ytdikdkllbhanfaa
