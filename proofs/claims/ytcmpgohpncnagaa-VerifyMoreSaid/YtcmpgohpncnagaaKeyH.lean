/- Walks: Right of package key and of its reference. -/
import Derived.Test.YtcmpgohpncnagaaKeyB
namespace Go.Proofs.Ytcmpgohpncnagaa
set_option linter.all false
open Go.RowKit Go.Sort

set_option maxRecDepth 100000 in
set_option maxHeartbeats 4000000 in
theorem kright_any (k : Val) (hk : k.s.size ≤ maxLen) (w : World) : Calls Try.prog 39 #[k.agg] w fun e w' => e = .returned (.bool (keyM k)) ∧ Below w.heap.size w w' := by
  obtain ⟨kk, n, s⟩ := k
  simp only at hk
  have hi := fun w => index_any s w hk
  by_cases k0 : kk = 0
  · subst k0
    have RES := Lib.hid (show keyM ⟨0, n, s⟩ = (s.toList.isEmpty && (decide (0 ≤ n) && decide (n ≤ 4294967294))) from rfl)
    clear hi hk
    cases h1 : s.toList.isEmpty <;> cases h2 : decide (0 ≤ n) <;> cases h3 : decide (n ≤ 4294967294)
    all_goals
      rw [h1, h2, h3] at RES
      go_enter Try.func39, Try.ntmps39
      go_wp2_with fail
      go_ret
      exact ⟨ret_bool RES.out.symm, by (repeat (with_reducible first | exact Below.refl _ _ | (refine bl_set ?_ (by first | omega | (simp; done) | (simp; omega)) _) | refine bl_gr ?_ _ | refine bl_al ?_ _ | refine below_setRow ?_ (by first | omega | (simp; done) | (simp; omega)) _ | refine bl_drewN ?_ _ | refine Below.drew ?_ | (refine bl_tr ?_ (by assumption))))⟩
  by_cases k1 : kk = 1
  · subst k1
    have RES := Lib.hid (show keyM ⟨1, n, s⟩ = (n == 0 && (decide (s.size ≤ 65536) && !(indexM s.data.toList).ok)) from rfl)
    generalize indexM s.data.toList = I at hi RES
    obtain ⟨m, ok⟩ := I
    unfold idxV at hi
    simp only at hi RES
    have HI := Lib.hid hi
    have hI : decide ((s.size : Int) ≤ 65536) = decide (s.size ≤ 65536) := by
      by_cases h : s.size ≤ 65536
      · rw [decide_eq_true h]; exact decide_eq_true (by omega)
      · rw [decide_eq_false h]; exact decide_eq_false (by omega)
    clear hi hk k0
    cases h1 : (n == 0) <;> cases h2 : decide (s.size ≤ 65536) <;> cases ok
    all_goals
      rw [h1, h2] at RES
      rw [h2] at hI
      go_enter Try.func39, Try.ntmps39
      go_wp2_with (go_at_call 63; refine (HI.out _).mono ?_; rintro e w' ⟨rfl, rfl⟩)
      go_ret
      exact ⟨ret_bool RES.out.symm, by (repeat (with_reducible first | exact Below.refl _ _ | (refine bl_set ?_ (by first | omega | (simp; done) | (simp; omega)) _) | refine bl_gr ?_ _ | refine bl_al ?_ _ | refine below_setRow ?_ (by first | omega | (simp; done) | (simp; omega)) _ | refine bl_drewN ?_ _ | refine Below.drew ?_ | (refine bl_tr ?_ (by assumption))))⟩
  by_cases k2 : kk = 2
  · subst k2
    have RES := Lib.hid (show keyM ⟨2, n, s⟩ = (s.toList.isEmpty && decide (1 ≤ n)) from rfl)
    clear hi hk k0 k1
    cases h1 : s.toList.isEmpty <;> cases h2 : decide (1 ≤ n)
    all_goals
      rw [h1, h2] at RES
      go_enter Try.func39, Try.ntmps39
      go_wp2_with fail
      go_ret
      exact ⟨ret_bool RES.out.symm, by (repeat (with_reducible first | exact Below.refl _ _ | (refine bl_set ?_ (by first | omega | (simp; done) | (simp; omega)) _) | refine bl_gr ?_ _ | refine bl_al ?_ _ | refine below_setRow ?_ (by first | omega | (simp; done) | (simp; omega)) _ | refine bl_drewN ?_ _ | refine Below.drew ?_ | (refine bl_tr ?_ (by assumption))))⟩
  · have RES := Lib.hid (show keyM ⟨kk, n, s⟩ = false by rw [keyM, if_neg k0, if_neg k1, if_neg k2])
    have e0 : (kk == 0) = false := by simpa using k0
    have e1 : (kk == 1) = false := by simpa using k1
    have e2 : (kk == 2) = false := by simpa using k2
    clear hi hk k0 k1 k2
    go_enter Try.func39, Try.ntmps39
    go_wp2_with fail
    go_ret
    exact ⟨ret_bool RES.out.symm, by (repeat (with_reducible first | exact Below.refl _ _ | (refine bl_set ?_ (by first | omega | (simp; done) | (simp; omega)) _) | refine bl_gr ?_ _ | refine bl_al ?_ _ | refine below_setRow ?_ (by first | omega | (simp; done) | (simp; omega)) _ | refine bl_drewN ?_ _ | refine Below.drew ?_ | (refine bl_tr ?_ (by assumption))))⟩

set_option maxRecDepth 100000 in
set_option maxHeartbeats 4000000 in
theorem krright_any (k : Val) (hk : k.s.size ≤ maxLen) (w : World) : Calls Try.prog 49 #[k.agg] w fun e w' => e = .returned (.bool (keyM k)) ∧ Below w.heap.size w w' := by
  obtain ⟨kk, n, s⟩ := k
  simp only at hk
  have hi := fun w => rindex_any s w hk
  by_cases k0 : kk = 0
  · subst k0
    have RES := Lib.hid (show keyM ⟨0, n, s⟩ = (s.toList.isEmpty && (decide (0 ≤ n) && decide (n ≤ 4294967294))) from rfl)
    clear hi hk
    cases h1 : s.toList.isEmpty <;> cases h2 : decide (0 ≤ n) <;> cases h3 : decide (n ≤ 4294967294)
    all_goals
      rw [h1, h2, h3] at RES
      go_enter Try.func49, Try.ntmps49
      go_wp2_with fail
      go_ret
      exact ⟨ret_bool RES.out.symm, by (repeat (with_reducible first | exact Below.refl _ _ | (refine bl_set ?_ (by first | omega | (simp; done) | (simp; omega)) _) | refine bl_gr ?_ _ | refine bl_al ?_ _ | refine below_setRow ?_ (by first | omega | (simp; done) | (simp; omega)) _ | refine bl_drewN ?_ _ | refine Below.drew ?_ | (refine bl_tr ?_ (by assumption))))⟩
  by_cases k1 : kk = 1
  · subst k1
    have RES := Lib.hid (show keyM ⟨1, n, s⟩ = (n == 0 && (decide (s.size ≤ 65536) && !(indexM s.data.toList).ok)) from rfl)
    generalize indexM s.data.toList = I at hi RES
    obtain ⟨m, ok⟩ := I
    unfold idxV at hi
    simp only at hi RES
    have HI := Lib.hid hi
    have hI : decide ((s.size : Int) ≤ 65536) = decide (s.size ≤ 65536) := by
      by_cases h : s.size ≤ 65536
      · rw [decide_eq_true h]; exact decide_eq_true (by omega)
      · rw [decide_eq_false h]; exact decide_eq_false (by omega)
    clear hi hk k0
    cases h1 : (n == 0) <;> cases h2 : decide (s.size ≤ 65536) <;> cases ok
    all_goals
      rw [h1, h2] at RES
      rw [h2] at hI
      go_enter Try.func49, Try.ntmps49
      go_wp2_with (go_at_call 70; refine (HI.out _).mono ?_; rintro e w' ⟨rfl, rfl⟩)
      go_ret
      exact ⟨ret_bool RES.out.symm, by (repeat (with_reducible first | exact Below.refl _ _ | (refine bl_set ?_ (by first | omega | (simp; done) | (simp; omega)) _) | refine bl_gr ?_ _ | refine bl_al ?_ _ | refine below_setRow ?_ (by first | omega | (simp; done) | (simp; omega)) _ | refine bl_drewN ?_ _ | refine Below.drew ?_ | (refine bl_tr ?_ (by assumption))))⟩
  by_cases k2 : kk = 2
  · subst k2
    have RES := Lib.hid (show keyM ⟨2, n, s⟩ = (s.toList.isEmpty && decide (1 ≤ n)) from rfl)
    clear hi hk k0 k1
    cases h1 : s.toList.isEmpty <;> cases h2 : decide (1 ≤ n)
    all_goals
      rw [h1, h2] at RES
      go_enter Try.func49, Try.ntmps49
      go_wp2_with fail
      go_ret
      exact ⟨ret_bool RES.out.symm, by (repeat (with_reducible first | exact Below.refl _ _ | (refine bl_set ?_ (by first | omega | (simp; done) | (simp; omega)) _) | refine bl_gr ?_ _ | refine bl_al ?_ _ | refine below_setRow ?_ (by first | omega | (simp; done) | (simp; omega)) _ | refine bl_drewN ?_ _ | refine Below.drew ?_ | (refine bl_tr ?_ (by assumption))))⟩
  · have RES := Lib.hid (show keyM ⟨kk, n, s⟩ = false by rw [keyM, if_neg k0, if_neg k1, if_neg k2])
    have e0 : (kk == 0) = false := by simpa using k0
    have e1 : (kk == 1) = false := by simpa using k1
    have e2 : (kk == 2) = false := by simpa using k2
    clear hi hk k0 k1 k2
    go_enter Try.func49, Try.ntmps49
    go_wp2_with fail
    go_ret
    exact ⟨ret_bool RES.out.symm, by (repeat (with_reducible first | exact Below.refl _ _ | (refine bl_set ?_ (by first | omega | (simp; done) | (simp; omega)) _) | refine bl_gr ?_ _ | refine bl_al ?_ _ | refine below_setRow ?_ (by first | omega | (simp; done) | (simp; omega)) _ | refine bl_drewN ?_ _ | refine Below.drew ?_ | (refine bl_tr ?_ (by assumption))))⟩
end Go.Proofs.Ytcmpgohpncnagaa
