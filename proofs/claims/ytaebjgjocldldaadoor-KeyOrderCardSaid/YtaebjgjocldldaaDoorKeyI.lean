/- Walks: Value and Text of package key and of its reference. -/
import Derived.Test.YtaebjgjocldldaaDoorKeyH
import Derived.StillTail
namespace Go.Proofs.YtaebjgjocldldaaDoor
set_option linter.all false
open Go.RowKit Go.Sort

def valueM (k : Val) : Val := if rightM k then (if k.k = 0 then ⟨3, k.n, ⟨#[]⟩⟩ else if k.k = 1 then ⟨5, 0, k.s⟩ else ⟨6, k.n, ⟨#[]⟩⟩) else .zero
def keyTextM (k : Val) : ByteArray := if rightM k then (if k.k = 0 then strL (Lib.itoa k.n) else k.s) else ⟨#[]⟩
theorem ret_agg {a b : Val} (h : a = b) : Ending.returned b.agg = Ending.returned a.agg := by rw [h]
/-- a valid key, by its kind -/
theorem right_kinds {k : Val} (h : rightM k = true) : (k.k = 0 ∧ k.s = ⟨#[]⟩ ∧ 0 ≤ k.n ∧ k.n ≤ 4294967294) ∨ (k.k = 1 ∧ k.n = 0 ∧ k.s.size ≤ 65536 ∧ (indexM k.s.data.toList).ok = false) ∨ (k.k = 2 ∧ k.s = ⟨#[]⟩ ∧ 1 ≤ k.n) := by
  unfold rightM at h
  split at h
  · rename_i e
    simp only [Bool.and_eq_true, decide_eq_true_eq] at h
    exact .inl ⟨e, (empty_iff _).1 h.1, h.2.1, h.2.2⟩
  split at h
  · rename_i e
    simp only [Bool.and_eq_true, decide_eq_true_eq, beq_iff_eq, Bool.not_eq_true'] at h
    exact .inr (.inl ⟨e, h.1, h.2.1, h.2.2⟩)
  split at h
  · rename_i e
    simp only [Bool.and_eq_true, decide_eq_true_eq] at h
    exact .inr (.inr ⟨e, (empty_iff _).1 h.1, h.2⟩)
  · cases h

set_option maxRecDepth 100000 in
set_option maxHeartbeats 4000000 in
theorem value_any (k : Val) (hk : k.s.size ≤ maxLen) (w : World) : Calls Tryd.prog 10 #[k.agg] w fun e w' => e = .returned (valueM k).agg ∧ Below w.heap.size w w' := by
  have hr := fun w => right_any k hk w
  cases h : rightM k
  · have RES := Lib.hid (show valueM k = .zero by rw [valueM, h]; rfl)
    simp only [h] at hr
    have HR := Lib.hid hr
    clear hr h hk
    go_enter Tryd.func10, Tryd.ntmps10
    go_wp2_with (go_at_call 11; refine (callGr (HR.out _)).mono ?_; rintro e w' ⟨pp, rfl, rfl⟩)
    exact bodyPost_ret (v := Val.zero.agg) (by simp [results, Tryd.results10, go_sem]) rfl ⟨ret_agg RES.out, by (repeat (with_reducible first | exact Below.refl _ _ | (refine bl_set ?_ (by first | omega | (simp; done) | (simp; omega)) _) | refine bl_gr ?_ _ | refine bl_al ?_ _ | refine below_setRow ?_ (by first | omega | (simp; done) | (simp; omega)) _ | refine bl_drewN ?_ _ | refine Below.drew ?_ | (refine bl_tr ?_ (by assumption))))⟩
  · simp only [h] at hr
    have hkinds := right_kinds h
    obtain ⟨kk, n, s⟩ := k
    simp only at hkinds
    rcases hkinds with ⟨rfl, rfl, b1, b2⟩ | ⟨rfl, rfl, b1, b2⟩ | ⟨rfl, rfl, b1⟩
    · have RES := Lib.hid (show valueM ⟨0, n, ⟨#[]⟩⟩ = ⟨3, n, ⟨#[]⟩⟩ by rw [valueM, h]; rfl)
      have HR := Lib.hid hr
      clear hr h hk b1 b2
      go_enter Tryd.func10, Tryd.ntmps10
      go_wp2_with (go_at_call 11; refine (callGr (HR.out _)).mono ?_; rintro e w' ⟨pp, rfl, rfl⟩)
      exact bodyPost_ret (v := (Val.mk 3 n ⟨#[]⟩).agg) (by simp [results, Tryd.results10, go_sem]) rfl ⟨ret_agg RES.out, by (repeat (with_reducible first | exact Below.refl _ _ | (refine bl_set ?_ (by first | omega | (simp; done) | (simp; omega)) _) | refine bl_gr ?_ _ | refine bl_al ?_ _ | refine below_setRow ?_ (by first | omega | (simp; done) | (simp; omega)) _ | refine bl_drewN ?_ _ | refine Below.drew ?_ | (refine bl_tr ?_ (by assumption))))⟩
    · have RES := Lib.hid (show valueM ⟨1, 0, s⟩ = ⟨5, 0, s⟩ by rw [valueM, h]; rfl)
      have HR := Lib.hid hr
      clear hr h hk b1 b2
      go_enter Tryd.func10, Tryd.ntmps10
      go_wp2_with (go_at_call 11; refine (callGr (HR.out _)).mono ?_; rintro e w' ⟨pp, rfl, rfl⟩)
      exact bodyPost_ret (v := (Val.mk 5 0 s).agg) (by simp [results, Tryd.results10, go_sem]) rfl ⟨ret_agg RES.out, by (repeat (with_reducible first | exact Below.refl _ _ | (refine bl_set ?_ (by first | omega | (simp; done) | (simp; omega)) _) | refine bl_gr ?_ _ | refine bl_al ?_ _ | refine below_setRow ?_ (by first | omega | (simp; done) | (simp; omega)) _ | refine bl_drewN ?_ _ | refine Below.drew ?_ | (refine bl_tr ?_ (by assumption))))⟩
    · have RES := Lib.hid (show valueM ⟨2, n, ⟨#[]⟩⟩ = ⟨6, n, ⟨#[]⟩⟩ by rw [valueM, h]; rfl)
      have HR := Lib.hid hr
      clear hr h hk b1
      go_enter Tryd.func10, Tryd.ntmps10
      go_wp2_with (go_at_call 11; refine (callGr (HR.out _)).mono ?_; rintro e w' ⟨pp, rfl, rfl⟩)
      exact bodyPost_ret (v := (Val.mk 6 n ⟨#[]⟩).agg) (by simp [results, Tryd.results10, go_sem]) rfl ⟨ret_agg RES.out, by (repeat (with_reducible first | exact Below.refl _ _ | (refine bl_set ?_ (by first | omega | (simp; done) | (simp; omega)) _) | refine bl_gr ?_ _ | refine bl_al ?_ _ | refine below_setRow ?_ (by first | omega | (simp; done) | (simp; omega)) _ | refine bl_drewN ?_ _ | refine Below.drew ?_ | (refine bl_tr ?_ (by assumption))))⟩

set_option maxRecDepth 100000 in
set_option maxHeartbeats 4000000 in
theorem keyText_any (k : Val) (hk : k.ok) (w : World) (ht : Tab w) : Calls Tryd.prog 16 #[k.agg] w fun e w' => e = .returned (.string (keyTextM k)) ∧ Below w.heap.size w w' := by
  have hr := fun w => right_any k hk.2.2 w
  cases h : rightM k
  · have RES := Lib.hid (show keyTextM k = ⟨#[]⟩ by rw [keyTextM, h]; rfl)
    simp only [h] at hr
    have HR := Lib.hid hr
    clear hr h hk
    go_enter Tryd.func16, Tryd.ntmps16
    go_wp2_with (go_at_call 11; refine (callGr (HR.out _)).mono ?_; rintro e w' ⟨pp, rfl, rfl⟩)
    go_ret
    exact ⟨ret_str RES.out.symm, by (repeat (with_reducible first | exact Below.refl _ _ | (refine bl_set ?_ (by first | omega | (simp; done) | (simp; omega)) _) | refine bl_gr ?_ _ | refine bl_al ?_ _ | refine below_setRow ?_ (by first | omega | (simp; done) | (simp; omega)) _ | refine bl_drewN ?_ _ | refine Below.drew ?_ | (refine bl_tr ?_ (by assumption))))⟩
  · simp only [h] at hr
    have hkinds := right_kinds h
    have HI := Lib.hid (fun (w' : World) (hb : Below w.heap.size w w') => itoa_calls k.n hk.2.1 w' (ht.below hb))
    obtain ⟨kk, n, s⟩ := k
    simp only at hkinds
    rcases hkinds with ⟨rfl, rfl, b1, b2⟩ | ⟨rfl, rfl, b1, b2⟩ | ⟨rfl, rfl, b1⟩
    · have RES := Lib.hid (show keyTextM ⟨0, n, ⟨#[]⟩⟩ = strL (Lib.itoa n) by rw [keyTextM, h]; rfl)
      have HR := Lib.hid hr
      clear hr h hk b1 b2
      go_enter Tryd.func16, Tryd.ntmps16
      go_wp2_with (first | (go_at_call 11; refine (callGr (HR.out _)).mono ?_; rintro e w' ⟨pp, rfl, rfl⟩) | (go_at_call 30; refine (callGr (HI.out _ (by (repeat (with_reducible first | exact Below.refl _ _ | (refine bl_set ?_ (by first | omega | (simp; done) | (simp; omega)) _) | refine bl_gr ?_ _ | refine bl_al ?_ _ | refine below_setRow ?_ (by first | omega | (simp; done) | (simp; omega)) _ | refine bl_drewN ?_ _ | refine Below.drew ?_ | (refine bl_tr ?_ (by assumption))))))).mono ?_; rintro e w' ⟨pp, rfl, rfl⟩))
      go_ret
      exact ⟨ret_str RES.out.symm, by (repeat (with_reducible first | exact Below.refl _ _ | (refine bl_set ?_ (by first | omega | (simp; done) | (simp; omega)) _) | refine bl_gr ?_ _ | refine bl_al ?_ _ | refine below_setRow ?_ (by first | omega | (simp; done) | (simp; omega)) _ | refine bl_drewN ?_ _ | refine Below.drew ?_ | (refine bl_tr ?_ (by assumption))))⟩
    · have RES := Lib.hid (show keyTextM ⟨1, 0, s⟩ = s by rw [keyTextM, h]; rfl)
      have HR := Lib.hid hr
      clear hr h hk b1 b2
      go_enter Tryd.func16, Tryd.ntmps16
      go_wp2_with (go_at_call 11; refine (callGr (HR.out _)).mono ?_; rintro e w' ⟨pp, rfl, rfl⟩)
      go_ret
      exact ⟨ret_str RES.out.symm, by (repeat (with_reducible first | exact Below.refl _ _ | (refine bl_set ?_ (by first | omega | (simp; done) | (simp; omega)) _) | refine bl_gr ?_ _ | refine bl_al ?_ _ | refine below_setRow ?_ (by first | omega | (simp; done) | (simp; omega)) _ | refine bl_drewN ?_ _ | refine Below.drew ?_ | (refine bl_tr ?_ (by assumption))))⟩
    · have RES := Lib.hid (show keyTextM ⟨2, n, ⟨#[]⟩⟩ = ⟨#[]⟩ by rw [keyTextM, h]; rfl)
      have HR := Lib.hid hr
      clear hr h hk b1
      go_enter Tryd.func16, Tryd.ntmps16
      go_wp2_with (go_at_call 11; refine (callGr (HR.out _)).mono ?_; rintro e w' ⟨pp, rfl, rfl⟩)
      go_ret
      exact ⟨ret_str RES.out.symm, by (repeat (with_reducible first | exact Below.refl _ _ | (refine bl_set ?_ (by first | omega | (simp; done) | (simp; omega)) _) | refine bl_gr ?_ _ | refine bl_al ?_ _ | refine below_setRow ?_ (by first | omega | (simp; done) | (simp; omega)) _ | refine bl_drewN ?_ _ | refine Below.drew ?_ | (refine bl_tr ?_ (by assumption))))⟩

set_option maxRecDepth 100000 in
set_option maxHeartbeats 4000000 in
theorem rkeyText_any (k : Val) (hk : k.ok) (w : World) : Calls Tryd.prog 17 #[k.agg] w fun e w' => e = .returned (.string (keyTextM k)) ∧ Below w.heap.size w w' := by
  have hr := fun w => rright_any k hk.2.2 w
  cases h : rightM k
  · have RES := Lib.hid (show keyTextM k = ⟨#[]⟩ by rw [keyTextM, h]; rfl)
    simp only [h] at hr
    have HR := Lib.hid hr
    clear hr h hk
    go_enter Tryd.func17, Tryd.ntmps17
    go_wp2_with (go_at_call 14; refine (callGr (HR.out _)).mono ?_; rintro e w' ⟨pp, rfl, rfl⟩)
    go_ret
    exact ⟨ret_str RES.out.symm, by (repeat (with_reducible first | exact Below.refl _ _ | (refine bl_set ?_ (by first | omega | (simp; done) | (simp; omega)) _) | refine bl_gr ?_ _ | refine bl_al ?_ _ | refine below_setRow ?_ (by first | omega | (simp; done) | (simp; omega)) _ | refine bl_drewN ?_ _ | refine Below.drew ?_ | (refine bl_tr ?_ (by assumption))))⟩
  · simp only [h] at hr
    have hkinds := right_kinds h
    obtain ⟨kk, n, s⟩ := k
    simp only at hkinds
    rcases hkinds with ⟨rfl, rfl, b1, b2⟩ | ⟨rfl, rfl, b1, b2⟩ | ⟨rfl, rfl, b1⟩
    · obtain ⟨u, rfl⟩ := Int.eq_ofNat_of_zero_le b1
      have RES := Lib.hid (show keyTextM ⟨0, (u : Int), ⟨#[]⟩⟩ = strL (Lib.decDigits u) by rw [keyTextM, h, ← Lib.itoa_nonneg]; rfl)
      have HD := Lib.hid (fun w => digits_nat u w (by omega))
      have HR := Lib.hid hr
      clear hr h hk b1 b2
      go_enter Tryd.func17, Tryd.ntmps17
      go_wp2_with (first | (go_at_call 14; refine (callGr (HR.out _)).mono ?_; rintro e w' ⟨pp, rfl, rfl⟩) | (go_at_call 31; refine (callGr (HD.out _)).mono ?_; rintro e w' ⟨pp, rfl, rfl⟩))
      go_ret
      exact ⟨ret_str RES.out.symm, by (repeat (with_reducible first | exact Below.refl _ _ | (refine bl_set ?_ (by first | omega | (simp; done) | (simp; omega)) _) | refine bl_gr ?_ _ | refine bl_al ?_ _ | refine below_setRow ?_ (by first | omega | (simp; done) | (simp; omega)) _ | refine bl_drewN ?_ _ | refine Below.drew ?_ | (refine bl_tr ?_ (by assumption))))⟩
    · have RES := Lib.hid (show keyTextM ⟨1, 0, s⟩ = s by rw [keyTextM, h]; rfl)
      have HR := Lib.hid hr
      clear hr h hk b1 b2
      go_enter Tryd.func17, Tryd.ntmps17
      go_wp2_with (go_at_call 14; refine (callGr (HR.out _)).mono ?_; rintro e w' ⟨pp, rfl, rfl⟩)
      go_ret
      exact ⟨ret_str RES.out.symm, by (repeat (with_reducible first | exact Below.refl _ _ | (refine bl_set ?_ (by first | omega | (simp; done) | (simp; omega)) _) | refine bl_gr ?_ _ | refine bl_al ?_ _ | refine below_setRow ?_ (by first | omega | (simp; done) | (simp; omega)) _ | refine bl_drewN ?_ _ | refine Below.drew ?_ | (refine bl_tr ?_ (by assumption))))⟩
    · have RES := Lib.hid (show keyTextM ⟨2, n, ⟨#[]⟩⟩ = ⟨#[]⟩ by rw [keyTextM, h]; rfl)
      have HR := Lib.hid hr
      clear hr h hk b1
      go_enter Tryd.func17, Tryd.ntmps17
      go_wp2_with (go_at_call 14; refine (callGr (HR.out _)).mono ?_; rintro e w' ⟨pp, rfl, rfl⟩)
      go_ret
      exact ⟨ret_str RES.out.symm, by (repeat (with_reducible first | exact Below.refl _ _ | (refine bl_set ?_ (by first | omega | (simp; done) | (simp; omega)) _) | refine bl_gr ?_ _ | refine bl_al ?_ _ | refine below_setRow ?_ (by first | omega | (simp; done) | (simp; omega)) _ | refine bl_drewN ?_ _ | refine Below.drew ?_ | (refine bl_tr ?_ (by assumption))))⟩
end Go.Proofs.YtaebjgjocldldaaDoor
