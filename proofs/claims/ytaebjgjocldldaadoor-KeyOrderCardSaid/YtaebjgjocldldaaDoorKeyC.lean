/- Walks of package num and of its reference: In, whole, none, Is, Some; Digits, Text. -/
import Derived.Test.YtaebjgjocldldaaDoorKeyB
import Derived.Test.YtaebjgjocldldaaDoorShelf
namespace Go.Proofs.YtaebjgjocldldaaDoor
set_option linter.all false
open Go.RowKit Go.Sort

set_option maxRecDepth 100000 in
set_option maxHeartbeats 4000000 in
theorem in_any (n : Int) (w : World) : Calls Tryd.prog 43 #[.int .i64 n] w fun e w' => e = .returned (.bool (i53 n)) ∧ w = w' := by
  go_enter Tryd.func43, Tryd.ntmps43
  go_wp2
  all_goals go_ret
  all_goals exact ⟨ret_bool (by rw [Bool.eq_iff_iff]; first | (simp [i53, *]; done) | (simp [i53]; omega)), rfl⟩
set_option maxRecDepth 100000 in
set_option maxHeartbeats 4000000 in
theorem none_any (w : World) : Calls Tryd.prog 36 #[] w fun e w' => e = .returned nanV.agg ∧ Below w.heap.size w w' := by
  go_enter Tryd.func36, Tryd.ntmps36
  go_wp2
  refine bodyPost_ret (v := nanV.agg) (by simp [results, Tryd.results36, go_sem]) rfl ⟨rfl, ?_⟩
  (repeat (with_reducible first | exact Below.refl _ _ | (refine bl_set ?_ (by first | omega | (simp; done) | (simp; omega)) _) | refine bl_gr ?_ _ | refine bl_al ?_ _ | refine below_setRow ?_ (by first | omega | (simp; done) | (simp; omega)) _ | refine bl_drewN ?_ _ | refine Below.drew ?_ | (refine bl_tr ?_ (by assumption))))

def wholeV (v : Val) : Value := .tuple #[.int .i64 v.n, .bool (wholeM v)]
theorem wholeV_of {v : Val} {b : Bool} (h : wholeM v = b) : Ending.returned (.tuple #[.int .i64 v.n, .bool b]) = Ending.returned (wholeV v) := by
  subst h
  rfl
set_option maxRecDepth 100000 in
set_option maxHeartbeats 4000000 in
theorem whole_any (v : Val) (w : World) : Calls Tryd.prog 35 #[v.agg] w fun e w' => e = .returned (wholeV v) ∧ Below w.heap.size w w' := by
  cases h1 : (v.k == 3)
  · have RES := Lib.hid (show wholeM v = false by rw [wholeM, h1]; rfl)
    go_enter Tryd.func35, Tryd.ntmps35
    go_wp2_with ((first | (with_reducible refine wp_quiet_gr Tryd.mixed ?_ ?_) | (with_reducible refine wp_quiet_any Tryd.mixed ?_ ?_)); (next => kernel_rfl); (repeat (with_reducible refine wpQuiet_step (fun K hK => ?_); go_simp; first | (refine hK _ ?_; clear hK K) | (apply Exists.intro; refine ⟨fun _ => ?_, hK _ ?_⟩; ((go_at_call 43; exact callS (in_any _ _))); clear hK K))); refine wpQuiet_nil ?_; intro pq)
    go_ret2
    exact ⟨wholeV_of RES.out, by (repeat (with_reducible first | exact Below.refl _ _ | (refine bl_set ?_ (by first | omega | (simp; done) | (simp; omega)) _) | refine bl_gr ?_ _ | refine bl_al ?_ _ | refine below_setRow ?_ (by first | omega | (simp; done) | (simp; omega)) _ | refine bl_drewN ?_ _ | refine Below.drew ?_ | (refine bl_tr ?_ (by assumption))))⟩
  · cases h2 : v.s.toList.isEmpty
    · have RES := Lib.hid (show wholeM v = false by rw [wholeM, h2]; simp)
      go_enter Tryd.func35, Tryd.ntmps35
      go_wp2_with ((first | (with_reducible refine wp_quiet_gr Tryd.mixed ?_ ?_) | (with_reducible refine wp_quiet_any Tryd.mixed ?_ ?_)); (next => kernel_rfl); (repeat (with_reducible refine wpQuiet_step (fun K hK => ?_); go_simp; first | (refine hK _ ?_; clear hK K) | (apply Exists.intro; refine ⟨fun _ => ?_, hK _ ?_⟩; ((go_at_call 43; exact callS (in_any _ _))); clear hK K))); refine wpQuiet_nil ?_; intro pq)
      go_ret2
      exact ⟨wholeV_of RES.out, by (repeat (with_reducible first | exact Below.refl _ _ | (refine bl_set ?_ (by first | omega | (simp; done) | (simp; omega)) _) | refine bl_gr ?_ _ | refine bl_al ?_ _ | refine below_setRow ?_ (by first | omega | (simp; done) | (simp; omega)) _ | refine bl_drewN ?_ _ | refine Below.drew ?_ | (refine bl_tr ?_ (by assumption))))⟩
    · have RES := Lib.hid (show wholeM v = i53 v.n by rw [wholeM, h1, h2]; simp)
      go_enter Tryd.func35, Tryd.ntmps35
      go_wp2_with ((first | (with_reducible refine wp_quiet_gr Tryd.mixed ?_ ?_) | (with_reducible refine wp_quiet_any Tryd.mixed ?_ ?_)); (next => kernel_rfl); (repeat (with_reducible refine wpQuiet_step (fun K hK => ?_); go_simp; first | (refine hK _ ?_; clear hK K) | (apply Exists.intro; refine ⟨fun _ => ?_, hK _ ?_⟩; ((go_at_call 43; exact callS (in_any _ _))); clear hK K))); refine wpQuiet_nil ?_; intro pq)
      go_ret2
      exact ⟨wholeV_of RES.out, by (repeat (with_reducible first | exact Below.refl _ _ | (refine bl_set ?_ (by first | omega | (simp; done) | (simp; omega)) _) | refine bl_gr ?_ _ | refine bl_al ?_ _ | refine below_setRow ?_ (by first | omega | (simp; done) | (simp; omega)) _ | refine bl_drewN ?_ _ | refine Below.drew ?_ | (refine bl_tr ?_ (by assumption))))⟩

set_option maxRecDepth 100000 in
set_option maxHeartbeats 4000000 in
theorem is_any (v : Val) (w : World) : Calls Tryd.prog 23 #[v.agg] w fun e w' => e = .returned (.bool (isNumM v)) ∧ Below w.heap.size w w' := by
  have hw := fun w => whole_any v w
  cases h : wholeM v
  · have RES := Lib.hid (show isNumM v = v.eq nanV by rw [isNumM, h]; rfl)
    simp only [wholeV, h] at hw
    have HW := Lib.hid hw
    clear hw h
    go_enter Tryd.func23, Tryd.ntmps23
    go_wp2_with (first | (go_at_call 35; refine (callGr (HW.out _)).mono ?_; rintro e w' ⟨pp, rfl, rfl⟩) | ((first | (with_reducible refine wp_quiet_gr Tryd.mixed ?_ ?_) | (with_reducible refine wp_quiet_any Tryd.mixed ?_ ?_)); (next => kernel_rfl); (repeat (with_reducible refine wpQuiet_step (fun K hK => ?_); go_simp; first | (refine hK _ ?_; clear hK K) | (apply Exists.intro; refine ⟨fun _ => ?_, hK _ ?_⟩; ((go_at_call 36; exact callQ (none_any _))); clear hK K))); refine wpQuiet_nil ?_; intro pq))
    go_ret
    exact ⟨ret_bool RES.out.symm, by (repeat (with_reducible first | exact Below.refl _ _ | (refine bl_set ?_ (by first | omega | (simp; done) | (simp; omega)) _) | refine bl_gr ?_ _ | refine bl_al ?_ _ | refine below_setRow ?_ (by first | omega | (simp; done) | (simp; omega)) _ | refine bl_drewN ?_ _ | refine Below.drew ?_ | (refine bl_tr ?_ (by assumption))))⟩
  · have RES := Lib.hid (show isNumM v = true by rw [isNumM, h]; rfl)
    simp only [wholeV, h] at hw
    have HW := Lib.hid hw
    clear hw h
    go_enter Tryd.func23, Tryd.ntmps23
    go_wp2_with (first | (go_at_call 35; refine (callGr (HW.out _)).mono ?_; rintro e w' ⟨pp, rfl, rfl⟩) | ((first | (with_reducible refine wp_quiet_gr Tryd.mixed ?_ ?_) | (with_reducible refine wp_quiet_any Tryd.mixed ?_ ?_)); (next => kernel_rfl); (repeat (with_reducible refine wpQuiet_step (fun K hK => ?_); go_simp; first | (refine hK _ ?_; clear hK K) | (apply Exists.intro; refine ⟨fun _ => ?_, hK _ ?_⟩; ((go_at_call 36; exact callQ (none_any _))); clear hK K))); refine wpQuiet_nil ?_; intro pq))
    go_ret
    exact ⟨ret_bool RES.out.symm, by (repeat (with_reducible first | exact Below.refl _ _ | (refine bl_set ?_ (by first | omega | (simp; done) | (simp; omega)) _) | refine bl_gr ?_ _ | refine bl_al ?_ _ | refine below_setRow ?_ (by first | omega | (simp; done) | (simp; omega)) _ | refine bl_drewN ?_ _ | refine Below.drew ?_ | (refine bl_tr ?_ (by assumption))))⟩

theorem empty_iff (s : ByteArray) : s.toList.isEmpty = true ↔ s = ⟨#[]⟩ := by
  rw [List.isEmpty_iff, ByteArray.toList_eq]
  constructor
  · intro h
    exact ba_ext (by rw [h])
  · intro h
    rw [h]
theorem isNum_no {v : Val} (h : v.s.toList.isEmpty = false) : isNumM v = false := by
  unfold isNumM wholeM nanV Val.eq
  have h2 : (v.s.toList == []) = false := by
    cases e : v.s.toList with
    | nil => rw [e] at h; cases h
    | cons a b => rfl
  rw [h, show (⟨#[]⟩ : ByteArray).toList = [] by rw [ByteArray.toList_eq], h2]
  simp
theorem isNum_yes {v : Val} (h : v.s.toList.isEmpty = true) : isNumM v = ((v.k == 3 && i53 v.n) || (v.k == 4 && v.n == 0)) := by
  unfold isNumM wholeM nanV Val.eq
  have h2 : (v.s.toList == []) = true := by rw [List.isEmpty_iff.1 h]; rfl
  rw [h, show (⟨#[]⟩ : ByteArray).toList = [] by rw [ByteArray.toList_eq], h2]
  simp
set_option maxRecDepth 100000 in
set_option maxHeartbeats 4000000 in
theorem ris_any (v : Val) (w : World) : Calls Tryd.prog 26 #[v.agg] w fun e w' => e = .returned (.bool (isNumM v)) ∧ Below w.heap.size w w' := by
  cases h : v.s.toList.isEmpty
  · have RES := Lib.hid (isNum_no h)
    go_enter Tryd.func26, Tryd.ntmps26
    go_wp2_with fail
    go_ret
    exact ⟨ret_bool RES.out.symm, by (repeat (with_reducible first | exact Below.refl _ _ | (refine bl_set ?_ (by first | omega | (simp; done) | (simp; omega)) _) | refine bl_gr ?_ _ | refine bl_al ?_ _ | refine below_setRow ?_ (by first | omega | (simp; done) | (simp; omega)) _ | refine bl_drewN ?_ _ | refine Below.drew ?_ | (refine bl_tr ?_ (by assumption))))⟩
  · have RES := Lib.hid (isNum_yes h)
    go_enter Tryd.func26, Tryd.ntmps26
    go_wp2_with fail
    all_goals go_ret
    all_goals refine ⟨ret_bool ?_, by (repeat (with_reducible first | exact Below.refl _ _ | (refine bl_set ?_ (by first | omega | (simp; done) | (simp; omega)) _) | refine bl_gr ?_ _ | refine bl_al ?_ _ | refine below_setRow ?_ (by first | omega | (simp; done) | (simp; omega)) _ | refine bl_drewN ?_ _ | refine Below.drew ?_ | (refine bl_tr ?_ (by assumption))))⟩
    all_goals rw [RES.out]
    all_goals first | (simp [i53, *]; done) | (rw [Bool.eq_iff_iff]; simp [i53, *]; done) | (rw [Bool.eq_iff_iff]; simp [i53]; omega)
end Go.Proofs.YtaebjgjocldldaaDoor
