/- Walks: Of of package key and of its reference. -/
import Derived.Test.YtaebjgjocldldaaDoorKeyE
namespace Go.Proofs.YtaebjgjocldldaaDoor
set_option linter.all false
open Go.RowKit Go.Sort

theorem numText_size (v : Val) (h : i64ok v.n) : (numTextM v).size ≤ 21 := by
  unfold numTextM
  split
  · rw [strL_size]
    exact Lib.itoa_length_le v.n h.1 h.2
  · decide
theorem ofM_num {v : Val} (h : isNumM v = true) : ofM v = ⟨wordM (numTextM v), true⟩ := by rw [ofM, h, if_pos rfl]
theorem ofM_txt {v : Val} (h : isNumM v = false) (k : txtB v = true) : ofM v = ⟨wordM v.s, true⟩ := by rw [ofM, h, k, if_neg (by simp), if_pos rfl]
theorem ofM_sym {v : Val} (h : isNumM v = false) (k : txtB v = false) (j : symB v = true) : ofM v = ⟨⟨2, v.n, ⟨#[]⟩⟩, true⟩ := by rw [ofM, h, k, j, if_neg (by simp), if_neg (by simp), if_pos rfl]
theorem ofM_no {v : Val} (h : isNumM v = false) (k : txtB v = false) (j : symB v = false) : ofM v = ⟨.zero, false⟩ := by rw [ofM, h, k, j, if_neg (by simp), if_neg (by simp), if_neg (by simp)]
theorem ofR_eq {r r' : OfR} (h : r = r') : Ending.returned (ofR r') = Ending.returned (ofR r) := by rw [h]

set_option maxRecDepth 100000 in
set_option maxHeartbeats 4000000 in
theorem of_any (v : Val) (hv : v.ok) (w : World) (ht : Tab w) : Calls Tryd.prog 8 #[v.agg] w fun e w' => e = .returned (ofR (ofM v)) ∧ Below w.heap.size w w' := by
  have hw := fun w => is_any v w
  have hsz := numText_size v hv.2.1
  cases h : isNumM v
  · simp only [h] at hw
    have HW := Lib.hid hw
    clear hw hsz
    cases k : txtB v
    · have hk : (v.k == 5) = false ∨ (v.k == 5) = true ∧ (v.n == 0) = false ∨ (v.k == 5) = true ∧ (v.n == 0) = true ∧ decide (v.s.size ≤ 65536) = false := by
        unfold txtB at k
        revert k
        cases (v.k == 5) <;> cases (v.n == 0) <;> cases (decide (v.s.size ≤ 65536)) <;> simp
      have HH := Lib.hid h
      have KK := Lib.hid k
      clear h k
      cases j : symB v
      · have hj : (v.k == 6) = false ∨ (v.k == 6) = true ∧ v.s.toList.isEmpty = false ∨ (v.k == 6) = true ∧ v.s.toList.isEmpty = true ∧ decide (1 ≤ v.n) = false := by
          unfold symB at j
          revert j
          cases (v.k == 6) <;> cases v.s.toList.isEmpty <;> cases (decide (1 ≤ v.n)) <;> simp
        have RES := Lib.hid (ofM_no HH.out KK.out j)
        clear j
        obtain ⟨kk, n, s⟩ := v
        simp only at hk hj
        have hfive : (kk == 5) = true → (kk == 6) = false := by
          intro e
          rw [beq_iff_eq] at e
          rw [e]
          rfl
        rcases hk with k1 | ⟨k1, k2⟩ | ⟨k1, k2, k3⟩
        · clear hfive
          rcases hj with j1 | ⟨j1, j2⟩ | ⟨j1, j2, j3⟩
          all_goals
            go_enter Tryd.func8, Tryd.ntmps8
            go_wp2_with (go_at_call 23; refine (callGr (HW.out _)).mono ?_; rintro e w' ⟨pp, rfl, rfl⟩)
            exact bodyPost_ret (v := .tuple #[.agg #[.int .i64 0, .int .i64 0, .string ⟨#[]⟩], .bool false]) (by simp [results, Tryd.results8, go_sem]) rfl ⟨ofR_eq RES.out, by (repeat (with_reducible first | exact Below.refl _ _ | (refine bl_set ?_ (by first | omega | (simp; done) | (simp; omega)) _) | refine bl_gr ?_ _ | refine bl_al ?_ _ | refine below_setRow ?_ (by first | omega | (simp; done) | (simp; omega)) _ | refine bl_drewN ?_ _ | refine Below.drew ?_ | (refine bl_tr ?_ (by assumption))))⟩
        · have j1 := hfive k1
          clear hfive hj
          go_enter Tryd.func8, Tryd.ntmps8
          go_wp2_with (go_at_call 23; refine (callGr (HW.out _)).mono ?_; rintro e w' ⟨pp, rfl, rfl⟩)
          exact bodyPost_ret (v := .tuple #[.agg #[.int .i64 0, .int .i64 0, .string ⟨#[]⟩], .bool false]) (by simp [results, Tryd.results8, go_sem]) rfl ⟨ofR_eq RES.out, by (repeat (with_reducible first | exact Below.refl _ _ | (refine bl_set ?_ (by first | omega | (simp; done) | (simp; omega)) _) | refine bl_gr ?_ _ | refine bl_al ?_ _ | refine below_setRow ?_ (by first | omega | (simp; done) | (simp; omega)) _ | refine bl_drewN ?_ _ | refine Below.drew ?_ | (refine bl_tr ?_ (by assumption))))⟩
        · have j1 := hfive k1
          have k4 : decide ((s.size : Int) ≤ 65536) = false := by
            have := of_decide_eq_false k3
            exact decide_eq_false (by omega)
          clear hfive hj
          go_enter Tryd.func8, Tryd.ntmps8
          go_wp2_with (go_at_call 23; refine (callGr (HW.out _)).mono ?_; rintro e w' ⟨pp, rfl, rfl⟩)
          exact bodyPost_ret (v := .tuple #[.agg #[.int .i64 0, .int .i64 0, .string ⟨#[]⟩], .bool false]) (by simp [results, Tryd.results8, go_sem]) rfl ⟨ofR_eq RES.out, by (repeat (with_reducible first | exact Below.refl _ _ | (refine bl_set ?_ (by first | omega | (simp; done) | (simp; omega)) _) | refine bl_gr ?_ _ | refine bl_al ?_ _ | refine below_setRow ?_ (by first | omega | (simp; done) | (simp; omega)) _ | refine bl_drewN ?_ _ | refine Below.drew ?_ | (refine bl_tr ?_ (by assumption))))⟩
      · have RES := Lib.hid (ofM_sym HH.out KK.out j)
        have hj : (v.k == 6) = true ∧ v.s.toList.isEmpty = true ∧ 1 ≤ v.n := by
          unfold symB at j
          simpa using j
        have k1 : (v.k == 5) = false := by
          have := hj.1
          rw [beq_iff_eq] at this
          rw [this]
          rfl
        clear j hk
        obtain ⟨j1, j2, j3⟩ := hj
        go_enter Tryd.func8, Tryd.ntmps8
        go_wp2_with (go_at_call 23; refine (callGr (HW.out _)).mono ?_; rintro e w' ⟨pp, rfl, rfl⟩)
        exact bodyPost_ret (v := .tuple #[.agg #[.int .i64 2, .int .i64 v.n, .string ⟨#[]⟩], .bool true]) (by simp [results, Tryd.results8, go_sem]) rfl ⟨ofR_eq RES.out, by (repeat (with_reducible first | exact Below.refl _ _ | (refine bl_set ?_ (by first | omega | (simp; done) | (simp; omega)) _) | refine bl_gr ?_ _ | refine bl_al ?_ _ | refine below_setRow ?_ (by first | omega | (simp; done) | (simp; omega)) _ | refine bl_drewN ?_ _ | refine Below.drew ?_ | (refine bl_tr ?_ (by assumption))))⟩
    · have RES := Lib.hid (ofM_txt h k)
      have hk : (v.k == 5) = true ∧ (v.n == 0) = true ∧ v.s.size ≤ 65536 := by
        unfold txtB at k
        simpa using k
      have HD := Lib.hid (fun w => word_any v.s w hv.2.2)
      clear h k
      obtain ⟨k1, k2, k3⟩ := hk
      have k4 : decide (v.s.size ≤ 65536) = true := decide_eq_true k3
      have k5 : decide ((v.s.size : Int) ≤ 65536) = true := decide_eq_true (by omega)
      clear k3
      go_enter Tryd.func8, Tryd.ntmps8
      go_wp2_with (first | (go_at_call 23; refine (callGr (HW.out _)).mono ?_; rintro e w' ⟨pp, rfl, rfl⟩) | (go_at_call 24; refine (callGr (HD.out _)).mono ?_; rintro e w' ⟨pp, rfl, rfl⟩))
      exact bodyPost_ret (v := .tuple #[(wordM v.s).agg, .bool true]) (by simp [results, Tryd.results8, go_sem]) rfl ⟨ofR_eq RES.out, by (repeat (with_reducible first | exact Below.refl _ _ | (refine bl_set ?_ (by first | omega | (simp; done) | (simp; omega)) _) | refine bl_gr ?_ _ | refine bl_al ?_ _ | refine below_setRow ?_ (by first | omega | (simp; done) | (simp; omega)) _ | refine bl_drewN ?_ _ | refine Below.drew ?_ | (refine bl_tr ?_ (by assumption))))⟩
  · have RES := Lib.hid (ofM_num h)
    simp only [h] at hw
    have HW := Lib.hid hw
    have HT := Lib.hid (fun (w' : World) (hb : Below w.heap.size w w') => numText_any v hv w' (ht.below hb))
    clear hw h
    generalize numTextM v = T at *
    have HD := Lib.hid (fun w => word_any T w (by unfold maxLen; omega))
    clear hsz
    go_enter Tryd.func8, Tryd.ntmps8
    go_wp2_with (first | (go_at_call 23; refine (callGr (HW.out _)).mono ?_; rintro e w' ⟨pp, rfl, rfl⟩) | (go_at_call 25; refine (callGr (HT.out _ (by (repeat (with_reducible first | exact Below.refl _ _ | (refine bl_set ?_ (by first | omega | (simp; done) | (simp; omega)) _) | refine bl_gr ?_ _ | refine bl_al ?_ _ | refine below_setRow ?_ (by first | omega | (simp; done) | (simp; omega)) _ | refine bl_drewN ?_ _ | refine Below.drew ?_ | (refine bl_tr ?_ (by assumption))))))).mono ?_; rintro e w' ⟨pp, rfl, rfl⟩) | (go_at_call 24; refine (callGr (HD.out _)).mono ?_; rintro e w' ⟨pp, rfl, rfl⟩))
    exact bodyPost_ret (v := .tuple #[(wordM T).agg, .bool true]) (by simp [results, Tryd.results8, go_sem]) rfl ⟨ofR_eq RES.out, by (repeat (with_reducible first | exact Below.refl _ _ | (refine bl_set ?_ (by first | omega | (simp; done) | (simp; omega)) _) | refine bl_gr ?_ _ | refine bl_al ?_ _ | refine below_setRow ?_ (by first | omega | (simp; done) | (simp; omega)) _ | refine bl_drewN ?_ _ | refine Below.drew ?_ | (refine bl_tr ?_ (by assumption))))⟩
end Go.Proofs.YtaebjgjocldldaaDoor
