/- Walk: Of of the reference of package key. -/
import Derived.Test.YtaebjgjocldldaaDoorKeyF
namespace Go.Proofs.YtaebjgjocldldaaDoor
set_option linter.all false
open Go.RowKit Go.Sort

set_option maxRecDepth 100000 in
set_option maxHeartbeats 4000000 in
theorem rof_any (v : Val) (hv : v.ok) (w : World) : Calls Tryd.prog 9 #[v.agg] w fun e w' => e = .returned (ofR (ofM v)) ∧ Below w.heap.size w w' := by
  have hw := fun w => ris_any v w
  have hsz := numText_size v hv.2.1
  cases h : isNumM v
  · simp only [h] at hw
    have HW := Lib.hid hw
    clear hw hsz
    by_cases g : v.k = 5 ∧ v.n = 0
    · obtain ⟨g1, g2⟩ := g
      have k1 : (v.k == 5) = true := by rw [g1]; rfl
      have k2 : (v.n == 0) = true := by rw [g2]; rfl
      by_cases k3 : v.s.size ≤ 65536
      · have RES := Lib.hid (ofM_txt h (show txtB v = true by rw [txtB, k1, k2, decide_eq_true k3]; rfl))
        have HD := Lib.hid (fun w => text_any v.s w hv.2.2 k3)
        clear h k3 g1 g2
        unfold ofR at HD
        go_enter Tryd.func9, Tryd.ntmps9
        go_wp2_with (first | (go_at_call 26; refine (callGr (HW.out _)).mono ?_; rintro e w' ⟨pp, rfl, rfl⟩) | (go_at_call 27; refine (callGr (HD.out _)).mono ?_; rintro e w' ⟨pp, rfl, rfl⟩))
        exact bodyPost_ret (v := .tuple #[(wordM v.s).agg, .bool true]) (by simp [results, Tryd.results9, go_sem]) rfl ⟨ofR_eq RES.out, by (repeat (with_reducible first | exact Below.refl _ _ | (refine bl_set ?_ (by first | omega | (simp; done) | (simp; omega)) _) | refine bl_gr ?_ _ | refine bl_al ?_ _ | refine below_setRow ?_ (by first | omega | (simp; done) | (simp; omega)) _ | refine bl_drewN ?_ _ | refine Below.drew ?_ | (refine bl_tr ?_ (by assumption))))⟩
      · have RES := Lib.hid (ofM_no h (show txtB v = false by rw [txtB, decide_eq_false k3]; simp) (show symB v = false by rw [symB, g1]; rfl))
        have HD := Lib.hid (fun w => text_long v.s w k3)
        clear h k3 g1 g2
        unfold ofR at HD
        go_enter Tryd.func9, Tryd.ntmps9
        go_wp2_with (first | (go_at_call 26; refine (callGr (HW.out _)).mono ?_; rintro e w' ⟨pp, rfl, rfl⟩) | (go_at_call 27; refine (callGr (HD.out _)).mono ?_; rintro e w' ⟨pp, rfl, rfl⟩))
        exact bodyPost_ret (v := .tuple #[.agg #[.int .i64 0, .int .i64 0, .string ⟨#[]⟩], .bool false]) (by simp [results, Tryd.results9, go_sem]) rfl ⟨ofR_eq RES.out, by (repeat (with_reducible first | exact Below.refl _ _ | (refine bl_set ?_ (by first | omega | (simp; done) | (simp; omega)) _) | refine bl_gr ?_ _ | refine bl_al ?_ _ | refine below_setRow ?_ (by first | omega | (simp; done) | (simp; omega)) _ | refine bl_drewN ?_ _ | refine Below.drew ?_ | (refine bl_tr ?_ (by assumption))))⟩
    · have KK := Lib.hid (show txtB v = false by
        unfold txtB
        cases e1 : (v.k == 5)
        · rfl
        · cases e2 : (v.n == 0)
          · rfl
          · exact absurd ⟨by simpa using e1, by simpa using e2⟩ g)
      have hk : (v.k == 5) = false ∨ (v.k == 5) = true ∧ (v.n == 0) = false := by
        cases e1 : (v.k == 5)
        · exact .inl rfl
        · refine .inr ⟨rfl, ?_⟩
          cases e2 : (v.n == 0)
          · rfl
          · exact absurd ⟨by simpa using e1, by simpa using e2⟩ g
      have HH := Lib.hid h
      clear h g
      cases j : symB v
      · have hj : (v.k == 6) = false ∨ (v.k == 6) = true ∧ v.s.toList.isEmpty = false ∨ (v.k == 6) = true ∧ v.s.toList.isEmpty = true ∧ decide (1 ≤ v.n) = false := by
          unfold symB at j
          revert j
          cases (v.k == 6) <;> cases v.s.toList.isEmpty <;> cases (decide (1 ≤ v.n)) <;> simp
        have RES := Lib.hid (ofM_no HH.out KK.out j)
        clear j
        obtain ⟨kk, n, s⟩ := v
        simp only at hk hj
        have hfive : (kk == 5) = true → (kk == 6) = false := by
          intro e
          rw [beq_iff_eq] at e
          rw [e]
          rfl
        rcases hk with k1 | ⟨k1, k2⟩
        · clear hfive
          rcases hj with j1 | ⟨j1, j2⟩ | ⟨j1, j2, j3⟩
          all_goals
            go_enter Tryd.func9, Tryd.ntmps9
            go_wp2_with (go_at_call 26; refine (callGr (HW.out _)).mono ?_; rintro e w' ⟨pp, rfl, rfl⟩)
            exact bodyPost_ret (v := .tuple #[.agg #[.int .i64 0, .int .i64 0, .string ⟨#[]⟩], .bool false]) (by simp [results, Tryd.results9, go_sem]) rfl ⟨ofR_eq RES.out, by (repeat (with_reducible first | exact Below.refl _ _ | (refine bl_set ?_ (by first | omega | (simp; done) | (simp; omega)) _) | refine bl_gr ?_ _ | refine bl_al ?_ _ | refine below_setRow ?_ (by first | omega | (simp; done) | (simp; omega)) _ | refine bl_drewN ?_ _ | refine Below.drew ?_ | (refine bl_tr ?_ (by assumption))))⟩
        · have j1 := hfive k1
          clear hfive hj
          go_enter Tryd.func9, Tryd.ntmps9
          go_wp2_with (go_at_call 26; refine (callGr (HW.out _)).mono ?_; rintro e w' ⟨pp, rfl, rfl⟩)
          exact bodyPost_ret (v := .tuple #[.agg #[.int .i64 0, .int .i64 0, .string ⟨#[]⟩], .bool false]) (by simp [results, Tryd.results9, go_sem]) rfl ⟨ofR_eq RES.out, by (repeat (with_reducible first | exact Below.refl _ _ | (refine bl_set ?_ (by first | omega | (simp; done) | (simp; omega)) _) | refine bl_gr ?_ _ | refine bl_al ?_ _ | refine below_setRow ?_ (by first | omega | (simp; done) | (simp; omega)) _ | refine bl_drewN ?_ _ | refine Below.drew ?_ | (refine bl_tr ?_ (by assumption))))⟩
      · have RES := Lib.hid (ofM_sym HH.out KK.out j)
        have hj : (v.k == 6) = true ∧ v.s.toList.isEmpty = true ∧ 1 ≤ v.n := by
          unfold symB at j
          simpa using j
        have k1 : (v.k == 5) = false := by
          have := hj.1
          rw [beq_iff_eq] at this
          rw [this]
          rfl
        clear j hk
        obtain ⟨j1, j2, j3⟩ := hj
        go_enter Tryd.func9, Tryd.ntmps9
        go_wp2_with (go_at_call 26; refine (callGr (HW.out _)).mono ?_; rintro e w' ⟨pp, rfl, rfl⟩)
        exact bodyPost_ret (v := .tuple #[.agg #[.int .i64 2, .int .i64 v.n, .string ⟨#[]⟩], .bool true]) (by simp [results, Tryd.results9, go_sem]) rfl ⟨ofR_eq RES.out, by (repeat (with_reducible first | exact Below.refl _ _ | (refine bl_set ?_ (by first | omega | (simp; done) | (simp; omega)) _) | refine bl_gr ?_ _ | refine bl_al ?_ _ | refine below_setRow ?_ (by first | omega | (simp; done) | (simp; omega)) _ | refine bl_drewN ?_ _ | refine Below.drew ?_ | (refine bl_tr ?_ (by assumption))))⟩
  · have RES := Lib.hid (ofM_num h)
    simp only [h] at hw
    have HW := Lib.hid hw
    have HT := Lib.hid (fun w => rnumText_any v w)
    clear hw h
    generalize numTextM v = T at *
    have HD := Lib.hid (fun w => text_any T w (by unfold maxLen; omega) (by omega))
    clear hsz
    unfold ofR at HD
    go_enter Tryd.func9, Tryd.ntmps9
    go_wp2_with (first | (go_at_call 26; refine (callGr (HW.out _)).mono ?_; rintro e w' ⟨pp, rfl, rfl⟩) | (go_at_call 28; refine (callGr (HT.out _)).mono ?_; rintro e w' ⟨pp, rfl, rfl⟩) | (go_at_call 27; refine (callGr (HD.out _)).mono ?_; rintro e w' ⟨pp, rfl, rfl⟩))
    exact bodyPost_ret (v := .tuple #[(wordM T).agg, .bool true]) (by simp [results, Tryd.results9, go_sem]) rfl ⟨ofR_eq RES.out, by (repeat (with_reducible first | exact Below.refl _ _ | (refine bl_set ?_ (by first | omega | (simp; done) | (simp; omega)) _) | refine bl_gr ?_ _ | refine bl_al ?_ _ | refine below_setRow ?_ (by first | omega | (simp; done) | (simp; omega)) _ | refine bl_drewN ?_ _ | refine Below.drew ?_ | (refine bl_tr ?_ (by assumption))))⟩
end Go.Proofs.YtaebjgjocldldaaDoor
