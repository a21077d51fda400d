/- Walks of package desc: Right; of the reference: RightProp. -/
import Derived.Test.YtfkpniinpneidaaDescH
namespace Go.Proofs.Ytfkpniinpneidaa
set_option linter.all false
open Go.RowKit Go.Sort

theorem four (a b c : Bool) : a = true ∨ (a = false ∧ b = false) ∨ (a = false ∧ b = true ∧ c = true) ∨ (a = false ∧ b = true ∧ c = false) := by cases a <;> cases b <;> cases c <;> simp

theorem dv_eql (a b a' b' : Int) (s s' : ByteArray) (w : World) : (binOp .eql 24 (.agg #[.int .i64 a, .int .i64 b, .string s]) (.agg #[.int .i64 a', .int .i64 b', .string s'])).run Try.prog w = .ok (.bool ((Val.mk a b s).eq ⟨a', b', s'⟩)) w := by
  simp [go_sem, Val.eq]
  by_cases h1 : a = a' <;> by_cases h2 : b = b' <;> by_cases h3 : s.toList = s'.toList <;> simp [h1, h2, h3]

theorem halfM_any (a : Val) (w : World) : Calls Try.prog 35 #[a.agg] w fun e w' => e = .returned (.bool (halfM a)) ∧ Below w.heap.size w w' := half_any a w

section
attribute [local simp] dv_eql
set_option maxRecDepth 100000 in
set_option maxHeartbeats 40000000 in
theorem right_any (d : Dsc) (w : World) :
    Calls Try.prog 17 #[d.agg] w fun e w' => e = .returned (.bool (rightM d)) ∧ Below w.heap.size w w' := by
  go_enter Try.func17, Try.ntmps17
  go_upto_region 1 with fail
  go_cut [23] (fun s w' => s = .bool (pr1 d) ∧ Below (dbox d w).heap.size (dbox d w) w')
  case first =>
    rcases four (bits .andNot .i64 d.h 63 != 0) (hs d.h 3) (hs d.h 12) with h1 | ⟨h1, h3⟩ | ⟨h1, h3, h12⟩ | ⟨h1, h3, h12⟩
    all_goals ((first | (with_reducible refine wp_quiet_gr Try.mixed ?_ ?_) | (with_reducible refine wp_quiet_any Try.mixed ?_ ?_)); (next => kernel_rfl); (repeat (quiet_step (first | (go_at_call 33; exact callQ (says_any d _ _)) | (go_at_call 34; exact callQ (asked_any d _))))); refine wpQuiet_nil ?_; intro pq)
    all_goals go_wp2_with fail
    all_goals go_meet
    all_goals go_tidy
    all_goals exact ⟨by simp [pr1, *], by (repeat (with_reducible first | exact Below.refl _ _ | (refine bl_set ?_ (by first | omega | (simp; done) | (simp; omega)) _) | refine bl_gr ?_ _ | refine bl_al ?_ _ | refine bl_drewN ?_ _ | refine Below.drew ?_ | (refine bl_tr ?_ (by assumption))))⟩
  case rest =>
    obtain ⟨rfl, hb⟩ := hcut
    obtain ⟨pp, rfl⟩ := dbox_gr hb
    clear hb
    cases h1 : pr1 d
    case true =>
      go_wp2
      go_ret
      exact ⟨by simp [rightM, h1], by (repeat (with_reducible first | exact Below.refl _ _ | (refine bl_set ?_ (by first | omega | (simp; done) | (simp; omega)) _) | refine bl_gr ?_ _ | refine bl_al ?_ _ | refine bl_drewN ?_ _ | refine Below.drew ?_ | (refine bl_tr ?_ (by assumption))))⟩
    case false =>
    go_upto_region 3 with fail
    go_cut [45] (fun s w' => s = .bool (pr2 d) ∧ Below (dbox d w).heap.size (dbox d w) w')
    case first =>
      go_wp2_with (go_at_call 35; refine (callGr (halfM_any _ _)).mono ?_; rintro e w' ⟨pp, rfl, rfl⟩)
      all_goals go_meet
      all_goals go_tidy
      all_goals exact ⟨by simp [pr2, *], by (repeat (with_reducible first | exact Below.refl _ _ | (refine bl_set ?_ (by first | omega | (simp; done) | (simp; omega)) _) | refine bl_gr ?_ _ | refine bl_al ?_ _ | refine bl_drewN ?_ _ | refine Below.drew ?_ | (refine bl_tr ?_ (by assumption))))⟩
    case rest =>
      obtain ⟨rfl, hb⟩ := hcut
      obtain ⟨pp, rfl⟩ := dbox_gr hb
      clear hb
      cases h2 : pr2 d
      case true =>
        go_wp2
        go_ret
        exact ⟨by simp [rightM, h1, h2], by (repeat (with_reducible first | exact Below.refl _ _ | (refine bl_set ?_ (by first | omega | (simp; done) | (simp; omega)) _) | refine bl_gr ?_ _ | refine bl_al ?_ _ | refine bl_drewN ?_ _ | refine Below.drew ?_ | (refine bl_tr ?_ (by assumption))))⟩
      case false =>
      have e : rightM d = pr3 d := by simp [rightM, h1, h2]
      clear h1 h2
      unfold pr3 at e
      obtain ⟨y1, x1⟩ : ∃ y, d.v.eq .zero = y := ⟨_, rfl⟩
      rw [x1] at e
      have X1 : Hid ((Val.mk d.v.k d.v.n d.v.s).eq ⟨0, 0, ⟨#[]⟩⟩ = y1) := Lib.hid x1
      obtain ⟨y2, x2⟩ : ∃ y, d.g.eq .zero = y := ⟨_, rfl⟩
      rw [x2] at e
      have X2 : Hid ((Val.mk d.g.k d.g.n d.g.s).eq ⟨0, 0, ⟨#[]⟩⟩ = y2) := Lib.hid x2
      obtain ⟨y3, x3⟩ : ∃ y, d.t.eq .zero = y := ⟨_, rfl⟩
      rw [x3] at e
      have X3 : Hid ((Val.mk d.t.k d.t.n d.t.s).eq ⟨0, 0, ⟨#[]⟩⟩ = y3) := Lib.hid x3
      have E := Lib.hid e
      clear e x1 x2 x3
      go_wp2_with (go_at_call 33; refine (callGr (says_any d _ _)).mono ?_; rintro e w' ⟨pp, rfl, rfl⟩)
      all_goals go_ret
      all_goals go_tidy
      all_goals exact ⟨ret_bool (by rw [E.out, ← X1.out, ← X2.out, ← X3.out]; simp [*]), by (repeat (with_reducible first | exact Below.refl _ _ | (refine bl_set ?_ (by first | omega | (simp; done) | (simp; omega)) _) | refine bl_gr ?_ _ | refine bl_al ?_ _ | refine bl_drewN ?_ _ | refine Below.drew ?_ | (refine bl_tr ?_ (by assumption))))⟩

end
set_option maxHeartbeats 4000000 in
theorem rightP_any (p : Prp) (w : World) (hp : i64ok p.a) :
    Calls Try.prog 9 #[p.agg] w fun e w' => e = .returned (.bool (rightP p)) ∧ Below w.heap.size w w' := by
  go_enter Try.func9, Try.ntmps9
  go_wp2_with (first | (go_at_call 24; refine (bit_any _ _ _ (by omega) (by omega) hp).mono ?_; rintro e w' ⟨rfl, rfl⟩) | (go_at_call 26; refine (callGr (rhalf_any _ _ _)).mono ?_; rintro e w' ⟨pp, rfl, rfl⟩))
  all_goals go_ret
  all_goals go_tidy
  all_goals exact ⟨ret_bool (by first | (simp [rightP, Val.eq, *]; done) | (simp [rightP, Val.eq, *]; omega)), by (repeat (with_reducible first | exact Below.refl _ _ | (refine bl_set ?_ (by first | omega | (simp; done) | (simp; omega)) _) | refine bl_gr ?_ _ | refine bl_al ?_ _ | refine bl_drewN ?_ _ | refine Below.drew ?_ | (refine bl_tr ?_ (by assumption))))⟩
end Go.Proofs.Ytfkpniinpneidaa
