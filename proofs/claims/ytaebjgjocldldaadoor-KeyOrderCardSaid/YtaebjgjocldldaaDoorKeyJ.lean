/- Walk: Value of the reference of package key. -/
import Derived.Test.YtaebjgjocldldaaDoorKeyI
namespace Go.Proofs.YtaebjgjocldldaaDoor
set_option linter.all false
open Go.RowKit Go.Sort

set_option maxRecDepth 100000 in
set_option maxHeartbeats 4000000 in
theorem rvalue_any (k : Val) (hk : k.s.size ≤ maxLen) (w : World) : Calls Tryd.prog 15 #[k.agg] w fun e w' => e = .returned (valueM k).agg ∧ Below w.heap.size w w' := by
  have hr := fun w => rright_any k hk w
  cases h : rightM k
  · have RES := Lib.hid (show valueM k = .zero by rw [valueM, h]; rfl)
    simp only [h] at hr
    have HR := Lib.hid hr
    clear hr h hk
    go_enter Tryd.func15, Tryd.ntmps15
    go_wp2_with (go_at_call 14; refine (callGr (HR.out _)).mono ?_; rintro e w' ⟨pp, rfl, rfl⟩)
    exact bodyPost_ret (v := Val.zero.agg) (by simp [results, Tryd.results15, go_sem]) rfl ⟨ret_agg RES.out, by (repeat (with_reducible first | exact Below.refl _ _ | (refine bl_set ?_ (by first | omega | (simp; done) | (simp; omega)) _) | refine bl_gr ?_ _ | refine bl_al ?_ _ | refine below_setRow ?_ (by first | omega | (simp; done) | (simp; omega)) _ | refine bl_drewN ?_ _ | refine Below.drew ?_ | (refine bl_tr ?_ (by assumption))))⟩
  · simp only [h] at hr
    have hkinds := right_kinds h
    obtain ⟨kk, n, s⟩ := k
    simp only at hkinds
    rcases hkinds with ⟨rfl, rfl, b1, b2⟩ | ⟨rfl, rfl, b1, b2⟩ | ⟨rfl, rfl, b1⟩
    · have RES := Lib.hid (show valueM ⟨0, n, ⟨#[]⟩⟩ = ⟨3, n, ⟨#[]⟩⟩ by rw [valueM, h]; rfl)
      have HR := Lib.hid hr
      clear hr h hk b1 b2
      go_enter Tryd.func15, Tryd.ntmps15
      go_upto_region 4 with (go_at_call 14; refine (callGr (HR.out _)).mono ?_; rintro e w' ⟨pp, rfl, rfl⟩)
      ((first | (with_reducible refine wp_tail_gr 9 Tryd.mixed ?_ ?_) | (with_reducible refine wp_tail_any 9 Tryd.mixed ?_ ?_)); (next => kernel_rfl); simp only [List.take_succ_cons, List.take_zero, List.drop_succ_cons, List.drop_zero]; (repeat (with_reducible refine wpQuiet_step (fun K hK => ?_); go_simp; first | (refine hK _ ?_; clear hK K) | (apply Exists.intro; refine ⟨fun _ => ?_, hK _ ?_⟩; (fail); clear hK K))); refine wpQuiet_nil ?_; intro pq)
      go_wp2
      exact bodyPost_ret (v := (Val.mk 3 n ⟨#[]⟩).agg) (by simp [results, Tryd.results15, go_sem]) rfl ⟨ret_agg RES.out, by (repeat (with_reducible first | exact Below.refl _ _ | (refine bl_set ?_ (by first | omega | (simp; done) | (simp; omega)) _) | refine bl_gr ?_ _ | refine bl_al ?_ _ | refine below_setRow ?_ (by first | omega | (simp; done) | (simp; omega)) _ | refine bl_drewN ?_ _ | refine Below.drew ?_ | (refine bl_tr ?_ (by assumption))))⟩
    · have RES := Lib.hid (show valueM ⟨1, 0, s⟩ = ⟨5, 0, s⟩ by rw [valueM, h]; rfl)
      have HR := Lib.hid hr
      clear hr h hk b1 b2
      go_enter Tryd.func15, Tryd.ntmps15
      go_upto_region 4 with (go_at_call 14; refine (callGr (HR.out _)).mono ?_; rintro e w' ⟨pp, rfl, rfl⟩)
      ((first | (with_reducible refine wp_tail_gr 9 Tryd.mixed ?_ ?_) | (with_reducible refine wp_tail_any 9 Tryd.mixed ?_ ?_)); (next => kernel_rfl); simp only [List.take_succ_cons, List.take_zero, List.drop_succ_cons, List.drop_zero]; (repeat (with_reducible refine wpQuiet_step (fun K hK => ?_); go_simp; first | (refine hK _ ?_; clear hK K) | (apply Exists.intro; refine ⟨fun _ => ?_, hK _ ?_⟩; (fail); clear hK K))); refine wpQuiet_nil ?_; intro pq)
      go_wp2
      exact bodyPost_ret (v := (Val.mk 5 0 s).agg) (by simp [results, Tryd.results15, go_sem]) rfl ⟨ret_agg RES.out, by (repeat (with_reducible first | exact Below.refl _ _ | (refine bl_set ?_ (by first | omega | (simp; done) | (simp; omega)) _) | refine bl_gr ?_ _ | refine bl_al ?_ _ | refine below_setRow ?_ (by first | omega | (simp; done) | (simp; omega)) _ | refine bl_drewN ?_ _ | refine Below.drew ?_ | (refine bl_tr ?_ (by assumption))))⟩
    · have RES := Lib.hid (show valueM ⟨2, n, ⟨#[]⟩⟩ = ⟨6, n, ⟨#[]⟩⟩ by rw [valueM, h]; rfl)
      have HR := Lib.hid hr
      clear hr h hk b1
      go_enter Tryd.func15, Tryd.ntmps15
      go_upto_region 4 with (go_at_call 14; refine (callGr (HR.out _)).mono ?_; rintro e w' ⟨pp, rfl, rfl⟩)
      ((first | (with_reducible refine wp_tail_gr 9 Tryd.mixed ?_ ?_) | (with_reducible refine wp_tail_any 9 Tryd.mixed ?_ ?_)); (next => kernel_rfl); simp only [List.take_succ_cons, List.take_zero, List.drop_succ_cons, List.drop_zero]; (repeat (with_reducible refine wpQuiet_step (fun K hK => ?_); go_simp; first | (refine hK _ ?_; clear hK K) | (apply Exists.intro; refine ⟨fun _ => ?_, hK _ ?_⟩; (fail); clear hK K))); refine wpQuiet_nil ?_; intro pq)
      go_wp2
      exact bodyPost_ret (v := (Val.mk 6 n ⟨#[]⟩).agg) (by simp [results, Tryd.results15, go_sem]) rfl ⟨ret_agg RES.out, by (repeat (with_reducible first | exact Below.refl _ _ | (refine bl_set ?_ (by first | omega | (simp; done) | (simp; omega)) _) | refine bl_gr ?_ _ | refine bl_al ?_ _ | refine below_setRow ?_ (by first | omega | (simp; done) | (simp; omega)) _ | refine bl_drewN ?_ _ | refine Below.drew ?_ | (refine bl_tr ?_ (by assumption))))⟩
end Go.Proofs.YtaebjgjocldldaaDoor
