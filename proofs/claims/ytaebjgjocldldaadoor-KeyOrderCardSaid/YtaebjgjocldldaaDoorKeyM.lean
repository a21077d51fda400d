/- Walks: the laws KeyOf and KeyTells. -/
import Derived.Test.YtaebjgjocldldaaDoorKeyL
namespace Go.Proofs.YtaebjgjocldldaaDoor
set_option linter.all false
open Go.RowKit Go.Sort

set_option maxRecDepth 100000 in
set_option maxHeartbeats 4000000 in
theorem keyOf_w (v : Val) (hv : v.ok) (w : World) (ht : Tab w) : Calls Tryd.prog 3 #[v.agg] w fun e w' => e = .returned (.bool true) ∧ Below w.heap.size w w' := by
  have HA := Lib.hid (fun (w' : World) (hb : Below w.heap.size w w') => awake_any w' (ht.below hb))
  have h1 := fun (w' : World) (hb : Below w.heap.size w w') => of_any v hv w' (ht.below hb)
  have h2 := fun w => rof_any v hv w
  have hback := of_back v hv.2.1
  have hok := of_ok v hv
  generalize ofM v = R at *
  obtain ⟨⟨k, n, s⟩, ok⟩ := R
  unfold ofR at h1 h2
  simp only at h1 h2 hback hok
  cases ok
  · have H1 := Lib.hid h1
    have H2 := Lib.hid h2
    clear h1 h2 hback hok
    go_enter Tryd.func3, Tryd.ntmps3
    go_wp2_with (first | (go_at_call 7; refine (callGr (HA.out _ (by (repeat (with_reducible first | exact Below.refl _ _ | (refine bl_set ?_ (by first | omega | (simp; done) | (simp; omega)) _) | refine bl_gr ?_ _ | refine bl_al ?_ _ | refine below_setRow ?_ (by first | omega | (simp; done) | (simp; omega)) _ | refine bl_drewN ?_ _ | refine Below.drew ?_ | (refine bl_tr ?_ (by assumption))))))).mono ?_; rintro e w' ⟨pp, rfl, rfl⟩) | (go_at_call 8; refine (callGr (H1.out _ (by (repeat (with_reducible first | exact Below.refl _ _ | (refine bl_set ?_ (by first | omega | (simp; done) | (simp; omega)) _) | refine bl_gr ?_ _ | refine bl_al ?_ _ | refine below_setRow ?_ (by first | omega | (simp; done) | (simp; omega)) _ | refine bl_drewN ?_ _ | refine Below.drew ?_ | (refine bl_tr ?_ (by assumption))))))).mono ?_; rintro e w' ⟨pp, rfl, rfl⟩) | (go_at_call 9; refine (callGr (H2.out _)).mono ?_; rintro e w' ⟨pp, rfl, rfl⟩))
    go_ret
    exact ⟨rfl, by (repeat (with_reducible first | exact Below.refl _ _ | (refine bl_set ?_ (by first | omega | (simp; done) | (simp; omega)) _) | refine bl_gr ?_ _ | refine bl_al ?_ _ | refine below_setRow ?_ (by first | omega | (simp; done) | (simp; omega)) _ | refine bl_drewN ?_ _ | refine Below.drew ?_ | (refine bl_tr ?_ (by assumption))))⟩
  · obtain ⟨b1, b2⟩ := hback rfl
    have hval := value_ok _ hok
    have h3 := fun w => value_any ⟨k, n, s⟩ hok.2.2 w
    have h4 := fun w => right_any ⟨k, n, s⟩ hok.2.2 w
    have h5 := fun (w' : World) (hb : Below w.heap.size w w') => of_any (valueM ⟨k, n, s⟩) hval w' (ht.below hb)
    rw [b1] at h4
    rw [b2] at h5
    generalize valueM ⟨k, n, s⟩ = U at *
    obtain ⟨uk, un, us⟩ := U
    unfold ofR at h5
    simp only at h5
    have H1 := Lib.hid h1
    have H2 := Lib.hid h2
    have H3 := Lib.hid h3
    have H4 := Lib.hid h4
    have H5 := Lib.hid h5
    clear h1 h2 h3 h4 h5 hback hok hval b1 b2
    go_enter Tryd.func3, Tryd.ntmps3
    go_upto_region 7 with (first | (go_at_call 7; refine (callGr (HA.out _ (by (repeat (with_reducible first | exact Below.refl _ _ | (refine bl_set ?_ (by first | omega | (simp; done) | (simp; omega)) _) | refine bl_gr ?_ _ | refine bl_al ?_ _ | refine below_setRow ?_ (by first | omega | (simp; done) | (simp; omega)) _ | refine bl_drewN ?_ _ | refine Below.drew ?_ | (refine bl_tr ?_ (by assumption))))))).mono ?_; rintro e w' ⟨pp, rfl, rfl⟩) | (go_at_call 8; refine (callGr (H1.out _ (by (repeat (with_reducible first | exact Below.refl _ _ | (refine bl_set ?_ (by first | omega | (simp; done) | (simp; omega)) _) | refine bl_gr ?_ _ | refine bl_al ?_ _ | refine below_setRow ?_ (by first | omega | (simp; done) | (simp; omega)) _ | refine bl_drewN ?_ _ | refine Below.drew ?_ | (refine bl_tr ?_ (by assumption))))))).mono ?_; rintro e w' ⟨pp, rfl, rfl⟩) | (go_at_call 9; refine (callGr (H2.out _)).mono ?_; rintro e w' ⟨pp, rfl, rfl⟩))
    go_wp2_with (first | (go_at_call 10; refine (callGr (H3.out _)).mono ?_; rintro e w' ⟨pp, rfl, rfl⟩) | (go_at_call 8; refine (callGr (H5.out _ (by (repeat (with_reducible first | exact Below.refl _ _ | (refine bl_set ?_ (by first | omega | (simp; done) | (simp; omega)) _) | refine bl_gr ?_ _ | refine bl_al ?_ _ | refine below_setRow ?_ (by first | omega | (simp; done) | (simp; omega)) _ | refine bl_drewN ?_ _ | refine Below.drew ?_ | (refine bl_tr ?_ (by assumption))))))).mono ?_; rintro e w' ⟨pp, rfl, rfl⟩) | (go_at_call 11; refine (callGr (H4.out _)).mono ?_; rintro e w' ⟨pp, rfl, rfl⟩))
    go_ret
    exact ⟨rfl, by (repeat (with_reducible first | exact Below.refl _ _ | (refine bl_set ?_ (by first | omega | (simp; done) | (simp; omega)) _) | refine bl_gr ?_ _ | refine bl_al ?_ _ | refine below_setRow ?_ (by first | omega | (simp; done) | (simp; omega)) _ | refine bl_drewN ?_ _ | refine Below.drew ?_ | (refine bl_tr ?_ (by assumption))))⟩

set_option maxRecDepth 100000 in
set_option maxHeartbeats 4000000 in
theorem keyTells_w (k : Val) (s : ByteArray) (hk : k.ok) (hs : s.size ≤ maxLen) (w : World) (ht : Tab w) : Calls Tryd.prog 4 #[k.agg, .string s] w fun e w' => e = .returned (.bool true) ∧ Below w.heap.size w w' := by
  have HA := Lib.hid (fun (w' : World) (hb : Below w.heap.size w w') => awake_any w' (ht.below hb))
  have h1 := fun w => index_any s w hs
  have h2 := fun w => rindex_any s w hs
  have h3 := fun w => right_any k hk.2.2 w
  have h4 := fun w => rright_any k hk.2.2 w
  have h5 := fun w => value_any k hk.2.2 w
  have h6 := fun w => rvalue_any k hk.2.2 w
  have h7 := fun (w' : World) (hb : Below w.heap.size w w') => keyText_any k hk w' (ht.below hb)
  have h8 := fun w => rkeyText_any k hk w
  generalize indexM s.data.toList = I at *
  generalize rightM k = R at *
  generalize valueM k = U at *
  generalize keyTextM k = T at *
  obtain ⟨uk, un, us⟩ := U
  unfold idxV at h1 h2
  have H1 := Lib.hid h1
  have H2 := Lib.hid h2
  have H3 := Lib.hid h3
  have H4 := Lib.hid h4
  have H5 := Lib.hid h5
  have H6 := Lib.hid h6
  have H7 := Lib.hid h7
  have H8 := Lib.hid h8
  clear h1 h2 h3 h4 h5 h6 h7 h8 hs
  go_enter Tryd.func4, Tryd.ntmps4
  go_wp2_with (first | (go_at_call 7; refine (callGr (HA.out _ (by (repeat (with_reducible first | exact Below.refl _ _ | (refine bl_set ?_ (by first | omega | (simp; done) | (simp; omega)) _) | refine bl_gr ?_ _ | refine bl_al ?_ _ | refine below_setRow ?_ (by first | omega | (simp; done) | (simp; omega)) _ | refine bl_drewN ?_ _ | refine Below.drew ?_ | (refine bl_tr ?_ (by assumption))))))).mono ?_; rintro e w' ⟨pp, rfl, rfl⟩) | (go_at_call 12; refine (H1.out _).mono ?_; rintro e w' ⟨rfl, rfl⟩) | (go_at_call 13; refine (H2.out _).mono ?_; rintro e w' ⟨rfl, rfl⟩) | ((first | (with_reducible refine wp_quiet_gr Tryd.mixed ?_ ?_) | (with_reducible refine wp_quiet_any Tryd.mixed ?_ ?_)); (next => kernel_rfl); (repeat (with_reducible refine wpQuiet_step (fun K hK => ?_); go_simp; first | (refine hK _ ?_; clear hK K) | (apply Exists.intro; refine ⟨fun _ => ?_, hK _ ?_⟩; (first | (go_at_call 11; exact callQ (H3.out _)) | (go_at_call 14; exact callQ (H4.out _)) | (go_at_call 10; exact callQ (H5.out _)) | (go_at_call 15; exact callQ (H6.out _)) | (go_at_call 16; exact callQ (H7.out _ (by (repeat (with_reducible first | exact Below.refl _ _ | (refine bl_set ?_ (by first | omega | (simp; done) | (simp; omega)) _) | refine bl_gr ?_ _ | refine bl_al ?_ _ | refine below_setRow ?_ (by first | omega | (simp; done) | (simp; omega)) _ | refine bl_drewN ?_ _ | refine Below.drew ?_ | (refine bl_tr ?_ (by assumption))))))) | (go_at_call 17; exact callQ (H8.out _))); clear hK K))); refine wpQuiet_nil ?_; intro pq))
  go_ret
  exact ⟨rfl, by (repeat (with_reducible first | exact Below.refl _ _ | (refine bl_set ?_ (by first | omega | (simp; done) | (simp; omega)) _) | refine bl_gr ?_ _ | refine bl_al ?_ _ | refine below_setRow ?_ (by first | omega | (simp; done) | (simp; omega)) _ | refine bl_drewN ?_ _ | refine Below.drew ?_ | (refine bl_tr ?_ (by assumption))))⟩
end Go.Proofs.YtaebjgjocldldaaDoor
