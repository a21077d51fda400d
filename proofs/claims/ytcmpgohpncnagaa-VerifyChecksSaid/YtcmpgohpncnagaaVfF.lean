/- The law VerifyChecks, walked. -/
import Derived.Test.YtcmpgohpncnagaaVfB
import Derived.Test.YtcmpgohpncnagaaVfC
import Derived.Test.YtcmpgohpncnagaaVfD
namespace Go.Proofs.Ytcmpgohpncnagaa
set_option linter.all false
open Go.ChangeShapes Go.WideShapes Go.ChangeAt Go.RowKit Go.Sort Go.Deep Go.Shelf

set_option maxRecDepth 100000 in
set_option maxHeartbeats 8000000 in
theorem checks_w (s : Value) (l : List CodeD) (hok : ∀ c ∈ l, c.ok) (w : World) (h : IsCd w s l) :
    Calls Try.prog 4 #[imgV s] w fun e w' => e = .returned (.bool true) ∧ Below w.heap.size w w' := by
  obtain ⟨A, cp, rfl, -⟩ := h.form
  have LV := Lib.hid (fun W => livesc_any W)
  have FW := Lib.hid (fun W (hW : Below w.heap.size w W) => fewc_any (.slice A l.length cp) l hok W (h.below hW))
  have CK := Lib.hid (fun W (hW : Below w.heap.size w W) => imgcheck_any (.slice A l.length cp) l hok W (h.below hW))
  have RK := Lib.hid (fun W (hW : Below w.heap.size w W) => rimgcheck_any (.slice A l.length cp) l hok W (h.below hW))
  unfold RetIm at CK RK
  generalize imgM l = r at *
  obtain ⟨r1, r2, r3⟩ := r
  simp only [] at CK RK
  clear h hok
  go_enter Try.func4, Try.ntmps4
  go_wp2_with (first
    | (go_at_call 15; go_loud (refine (FW.out _ (by (repeat (with_reducible first | exact Below.refl _ _ | (refine bl_set ?_ (by first | omega | (simp; done) | (simp; omega)) _) | refine bl_gr ?_ _ | refine bl_al ?_ _ | refine below_setRow ?_ (by first | omega | (simp; done) | (simp; omega)) _ | refine bl_drewN ?_ _ | refine Below.drew ?_ | (refine bl_tr ?_ (by assumption)))))).mono ?_; rintro e w3 ⟨v, rfl, ⟨r, rfl, -⟩, hb⟩; obtain ⟨p9, rfl⟩ := gr_of_below hb; clear hb; cases r))
    | (go_at_call 9; refine (callGr (LV.out _)).mono ?_; rintro e w' ⟨pp, rfl, rfl⟩)
    | (go_at_call 16; refine (callGr (CK.out _ (by (repeat (with_reducible first | exact Below.refl _ _ | (refine bl_set ?_ (by first | omega | (simp; done) | (simp; omega)) _) | refine bl_gr ?_ _ | refine bl_al ?_ _ | refine below_setRow ?_ (by first | omega | (simp; done) | (simp; omega)) _ | refine bl_drewN ?_ _ | refine Below.drew ?_ | (refine bl_tr ?_ (by assumption))))))).mono ?_; rintro e w' ⟨pp, rfl, rfl⟩)
    | (go_at_call 17; refine (callGr (RK.out _ (by (repeat (with_reducible first | exact Below.refl _ _ | (refine bl_set ?_ (by first | omega | (simp; done) | (simp; omega)) _) | refine bl_gr ?_ _ | refine bl_al ?_ _ | refine below_setRow ?_ (by first | omega | (simp; done) | (simp; omega)) _ | refine bl_drewN ?_ _ | refine Below.drew ?_ | (refine bl_tr ?_ (by assumption))))))).mono ?_; rintro e w' ⟨pp, rfl, rfl⟩))
  all_goals go_ret
  all_goals exact ⟨by simp, by (repeat (with_reducible first | exact Below.refl _ _ | (refine bl_set ?_ (by first | omega | (simp; done) | (simp; omega)) _) | refine bl_gr ?_ _ | refine bl_al ?_ _ | refine below_setRow ?_ (by first | omega | (simp; done) | (simp; omega)) _ | refine bl_drewN ?_ _ | refine Below.drew ?_ | (refine bl_tr ?_ (by assumption))))⟩
end Go.Proofs.Ytcmpgohpncnagaa
