/- Walks of package desc: Full, Apply; of the laws: num. -/
import Derived.Test.YtippimonpdeioaaDescB
import Derived.Test.YtippimonpdeioaaDescC
namespace Go.Proofs.Ytippimonpdeioaa
set_option linter.all false
open Go.RowKit Go.Sort

set_option maxRecDepth 100000 in
set_option maxHeartbeats 4000000 in
theorem full_any (d : Dsc) (k : Val) (w : World) :
    Calls Try.prog 47 #[d.agg, k.agg] w fun e w' => e = .returned (changeM .zero' k d).agg ∧ Below w.heap.size w w' := by
  go_enter Try.func47, Try.ntmps47
  go_wp2_with (go_at_call 49; refine (callGr (change_any .zero' k d _)).mono ?_; rintro e w' ⟨pp, rfl, rfl⟩)
  refine bodyPost_ret (v := (changeM .zero' k d).agg) (by simp [results, Try.results47, go_sem, gr_size]) rfl ⟨rfl, by (repeat (with_reducible first | exact Below.refl _ _ | (refine bl_set ?_ (by first | omega | (simp; done) | (simp; omega)) _) | refine bl_gr ?_ _ | refine bl_al ?_ _ | refine below_setRow ?_ (by first | omega | (simp; done) | (simp; omega)) _ | refine bl_drewN ?_ _ | refine Below.drew ?_ | (refine bl_tr ?_ (by assumption))))⟩

section
variable (p : Prp) (k : Val) (d : Dsc) (w : World)
set_option maxRecDepth 100000 in
set_option maxHeartbeats 40000000 in
theorem apply_any (has ext : Bool) : Calls Try.prog 31 #[p.agg, .bool has, .bool ext, k.agg, d.agg] w fun e w' => e = .returned (.tuple #[(applyM p has ext k d).1.agg, .bool (applyM p has ext k d).2]) ∧ Below w.heap.size w w' := by
  cases has
  · cases ext
    · as_aux_lemma =>
      have e1 : applyM p false false k d = (.zero', false) := by simp [applyM]
      rw [e1]
      clear e1
      go_enter Try.func31, Try.ntmps31
      go_wp2
      refine bodyPost_ret (v := .tuple #[Prp.zero'.agg, .bool false]) (by simp [results, Try.results31, go_sem, gr_size]) rfl ⟨rfl, by (repeat (with_reducible first | exact Below.refl _ _ | (refine bl_set ?_ (by first | omega | (simp; done) | (simp; omega)) _) | refine bl_gr ?_ _ | refine bl_al ?_ _ | refine below_setRow ?_ (by first | omega | (simp; done) | (simp; omega)) _ | refine bl_drewN ?_ _ | refine Below.drew ?_ | (refine bl_tr ?_ (by assumption))))⟩
    · as_aux_lemma =>
      have e1 : applyM p false true k d = (changeM .zero' k d, true) := by simp [applyM]
      rw [e1]
      clear e1
      go_enter Try.func31, Try.ntmps31
      go_wp2_with (go_at_call 47; refine (callGr (full_any d k _)).mono ?_; rintro e w' ⟨pp, rfl, rfl⟩)
      refine bodyPost_ret (v := .tuple #[(changeM .zero' k d).agg, .bool true]) (by simp [results, Try.results31, go_sem, gr_size]) rfl ⟨rfl, by (repeat (with_reducible first | exact Below.refl _ _ | (refine bl_set ?_ (by first | omega | (simp; done) | (simp; omega)) _) | refine bl_gr ?_ _ | refine bl_al ?_ _ | refine below_setRow ?_ (by first | omega | (simp; done) | (simp; omega)) _ | refine bl_drewN ?_ _ | refine Below.drew ?_ | (refine bl_tr ?_ (by assumption))))⟩
  · cases h4 : (bits .and .i64 p.a 4 == 0)
    · as_aux_lemma =>
      have e1 : applyM p true ext k d = (changeM p k d, true) := by simp [applyM, h4]
      rw [e1]
      clear e1
      go_enter Try.func31, Try.ntmps31
      go_wp2_with (go_at_call 49; refine (callGr (change_any p k d _)).mono ?_; rintro e w' ⟨pp, rfl, rfl⟩)
      refine bodyPost_ret (v := .tuple #[(changeM p k d).agg, .bool true]) (by simp [results, Try.results31, go_sem, gr_size]) rfl ⟨rfl, by (repeat (with_reducible first | exact Below.refl _ _ | (refine bl_set ?_ (by first | omega | (simp; done) | (simp; omega)) _) | refine bl_gr ?_ _ | refine bl_al ?_ _ | refine below_setRow ?_ (by first | omega | (simp; done) | (simp; omega)) _ | refine bl_drewN ?_ _ | refine Below.drew ?_ | (refine bl_tr ?_ (by assumption))))⟩
    · cases hb : barsM p d
      · as_aux_lemma =>
        have e1 : applyM p true ext k d = (changeM p k d, true) := by simp [applyM, h4, hb]
        rw [e1]
        clear e1
        go_enter Try.func31, Try.ntmps31
        go_wp2_with (first | (go_at_call 49; refine (callGr (change_any p k d _)).mono ?_; rintro e w' ⟨pp, rfl, rfl⟩) | (go_at_call 48; refine (callGr (bars_any p d _)).mono ?_; rintro e w' ⟨pp, rfl, rfl⟩))
        refine bodyPost_ret (v := .tuple #[(changeM p k d).agg, .bool true]) (by simp [results, Try.results31, go_sem, gr_size]) rfl ⟨rfl, by (repeat (with_reducible first | exact Below.refl _ _ | (refine bl_set ?_ (by first | omega | (simp; done) | (simp; omega)) _) | refine bl_gr ?_ _ | refine bl_al ?_ _ | refine below_setRow ?_ (by first | omega | (simp; done) | (simp; omega)) _ | refine bl_drewN ?_ _ | refine Below.drew ?_ | (refine bl_tr ?_ (by assumption))))⟩
      · as_aux_lemma =>
        have e1 : applyM p true ext k d = (.zero', false) := by simp [applyM, h4, hb]
        rw [e1]
        clear e1
        go_enter Try.func31, Try.ntmps31
        go_wp2_with (first | (go_at_call 49; refine (callGr (change_any p k d _)).mono ?_; rintro e w' ⟨pp, rfl, rfl⟩) | (go_at_call 48; refine (callGr (bars_any p d _)).mono ?_; rintro e w' ⟨pp, rfl, rfl⟩))
        refine bodyPost_ret (v := .tuple #[Prp.zero'.agg, .bool false]) (by simp [results, Try.results31, go_sem, gr_size]) rfl ⟨rfl, by (repeat (with_reducible first | exact Below.refl _ _ | (refine bl_set ?_ (by first | omega | (simp; done) | (simp; omega)) _) | refine bl_gr ?_ _ | refine bl_al ?_ _ | refine below_setRow ?_ (by first | omega | (simp; done) | (simp; omega)) _ | refine bl_drewN ?_ _ | refine Below.drew ?_ | (refine bl_tr ?_ (by assumption))))⟩
end

end Go.Proofs.Ytippimonpdeioaa
