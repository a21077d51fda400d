/- Walks of package desc: Data, Of, bars. -/
import Derived.Test.YtfkpniinpneidaaDescA
namespace Go.Proofs.Ytfkpniinpneidaa
set_option linter.all false
open Go.RowKit Go.Sort

set_option maxHeartbeats 400000 in
theorem data_any (v : Val) (a : Int) (w : World) :
    Calls Try.prog 18 #[v.agg, .int .i64 a] w fun e w' => e = .returned (dataM v a).agg ∧ Below w.heap.size w w' := by
  go_enter Try.func18, Try.ntmps18
  go_wp2
  exact bodyPost_ret (v := (dataM v a).agg) (by simp [results, Try.results18, go_sem, dataM]) rfl ⟨rfl, by (repeat (with_reducible first | exact Below.refl _ _ | (refine bl_set ?_ (by first | omega | (simp; done) | (simp; omega)) _) | refine bl_gr ?_ _ | refine bl_al ?_ _ | refine bl_drewN ?_ _ | refine Below.drew ?_ | (refine bl_tr ?_ (by assumption))))⟩

set_option maxHeartbeats 400000 in
theorem of_any (p : Prp) (w : World) :
    Calls Try.prog 15 #[p.agg] w fun e w' => e = .returned (ofM p).agg ∧ Below w.heap.size w w' := by
  go_enter Try.func15, Try.ntmps15
  go_wp2_with (go_at_call 18; refine (callGr (data_any p.v p.a _)).mono ?_; rintro e w' ⟨pp, rfl, rfl⟩)
  · have h8 : hs p.a 8 = true := by assumption
    have e : ofM p = ⟨60, bits .and .i64 p.a 6, .zero, p.g, p.t⟩ := by simp [ofM, h8]
    rw [e]
    refine bodyPost_ret (by simp [results, Try.results15, go_sem, gr_size]) rfl ⟨rfl, by (repeat (with_reducible first | exact Below.refl _ _ | (refine bl_set ?_ (by first | omega | (simp; done) | (simp; omega)) _) | refine bl_gr ?_ _ | refine bl_al ?_ _ | refine bl_drewN ?_ _ | refine Below.drew ?_ | (refine bl_tr ?_ (by assumption))))⟩
  · have h8 : hs p.a 8 = false := by assumption
    have e : ofM p = dataM p.v p.a := by simp [ofM, h8]
    rw [e]
    refine bodyPost_ret (by simp [results, Try.results15, go_sem, gr_size]) rfl ⟨rfl, by (repeat (with_reducible first | exact Below.refl _ _ | (refine bl_set ?_ (by first | omega | (simp; done) | (simp; omega)) _) | refine bl_gr ?_ _ | refine bl_al ?_ _ | refine bl_drewN ?_ _ | refine Below.drew ?_ | (refine bl_tr ?_ (by assumption))))⟩

set_option maxHeartbeats 1000000 in
theorem bars_any (p : Prp) (d : Dsc) (w : World) :
    Calls Try.prog 28 #[p.agg, d.agg] w fun e w' => e = .returned (.bool (barsM p d)) ∧ Below w.heap.size w w' := by
  go_enter Try.func28, Try.ntmps28
  go_wp2_with (first | (go_at_call 33; refine (callGr (says_any d _ _)).mono ?_; rintro e w' ⟨pp, rfl, rfl⟩) | (go_at_call 20; refine (callGr (alike_any _ _ _)).mono ?_; rintro e w' ⟨pp, rfl, rfl⟩))
  all_goals go_ret
  all_goals go_tidy
  all_goals exact ⟨ret_bool (by simp [barsM, *]), by (repeat (with_reducible first | exact Below.refl _ _ | (refine bl_set ?_ (by first | omega | (simp; done) | (simp; omega)) _) | refine bl_gr ?_ _ | refine bl_al ?_ _ | refine bl_drewN ?_ _ | refine Below.drew ?_ | (refine bl_tr ?_ (by assumption))))⟩
end Go.Proofs.Ytfkpniinpneidaa
