/- Walks of the reference: small functions. -/
import Derived.Test.YtippimonpdeioaaDescA
namespace Go.Proofs.Ytippimonpdeioaa
set_option linter.all false
open Go.RowKit Go.Sort

set_option maxHeartbeats 400000 in
theorem rhalf_any (v : Val) (s : Bool) (w : World) :
    Calls Try.prog 37 #[v.agg, .bool s] w fun e w' => e = .returned (.bool (halfR v s)) ∧ Below w.heap.size w w' := by
  cases s
  all_goals
    go_enter Try.func37, Try.ntmps37
    go_wp2
  all_goals go_ret
  all_goals go_tidy
  all_goals exact ⟨ret_bool (by simp [halfR, Val.eq, *]), by (repeat (with_reducible first | exact Below.refl _ _ | (refine bl_set ?_ (by first | omega | (simp; done) | (simp; omega)) _) | refine bl_gr ?_ _ | refine bl_al ?_ _ | refine below_setRow ?_ (by first | omega | (simp; done) | (simp; omega)) _ | refine bl_drewN ?_ _ | refine Below.drew ?_ | (refine bl_tr ?_ (by assumption))))⟩

set_option maxHeartbeats 400000 in
theorem rdata_any (d : Dsc) (w : World) (hn : i64ok d.h) :
    Calls Try.prog 33 #[d.agg] w fun e w' => e = .returned (.bool (dataR d.h)) ∧ Below w.heap.size w w' := by
  go_enter Try.func33, Try.ntmps33
  go_wp2_with (go_at_call 36; refine (callGr (rsays_any d _ _ (by omega) (by omega) hn)).mono ?_; rintro e w' ⟨pp, rfl, rfl⟩)
  all_goals go_ret
  all_goals go_tidy
  all_goals exact ⟨ret_bool (by simp [dataR, *]), by (repeat (with_reducible first | exact Below.refl _ _ | (refine bl_set ?_ (by first | omega | (simp; done) | (simp; omega)) _) | refine bl_gr ?_ _ | refine bl_al ?_ _ | refine below_setRow ?_ (by first | omega | (simp; done) | (simp; omega)) _ | refine bl_drewN ?_ _ | refine Below.drew ?_ | (refine bl_tr ?_ (by assumption))))⟩
set_option maxHeartbeats 400000 in
theorem racc_any (d : Dsc) (w : World) (hn : i64ok d.h) :
    Calls Try.prog 34 #[d.agg] w fun e w' => e = .returned (.bool (accR d.h)) ∧ Below w.heap.size w w' := by
  go_enter Try.func34, Try.ntmps34
  go_wp2_with (go_at_call 36; refine (callGr (rsays_any d _ _ (by omega) (by omega) hn)).mono ?_; rintro e w' ⟨pp, rfl, rfl⟩)
  all_goals go_ret
  all_goals go_tidy
  all_goals exact ⟨ret_bool (by simp [accR, *]), by (repeat (with_reducible first | exact Below.refl _ _ | (refine bl_set ?_ (by first | omega | (simp; done) | (simp; omega)) _) | refine bl_gr ?_ _ | refine bl_al ?_ _ | refine below_setRow ?_ (by first | omega | (simp; done) | (simp; omega)) _ | refine bl_drewN ?_ _ | refine Below.drew ?_ | (refine bl_tr ?_ (by assumption))))⟩

set_option maxHeartbeats 400000 in
theorem attr_any (d : Dsc) (p b : Int) (was : Bool) (w : World) (hn : i64ok d.h) (ha : i64ok d.a) (h1 : 0 < p) (h2 : p < 100) (h3 : 0 < b) (h4 : b < 100) :
    Calls Try.prog 53 #[d.agg, .int .i64 p, .int .i64 b, .bool was] w fun e w' => e = .returned (.int .i64 (attrR d p b was)) ∧ Below w.heap.size w w' := by
  go_enter Try.func53, Try.ntmps53
  go_wp2_with (first | (go_at_call 36; refine (callGr (rsays_any d _ _ (by omega) (by omega) hn)).mono ?_; rintro e w' ⟨pp, rfl, rfl⟩) | (go_at_call 35; refine (bit_any _ _ _ (by omega) (by omega) ha).mono ?_; rintro e w' ⟨rfl, rfl⟩))
  all_goals go_ret
  all_goals go_tidy
  all_goals exact ⟨ret_int (by simp [attrR, *]), by (repeat (with_reducible first | exact Below.refl _ _ | (refine bl_set ?_ (by first | omega | (simp; done) | (simp; omega)) _) | refine bl_gr ?_ _ | refine bl_al ?_ _ | refine below_setRow ?_ (by first | omega | (simp; done) | (simp; omega)) _ | refine bl_drewN ?_ _ | refine Below.drew ?_ | (refine bl_tr ?_ (by assumption))))⟩

set_option maxHeartbeats 400000 in
theorem pick_any (said : Bool) (v : Val) (o : Bool) (was : Val) (w : World) :
    Calls Try.prog 54 #[.bool said, v.agg, .bool o, was.agg] w fun e w' => e = .returned (pickR said v o was).agg ∧ Below w.heap.size w w' := by
  cases said <;> cases o
  all_goals
    go_enter Try.func54, Try.ntmps54
    go_wp2
    refine bodyPost_ret (by simp [results, Try.results54, go_sem, pickR]) rfl ⟨rfl, by (repeat (with_reducible first | exact Below.refl _ _ | (refine bl_set ?_ (by first | omega | (simp; done) | (simp; omega)) _) | refine bl_gr ?_ _ | refine bl_al ?_ _ | refine below_setRow ?_ (by first | omega | (simp; done) | (simp; omega)) _ | refine bl_drewN ?_ _ | refine Below.drew ?_ | (refine bl_tr ?_ (by assumption))))⟩

end Go.Proofs.Ytippimonpdeioaa
