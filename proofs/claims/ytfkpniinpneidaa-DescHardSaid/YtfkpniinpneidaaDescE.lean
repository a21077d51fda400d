/- Walks of the reference: small functions. -/
import Derived.Test.YtfkpniinpneidaaDescA
namespace Go.Proofs.Ytfkpniinpneidaa
set_option linter.all false
open Go.RowKit Go.Sort

set_option maxHeartbeats 400000 in
theorem rhalf_any (v : Val) (s : Bool) (w : World) :
    Calls Try.prog 26 #[v.agg, .bool s] w fun e w' => e = .returned (.bool (halfR v s)) ∧ Below w.heap.size w w' := by
  cases s
  all_goals
    go_enter Try.func26, Try.ntmps26
    go_wp2
  all_goals go_ret
  all_goals go_tidy
  all_goals exact ⟨ret_bool (by simp [halfR, Val.eq, *]), by (repeat (with_reducible first | exact Below.refl _ _ | (refine bl_set ?_ (by first | omega | (simp; done) | (simp; omega)) _) | refine bl_gr ?_ _ | refine bl_al ?_ _ | refine bl_drewN ?_ _ | refine Below.drew ?_ | (refine bl_tr ?_ (by assumption))))⟩

set_option maxHeartbeats 400000 in
theorem rdata_any (d : Dsc) (w : World) (hn : i64ok d.h) :
    Calls Try.prog 22 #[d.agg] w fun e w' => e = .returned (.bool (dataR d.h)) ∧ Below w.heap.size w w' := by
  go_enter Try.func22, Try.ntmps22
  go_wp2_with (go_at_call 25; refine (callGr (rsays_any d _ _ (by omega) (by omega) hn)).mono ?_; rintro e w' ⟨pp, rfl, rfl⟩)
  all_goals go_ret
  all_goals go_tidy
  all_goals exact ⟨ret_bool (by simp [dataR, *]), by (repeat (with_reducible first | exact Below.refl _ _ | (refine bl_set ?_ (by first | omega | (simp; done) | (simp; omega)) _) | refine bl_gr ?_ _ | refine bl_al ?_ _ | refine bl_drewN ?_ _ | refine Below.drew ?_ | (refine bl_tr ?_ (by assumption))))⟩
set_option maxHeartbeats 400000 in
theorem racc_any (d : Dsc) (w : World) (hn : i64ok d.h) :
    Calls Try.prog 23 #[d.agg] w fun e w' => e = .returned (.bool (accR d.h)) ∧ Below w.heap.size w w' := by
  go_enter Try.func23, Try.ntmps23
  go_wp2_with (go_at_call 25; refine (callGr (rsays_any d _ _ (by omega) (by omega) hn)).mono ?_; rintro e w' ⟨pp, rfl, rfl⟩)
  all_goals go_ret
  all_goals go_tidy
  all_goals exact ⟨ret_bool (by simp [accR, *]), by (repeat (with_reducible first | exact Below.refl _ _ | (refine bl_set ?_ (by first | omega | (simp; done) | (simp; omega)) _) | refine bl_gr ?_ _ | refine bl_al ?_ _ | refine bl_drewN ?_ _ | refine Below.drew ?_ | (refine bl_tr ?_ (by assumption))))⟩

set_option maxHeartbeats 400000 in
theorem attr_any (d : Dsc) (p b : Int) (was : Bool) (w : World) (hn : i64ok d.h) (ha : i64ok d.a) (h1 : 0 < p) (h2 : p < 100) (h3 : 0 < b) (h4 : b < 100) :
    Calls Try.prog 31 #[d.agg, .int .i64 p, .int .i64 b, .bool was] w fun e w' => e = .returned (.int .i64 (attrR d p b was)) ∧ Below w.heap.size w w' := by
  go_enter Try.func31, Try.ntmps31
  go_wp2_with (first | (go_at_call 25; refine (callGr (rsays_any d _ _ (by omega) (by omega) hn)).mono ?_; rintro e w' ⟨pp, rfl, rfl⟩) | (go_at_call 24; refine (bit_any _ _ _ (by omega) (by omega) ha).mono ?_; rintro e w' ⟨rfl, rfl⟩))
  all_goals go_ret
  all_goals go_tidy
  all_goals exact ⟨ret_int (by simp [attrR, *]), by (repeat (with_reducible first | exact Below.refl _ _ | (refine bl_set ?_ (by first | omega | (simp; done) | (simp; omega)) _) | refine bl_gr ?_ _ | refine bl_al ?_ _ | refine bl_drewN ?_ _ | refine Below.drew ?_ | (refine bl_tr ?_ (by assumption))))⟩

set_option maxHeartbeats 400000 in
theorem pick_any (said : Bool) (v : Val) (o : Bool) (was : Val) (w : World) :
    Calls Try.prog 32 #[.bool said, v.agg, .bool o, was.agg] w fun e w' => e = .returned (pickR said v o was).agg ∧ Below w.heap.size w w' := by
  cases said <;> cases o
  all_goals
    go_enter Try.func32, Try.ntmps32
    go_wp2
    refine bodyPost_ret (by simp [results, Try.results32, go_sem, pickR]) rfl ⟨rfl, by (repeat (with_reducible first | exact Below.refl _ _ | (refine bl_set ?_ (by first | omega | (simp; done) | (simp; omega)) _) | refine bl_gr ?_ _ | refine bl_al ?_ _ | refine bl_drewN ?_ _ | refine Below.drew ?_ | (refine bl_tr ?_ (by assumption))))⟩

set_option maxHeartbeats 400000 in
theorem rdat_any (v : Val) (a : Int) (w : World) (ha : i64ok a) :
    Calls Try.prog 19 #[v.agg, .int .i64 a] w fun e w' => e = .returned (rdatM v a).agg ∧ Below w.heap.size w w' := by
  unfold i64ok at ha
  have hm : a.tmod 8 < 8 ∧ -8 < a.tmod 8 := by
    constructor
    · exact Int.tmod_lt_of_pos _ (by omega)
    · have := Int.tmod_lt_of_pos (-a) (b := 8) (by omega); rw [Int.neg_tmod] at this; omega
  obtain ⟨m1, m2⟩ := hm
  by_cases hneg : a.tmod 8 < 0
  · have e : rdatM v a = ⟨51, a.tmod 8 + 8, v, .zero, .zero⟩ := by simp [rdatM, hneg]
    rw [e]; clear e
    go_enter Try.func19, Try.ntmps19
    go_wp2
    refine bodyPost_ret (by simp [results, Try.results19, go_sem]) rfl ⟨rfl, by (repeat (with_reducible first | exact Below.refl _ _ | (refine bl_set ?_ (by first | omega | (simp; done) | (simp; omega)) _) | refine bl_gr ?_ _ | refine bl_al ?_ _ | refine bl_drewN ?_ _ | refine Below.drew ?_ | (refine bl_tr ?_ (by assumption))))⟩
  · have e : rdatM v a = ⟨51, a.tmod 8, v, .zero, .zero⟩ := by simp [rdatM, hneg]
    rw [e]; clear e
    go_enter Try.func19, Try.ntmps19
    go_wp2
    refine bodyPost_ret (by simp [results, Try.results19, go_sem]) rfl ⟨rfl, by (repeat (with_reducible first | exact Below.refl _ _ | (refine bl_set ?_ (by first | omega | (simp; done) | (simp; omega)) _) | refine bl_gr ?_ _ | refine bl_al ?_ _ | refine bl_drewN ?_ _ | refine Below.drew ?_ | (refine bl_tr ?_ (by assumption))))⟩

set_option maxHeartbeats 400000 in
theorem rof_any (p : Prp) (w : World) (h0 : 0 ≤ p.a) (h1 : p.a ≤ 15) :
    Calls Try.prog 16 #[p.agg] w fun e w' => e = .returned (rofM p).agg ∧ Below w.heap.size w w' := by
  cases h8 : bt p.a 8
  · have e : rofM p = ⟨51, p.a, p.v, .zero, .zero⟩ := by simp [rofM, h8]
    rw [e]; clear e
    go_enter Try.func16, Try.ntmps16
    go_wp2_with (go_at_call 24; refine (bit_any _ _ _ (by omega) (by omega) (by unfold i64ok; omega)).mono ?_; rintro e w' ⟨rfl, rfl⟩)
    refine bodyPost_ret (by simp [results, Try.results16, go_sem]) rfl ⟨rfl, by (repeat (with_reducible first | exact Below.refl _ _ | (refine bl_set ?_ (by first | omega | (simp; done) | (simp; omega)) _) | refine bl_gr ?_ _ | refine bl_al ?_ _ | refine bl_drewN ?_ _ | refine Below.drew ?_ | (refine bl_tr ?_ (by assumption))))⟩
  · have e : rofM p = ⟨60, p.a - 8, .zero, p.g, p.t⟩ := by simp [rofM, h8]
    rw [e]; clear e
    go_enter Try.func16, Try.ntmps16
    go_wp2_with (go_at_call 24; refine (bit_any _ _ _ (by omega) (by omega) (by unfold i64ok; omega)).mono ?_; rintro e w' ⟨rfl, rfl⟩)
    refine bodyPost_ret (by simp [results, Try.results16, go_sem]) rfl ⟨rfl, by (repeat (with_reducible first | exact Below.refl _ _ | (refine bl_set ?_ (by first | omega | (simp; done) | (simp; omega)) _) | refine bl_gr ?_ _ | refine bl_al ?_ _ | refine bl_drewN ?_ _ | refine Below.drew ?_ | (refine bl_tr ?_ (by assumption))))⟩
end Go.Proofs.Ytfkpniinpneidaa
