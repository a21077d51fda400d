/- Walks of the laws: lives. -/
import Derived.Test.YtfkpniinpneidaaDescJ
import Derived.Deep.RegionWith
import Derived.Deep.RegionHeld3
import Derived.Deep.DeepCutAuto
namespace Go.Proofs.Ytfkpniinpneidaa
set_option linter.all false
open Go.RowKit Go.Sort

abbrev v1 (n : Int) : Val := ⟨3, n, ⟨#[]⟩⟩
abbrev p0 (a : Int) : Prp := ⟨.zero, a, v1 1, .zero, .zero⟩
abbrev d0 (n : Int) : Dsc := ⟨51, 0, v1 n, .zero, .zero⟩
abbrev dg : Dsc := ⟨4, 0, .zero, ⟨7, 4, ⟨#[]⟩⟩, .zero⟩
abbrev pg : Prp := ⟨.zero, 14, .zero, ⟨7, 4, ⟨#[]⟩⟩, .zero⟩

theorem live_data (n : Int) (w : World) : Calls Try.prog 18 #[(v1 n).agg, .int .i64 0] w fun e w' => e = .returned (d0 n).agg ∧ Below w.heap.size w w' := data_any (v1 n) 0 w
theorem live_1 (w : World) : Calls Try.prog 11 #[(p0 0).agg, .bool true, .bool true, Val.zero.agg, (d0 1).agg] w fun e w' => e = .returned (.tuple #[(p0 0).agg, .bool true]) ∧ Below w.heap.size w w' := by
  have h := apply_any (p0 0) .zero (d0 1) w true true
  have e : applyM (p0 0) true true .zero (d0 1) = (p0 0, true) := by kernel_rfl
  rw [e] at h
  exact h
theorem live_2 (w : World) : Calls Try.prog 11 #[(p0 0).agg, .bool true, .bool true, Val.zero.agg, (d0 2).agg] w fun e w' => e = .returned (.tuple #[Prp.zero'.agg, .bool false]) ∧ Below w.heap.size w w' := by
  have h := apply_any (p0 0) .zero (d0 2) w true true
  have e : applyM (p0 0) true true .zero (d0 2) = (.zero', false) := by kernel_rfl
  rw [e] at h
  exact h
theorem live_3 (w : World) : Calls Try.prog 11 #[(p0 6).agg, .bool true, .bool true, Val.zero.agg, dg.agg] w fun e w' => e = .returned (.tuple #[pg.agg, .bool true]) ∧ Below w.heap.size w w' := by
  have h := apply_any (p0 6) .zero dg w true true
  have e : applyM (p0 6) true true .zero dg = (pg, true) := by kernel_rfl
  rw [e] at h
  exact h

abbrev pcell (a : Int) : Obj := .cells #[.int .i64 0, .int .i64 0, .string ⟨#[]⟩, .int .i64 a, .int .i64 3, .int .i64 1, .string ⟨#[]⟩, .int .i64 0, .int .i64 0, .string ⟨#[]⟩, .int .i64 0, .int .i64 0, .string ⟨#[]⟩] 26

set_option maxRecDepth 100000 in
set_option maxHeartbeats 8000000 in
theorem lives_any (w : World) : Calls Try.prog 10 #[] w fun e w' => e = .returned (.bool true) ∧ Below w.heap.size w w' := by
  go_enter Try.func10, Try.ntmps10
  go_upto_region 2 with (go_at_call 27; refine (callGr (num_any _ _)).mono ?_; rintro e w' ⟨pp, rfl, rfl⟩)
  go_cut [3] (fun s w' => s = .bool true ∧ Below ((gr w pp).alloc (pcell 0)).heap.size ((gr w pp).alloc (pcell 0)) w')
  case first => as_aux_lemma =>
    go_region_held3 (fun w' : World => w'.cell? ⟨w.heap.size + pp.os.size, 0, none⟩ = some (.int .i64 0) ∧ w'.cell? ⟨w.heap.size + pp.os.size, 1, none⟩ = some (.int .i64 0) ∧ w'.cell? ⟨w.heap.size + pp.os.size, 2, none⟩ = some (.string ⟨#[]⟩) ∧ w'.cell? ⟨w.heap.size + pp.os.size, 3, none⟩ = some (.int .i64 0) ∧ w'.cell? ⟨w.heap.size + pp.os.size, 4, none⟩ = some (.int .i64 3) ∧ w'.cell? ⟨w.heap.size + pp.os.size, 5, none⟩ = some (.int .i64 1) ∧ w'.cell? ⟨w.heap.size + pp.os.size, 6, none⟩ = some (.string ⟨#[]⟩) ∧ w'.cell? ⟨w.heap.size + pp.os.size, 7, none⟩ = some (.int .i64 0) ∧ w'.cell? ⟨w.heap.size + pp.os.size, 8, none⟩ = some (.int .i64 0) ∧ w'.cell? ⟨w.heap.size + pp.os.size, 9, none⟩ = some (.string ⟨#[]⟩) ∧ w'.cell? ⟨w.heap.size + pp.os.size, 10, none⟩ = some (.int .i64 0) ∧ w'.cell? ⟨w.heap.size + pp.os.size, 11, none⟩ = some (.int .i64 0) ∧ w'.cell? ⟨w.heap.size + pp.os.size, 12, none⟩ = some (.string ⟨#[]⟩)) (and_intros <;> go_simp) (first | (go_at_call 27; refine (callGr (num_any _ _)).mono ?_; rintro e w' ⟨pp, rfl, rfl⟩) | (go_at_call 18; refine (callGr (live_data _ _)).mono ?_; rintro e w' ⟨pp, rfl, rfl⟩) | (go_at_call 11; refine (callGr (live_1 _)).mono ?_; rintro e w' ⟨pp, rfl, rfl⟩))
    all_goals go_wp2_with fail
    all_goals go_meet
    all_goals go_tidy
    all_goals exact ⟨by simp, by (repeat (with_reducible first | exact Below.refl _ _ | (refine bl_set ?_ (by first | omega | (simp; done) | (simp; omega)) _) | refine bl_gr ?_ _ | refine bl_al ?_ _ | refine bl_drewN ?_ _ | refine Below.drew ?_ | (refine bl_tr ?_ (by assumption))))⟩
  case rest => as_aux_lemma =>
    obtain ⟨rfl, hb⟩ := hcut
    obtain ⟨p1, rfl⟩ := gr_of_below hb
    clear hb
    go_upto_region 3 with fail
    go_cut [5] (fun s w' => s = .bool false ∧ Below ((gr w pp).alloc (pcell 0)).heap.size ((gr w pp).alloc (pcell 0)) w')
    case first =>
      go_region_held3 (fun w' : World => w'.cell? ⟨w.heap.size + pp.os.size, 0, none⟩ = some (.int .i64 0) ∧ w'.cell? ⟨w.heap.size + pp.os.size, 1, none⟩ = some (.int .i64 0) ∧ w'.cell? ⟨w.heap.size + pp.os.size, 2, none⟩ = some (.string ⟨#[]⟩) ∧ w'.cell? ⟨w.heap.size + pp.os.size, 3, none⟩ = some (.int .i64 0) ∧ w'.cell? ⟨w.heap.size + pp.os.size, 4, none⟩ = some (.int .i64 3) ∧ w'.cell? ⟨w.heap.size + pp.os.size, 5, none⟩ = some (.int .i64 1) ∧ w'.cell? ⟨w.heap.size + pp.os.size, 6, none⟩ = some (.string ⟨#[]⟩) ∧ w'.cell? ⟨w.heap.size + pp.os.size, 7, none⟩ = some (.int .i64 0) ∧ w'.cell? ⟨w.heap.size + pp.os.size, 8, none⟩ = some (.int .i64 0) ∧ w'.cell? ⟨w.heap.size + pp.os.size, 9, none⟩ = some (.string ⟨#[]⟩) ∧ w'.cell? ⟨w.heap.size + pp.os.size, 10, none⟩ = some (.int .i64 0) ∧ w'.cell? ⟨w.heap.size + pp.os.size, 11, none⟩ = some (.int .i64 0) ∧ w'.cell? ⟨w.heap.size + pp.os.size, 12, none⟩ = some (.string ⟨#[]⟩)) (and_intros <;> go_simp) (first | (go_at_call 27; refine (callGr (num_any _ _)).mono ?_; rintro e w' ⟨pp, rfl, rfl⟩) | (go_at_call 18; refine (callGr (live_data _ _)).mono ?_; rintro e w' ⟨pp, rfl, rfl⟩) | (go_at_call 11; refine (callGr (live_2 _)).mono ?_; rintro e w' ⟨pp, rfl, rfl⟩))
      all_goals go_wp2_with fail
      all_goals go_meet
      all_goals go_tidy
      all_goals exact ⟨by simp, by (repeat (with_reducible first | exact Below.refl _ _ | (refine bl_set ?_ (by first | omega | (simp; done) | (simp; omega)) _) | refine bl_gr ?_ _ | refine bl_al ?_ _ | refine bl_drewN ?_ _ | refine Below.drew ?_ | (refine bl_tr ?_ (by assumption))))⟩
    case rest =>
      obtain ⟨rfl, hb⟩ := hcut
      obtain ⟨p2, rfl⟩ := gr_of_below hb
      clear hb
      go_wp2_with (go_at_call 11; refine (callGr (live_3 _)).mono ?_; rintro e w' ⟨pp, rfl, rfl⟩)
      go_ret
      exact ⟨rfl, by (repeat (with_reducible first | exact Below.refl _ _ | (refine bl_set ?_ (by first | omega | (simp; done) | (simp; omega)) _) | refine bl_gr ?_ _ | refine bl_al ?_ _ | refine bl_drewN ?_ _ | refine Below.drew ?_ | (refine bl_tr ?_ (by assumption))))⟩
end Go.Proofs.Ytfkpniinpneidaa
