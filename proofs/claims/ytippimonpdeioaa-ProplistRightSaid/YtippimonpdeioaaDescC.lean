/- Walks of package desc: change. -/
import Derived.Test.YtippimonpdeioaaDescA
import Derived.Deep.DeepCutAuto
namespace Go.Proofs.Ytippimonpdeioaa
set_option linter.all false
open Go.RowKit Go.Sort

abbrev cbox (p : Prp) (k : Val) (d : Dsc) (w : World) : World :=
  (((w.alloc (.cells #[.int .i64 p.k.k, .int .i64 p.k.n, .string p.k.s, .int .i64 p.a, .int .i64 p.v.k, .int .i64 p.v.n, .string p.v.s, .int .i64 p.g.k, .int .i64 p.g.n, .string p.g.s, .int .i64 p.t.k, .int .i64 p.t.n, .string p.t.s] 42)).alloc (.cells #[.int .i64 k.k, .int .i64 k.n, .string k.s] 24)).alloc (.cells #[.int .i64 d.h, .int .i64 d.a, .int .i64 d.v.k, .int .i64 d.v.n, .string d.v.s, .int .i64 d.g.k, .int .i64 d.g.n, .string d.g.s, .int .i64 d.t.k, .int .i64 d.t.n, .string d.t.s] 27)).alloc (.cells #[.int .i64 0, .int .i64 0, .string ⟨#[]⟩, .int .i64 0, .int .i64 0, .int .i64 0, .string ⟨#[]⟩, .int .i64 0, .int .i64 0, .string ⟨#[]⟩, .int .i64 0, .int .i64 0, .string ⟨#[]⟩] 42)
abbrev obox (k : Val) (a : Int) (v g t : Val) : Obj := .cells #[.int .i64 k.k, .int .i64 k.n, .string k.s, .int .i64 a, .int .i64 v.k, .int .i64 v.n, .string v.s, .int .i64 g.k, .int .i64 g.n, .string g.s, .int .i64 t.k, .int .i64 t.n, .string t.s] 42

theorem two (a b : Bool) : (a = false ∧ b = false) ∨ (a = false ∧ b = true) ∨ (a = true ∧ b = true) ∨ (a = true ∧ b = false) := by cases a <;> cases b <;> simp

set_option maxRecDepth 100000 in
set_option maxHeartbeats 40000000 in
theorem change_ff (p : Prp) (k : Val) (d : Dsc) (w : World) (h1 : (bits .and .i64 p.a 8 != 0) = false) (h2 : chIs p d = false) :
    Calls Try.prog 49 #[p.agg, k.agg, d.agg] w fun e w' => e = .returned (changeM p k d).agg ∧ Below w.heap.size w w' := by
  obtain ⟨v1, hv1⟩ : ∃ v1 : Val, v1 = if hs d.h 1 then d.v else p.v := ⟨_, rfl⟩
  obtain ⟨g1, hg1⟩ : ∃ v1 : Val, v1 = if hs d.h 4 then d.g else .zero := ⟨_, rfl⟩
  obtain ⟨t1, ht1⟩ : ∃ v1 : Val, v1 = if hs d.h 8 then d.t else .zero := ⟨_, rfl⟩
  obtain ⟨a3, ha3⟩ : ∃ a, a = chA3 p d := ⟨_, rfl⟩
  have eM : changeM p k d = ⟨k, a3, v1, g1, t1⟩ := by simp [changeM, h1, h2, hv1, hg1, ht1, ha3]
  rw [eM]
  have ha : a3 = bits .or .i64 (bits .andNot .i64 (chA2 p d) (askedM d.h)) (bits .and .i64 d.a (askedM d.h)) := ha3
  simp only [chA2, chA1, chA0, h1, h2, Bool.not_false, Bool.not_true, Bool.and_true, Bool.and_false, Bool.true_and, Bool.false_and, Bool.and_self, Bool.false_eq_true, if_true, if_false] at ha
  have HI := Lib.hid h2
  have HA := Lib.hid ha
  have HV := Lib.hid hv1
  have HG := Lib.hid hg1
  have HT := Lib.hid ht1
  clear ha ha3 eM hv1 hg1 ht1 h2
  go_enter Try.func49, Try.ntmps49
  go_upto_region 2 with fail
  go_cut [8] (fun s w' => s = .bool false ∧ Below (cbox p k d w).heap.size (cbox p k d w) w')
  case first =>
    go_wp2_with (first | (go_at_call 61; refine (callGr (says_any d _ _)).mono ?_; rintro e w' ⟨pp, rfl, rfl⟩) | (go_at_call 63; refine (callGr (asked_any d _)).mono ?_; rintro e w' ⟨pp, rfl, rfl⟩))
    all_goals go_meet
    all_goals (have e := HI.out; go_tidy; simp only [chIs, h1] at e)
    all_goals exact ⟨by simp_all, by (repeat (with_reducible first | exact Below.refl _ _ | (refine bl_set ?_ (by first | omega | (simp; done) | (simp; omega)) _) | refine bl_gr ?_ _ | refine bl_al ?_ _ | refine below_setRow ?_ (by first | omega | (simp; done) | (simp; omega)) _ | refine bl_drewN ?_ _ | refine Below.drew ?_ | (refine bl_tr ?_ (by assumption))))⟩
  case rest =>
  obtain ⟨rfl, hb⟩ := hcut
  obtain ⟨p1, rfl⟩ : ∃ p1, wc = gr (cbox p k d w) p1 := gr_of_below hb
  clear hb
  go_upto_if 75 with (first | (go_at_call 61; refine (callGr (says_any d _ _)).mono ?_; rintro e w' ⟨pp, rfl, rfl⟩) | (go_at_call 63; refine (callGr (asked_any d _)).mono ?_; rintro e w' ⟨pp, rfl, rfl⟩))
  go_cut [] (fun w' => ∃ q, w' = gr ((gr (cbox p k d w) p1).alloc (obox k a3 v1 .zero .zero)) q)
  case first =>
    go_wp2
    all_goals go_meet
    · have h : hs d.h 1 = true := by assumption
      have e := HV.out
      rw [h] at e
      exact ⟨_, by rw [HA.out, e]; rfl⟩
    · have h : hs d.h 1 = false := by assumption
      have e := HV.out
      rw [h] at e
      exact ⟨_, by rw [HA.out, e]; rfl⟩
  case rest =>
  obtain ⟨q1, rfl⟩ := hcut
  go_upto_if 80 with (first | (go_at_call 61; refine (callGr (says_any d _ _)).mono ?_; rintro e w' ⟨pp, rfl, rfl⟩) | (go_at_call 63; refine (callGr (asked_any d _)).mono ?_; rintro e w' ⟨pp, rfl, rfl⟩))
  go_cut [] (fun w' => ∃ q, w' = gr ((gr (cbox p k d w) p1).alloc (obox k a3 v1 g1 .zero)) q)
  case first =>
    go_wp2
    all_goals go_meet
    · have h : hs d.h 4 = true := by assumption
      have e := HG.out
      rw [h] at e
      exact ⟨_, by rw [e]; rfl⟩
    · have h : hs d.h 4 = false := by assumption
      have e := HG.out
      rw [h] at e
      exact ⟨_, by rw [e]; rfl⟩
  case rest =>
  obtain ⟨q2, rfl⟩ := hcut
  go_upto_if 85 with (first | (go_at_call 61; refine (callGr (says_any d _ _)).mono ?_; rintro e w' ⟨pp, rfl, rfl⟩) | (go_at_call 63; refine (callGr (asked_any d _)).mono ?_; rintro e w' ⟨pp, rfl, rfl⟩))
  go_cut [] (fun w' => ∃ q, w' = gr ((gr (cbox p k d w) p1).alloc (obox k a3 v1 g1 t1)) q)
  case first =>
    go_wp2
    all_goals go_meet
    · have h : hs d.h 8 = true := by assumption
      have e := HT.out
      rw [h] at e
      exact ⟨_, by rw [e]; rfl⟩
    · have h : hs d.h 8 = false := by assumption
      have e := HT.out
      rw [h] at e
      exact ⟨_, by rw [e]; rfl⟩
  case rest =>
  obtain ⟨q3, rfl⟩ := hcut
  go_wp2
  refine bodyPost_ret (v := (Prp.mk k a3 v1 g1 t1).agg) (by simp [results, Try.results49, go_sem]) rfl ⟨rfl, by (repeat (with_reducible first | exact Below.refl _ _ | (refine bl_set ?_ (by first | omega | (simp; done) | (simp; omega)) _) | refine bl_gr ?_ _ | refine bl_al ?_ _ | refine below_setRow ?_ (by first | omega | (simp; done) | (simp; omega)) _ | refine bl_drewN ?_ _ | refine Below.drew ?_ | (refine bl_tr ?_ (by assumption))))⟩

set_option maxRecDepth 100000 in
set_option maxHeartbeats 40000000 in
theorem change_ft (p : Prp) (k : Val) (d : Dsc) (w : World) (h1 : (bits .and .i64 p.a 8 != 0) = false) (h2 : chIs p d = true) :
    Calls Try.prog 49 #[p.agg, k.agg, d.agg] w fun e w' => e = .returned (changeM p k d).agg ∧ Below w.heap.size w w' := by
  obtain ⟨v1, hv1⟩ : ∃ v1 : Val, v1 = if hs d.h 1 then d.v else .zero := ⟨_, rfl⟩
  obtain ⟨g1, hg1⟩ : ∃ v1 : Val, v1 = if hs d.h 4 then d.g else .zero := ⟨_, rfl⟩
  obtain ⟨t1, ht1⟩ : ∃ v1 : Val, v1 = if hs d.h 8 then d.t else .zero := ⟨_, rfl⟩
  obtain ⟨a3, ha3⟩ : ∃ a, a = chA3 p d := ⟨_, rfl⟩
  have eM : changeM p k d = ⟨k, a3, v1, g1, t1⟩ := by simp [changeM, h1, h2, hv1, hg1, ht1, ha3]
  rw [eM]
  have ha : a3 = bits .or .i64 (bits .andNot .i64 (chA2 p d) (askedM d.h)) (bits .and .i64 d.a (askedM d.h)) := ha3
  simp only [chA2, chA1, chA0, h1, h2, Bool.not_false, Bool.not_true, Bool.and_true, Bool.and_false, Bool.true_and, Bool.false_and, Bool.and_self, Bool.false_eq_true, if_true, if_false] at ha
  have HI := Lib.hid h2
  have HA := Lib.hid ha
  have HV := Lib.hid hv1
  have HG := Lib.hid hg1
  have HT := Lib.hid ht1
  clear ha ha3 eM hv1 hg1 ht1 h2
  go_enter Try.func49, Try.ntmps49
  go_upto_region 2 with fail
  go_cut [8] (fun s w' => s = .bool true ∧ Below (cbox p k d w).heap.size (cbox p k d w) w')
  case first =>
    go_wp2_with (first | (go_at_call 61; refine (callGr (says_any d _ _)).mono ?_; rintro e w' ⟨pp, rfl, rfl⟩) | (go_at_call 63; refine (callGr (asked_any d _)).mono ?_; rintro e w' ⟨pp, rfl, rfl⟩))
    all_goals go_meet
    all_goals (have e := HI.out; go_tidy; simp only [chIs, h1] at e)
    all_goals exact ⟨by simp_all, by (repeat (with_reducible first | exact Below.refl _ _ | (refine bl_set ?_ (by first | omega | (simp; done) | (simp; omega)) _) | refine bl_gr ?_ _ | refine bl_al ?_ _ | refine below_setRow ?_ (by first | omega | (simp; done) | (simp; omega)) _ | refine bl_drewN ?_ _ | refine Below.drew ?_ | (refine bl_tr ?_ (by assumption))))⟩
  case rest =>
  obtain ⟨rfl, hb⟩ := hcut
  obtain ⟨p1, rfl⟩ : ∃ p1, wc = gr (cbox p k d w) p1 := gr_of_below hb
  clear hb
  go_upto_if 75 with (first | (go_at_call 61; refine (callGr (says_any d _ _)).mono ?_; rintro e w' ⟨pp, rfl, rfl⟩) | (go_at_call 63; refine (callGr (asked_any d _)).mono ?_; rintro e w' ⟨pp, rfl, rfl⟩))
  go_cut [] (fun w' => ∃ q, w' = gr ((gr (cbox p k d w) p1).alloc (obox k a3 v1 .zero .zero)) q)
  case first =>
    go_wp2
    all_goals go_meet
    · have h : hs d.h 1 = true := by assumption
      have e := HV.out
      rw [h] at e
      exact ⟨_, by rw [HA.out, e]; rfl⟩
    · have h : hs d.h 1 = false := by assumption
      have e := HV.out
      rw [h] at e
      exact ⟨_, by rw [HA.out, e]; rfl⟩
  case rest =>
  obtain ⟨q1, rfl⟩ := hcut
  go_upto_if 80 with (first | (go_at_call 61; refine (callGr (says_any d _ _)).mono ?_; rintro e w' ⟨pp, rfl, rfl⟩) | (go_at_call 63; refine (callGr (asked_any d _)).mono ?_; rintro e w' ⟨pp, rfl, rfl⟩))
  go_cut [] (fun w' => ∃ q, w' = gr ((gr (cbox p k d w) p1).alloc (obox k a3 v1 g1 .zero)) q)
  case first =>
    go_wp2
    all_goals go_meet
    · have h : hs d.h 4 = true := by assumption
      have e := HG.out
      rw [h] at e
      exact ⟨_, by rw [e]; rfl⟩
    · have h : hs d.h 4 = false := by assumption
      have e := HG.out
      rw [h] at e
      exact ⟨_, by rw [e]; rfl⟩
  case rest =>
  obtain ⟨q2, rfl⟩ := hcut
  go_upto_if 85 with (first | (go_at_call 61; refine (callGr (says_any d _ _)).mono ?_; rintro e w' ⟨pp, rfl, rfl⟩) | (go_at_call 63; refine (callGr (asked_any d _)).mono ?_; rintro e w' ⟨pp, rfl, rfl⟩))
  go_cut [] (fun w' => ∃ q, w' = gr ((gr (cbox p k d w) p1).alloc (obox k a3 v1 g1 t1)) q)
  case first =>
    go_wp2
    all_goals go_meet
    · have h : hs d.h 8 = true := by assumption
      have e := HT.out
      rw [h] at e
      exact ⟨_, by rw [e]; rfl⟩
    · have h : hs d.h 8 = false := by assumption
      have e := HT.out
      rw [h] at e
      exact ⟨_, by rw [e]; rfl⟩
  case rest =>
  obtain ⟨q3, rfl⟩ := hcut
  go_wp2
  refine bodyPost_ret (v := (Prp.mk k a3 v1 g1 t1).agg) (by simp [results, Try.results49, go_sem]) rfl ⟨rfl, by (repeat (with_reducible first | exact Below.refl _ _ | (refine bl_set ?_ (by first | omega | (simp; done) | (simp; omega)) _) | refine bl_gr ?_ _ | refine bl_al ?_ _ | refine below_setRow ?_ (by first | omega | (simp; done) | (simp; omega)) _ | refine bl_drewN ?_ _ | refine Below.drew ?_ | (refine bl_tr ?_ (by assumption))))⟩

set_option maxRecDepth 100000 in
set_option maxHeartbeats 40000000 in
theorem change_tt (p : Prp) (k : Val) (d : Dsc) (w : World) (h1 : (bits .and .i64 p.a 8 != 0) = true) (h2 : chIs p d = true) :
    Calls Try.prog 49 #[p.agg, k.agg, d.agg] w fun e w' => e = .returned (changeM p k d).agg ∧ Below w.heap.size w w' := by
  obtain ⟨v1, hv1⟩ : ∃ v1 : Val, v1 = if hs d.h 1 then d.v else .zero := ⟨_, rfl⟩
  obtain ⟨g1, hg1⟩ : ∃ v1 : Val, v1 = if hs d.h 4 then d.g else p.g := ⟨_, rfl⟩
  obtain ⟨t1, ht1⟩ : ∃ v1 : Val, v1 = if hs d.h 8 then d.t else p.t := ⟨_, rfl⟩
  obtain ⟨a3, ha3⟩ : ∃ a, a = chA3 p d := ⟨_, rfl⟩
  have eM : changeM p k d = ⟨k, a3, v1, g1, t1⟩ := by simp [changeM, h1, h2, hv1, hg1, ht1, ha3]
  rw [eM]
  have ha : a3 = bits .or .i64 (bits .andNot .i64 (chA2 p d) (askedM d.h)) (bits .and .i64 d.a (askedM d.h)) := ha3
  simp only [chA2, chA1, chA0, h1, h2, Bool.not_false, Bool.not_true, Bool.and_true, Bool.and_false, Bool.true_and, Bool.false_and, Bool.and_self, Bool.false_eq_true, if_true, if_false] at ha
  have HI := Lib.hid h2
  have HA := Lib.hid ha
  have HV := Lib.hid hv1
  have HG := Lib.hid hg1
  have HT := Lib.hid ht1
  clear ha ha3 eM hv1 hg1 ht1 h2
  go_enter Try.func49, Try.ntmps49
  go_upto_region 2 with fail
  go_cut [8] (fun s w' => s = .bool true ∧ Below (cbox p k d w).heap.size (cbox p k d w) w')
  case first =>
    go_wp2_with (first | (go_at_call 61; refine (callGr (says_any d _ _)).mono ?_; rintro e w' ⟨pp, rfl, rfl⟩) | (go_at_call 63; refine (callGr (asked_any d _)).mono ?_; rintro e w' ⟨pp, rfl, rfl⟩))
    all_goals go_meet
    all_goals (have e := HI.out; go_tidy; simp only [chIs, h1] at e)
    all_goals exact ⟨by simp_all, by (repeat (with_reducible first | exact Below.refl _ _ | (refine bl_set ?_ (by first | omega | (simp; done) | (simp; omega)) _) | refine bl_gr ?_ _ | refine bl_al ?_ _ | refine below_setRow ?_ (by first | omega | (simp; done) | (simp; omega)) _ | refine bl_drewN ?_ _ | refine Below.drew ?_ | (refine bl_tr ?_ (by assumption))))⟩
  case rest =>
  obtain ⟨rfl, hb⟩ := hcut
  obtain ⟨p1, rfl⟩ : ∃ p1, wc = gr (cbox p k d w) p1 := gr_of_below hb
  clear hb
  go_wp2
  go_region
  go_upto_if 75 with (first | (go_at_call 61; refine (callGr (says_any d _ _)).mono ?_; rintro e w' ⟨pp, rfl, rfl⟩) | (go_at_call 63; refine (callGr (asked_any d _)).mono ?_; rintro e w' ⟨pp, rfl, rfl⟩))
  go_cut [] (fun w' => ∃ q, w' = gr ((gr (cbox p k d w) p1).alloc (obox k a3 v1 p.g p.t)) q)
  case first =>
    go_wp2
    all_goals go_meet
    · have h : hs d.h 1 = true := by assumption
      have e := HV.out
      rw [h] at e
      exact ⟨_, by rw [HA.out, e]; rfl⟩
    · have h : hs d.h 1 = false := by assumption
      have e := HV.out
      rw [h] at e
      exact ⟨_, by rw [HA.out, e]; rfl⟩
  case rest =>
  obtain ⟨q1, rfl⟩ := hcut
  go_upto_if 80 with (first | (go_at_call 61; refine (callGr (says_any d _ _)).mono ?_; rintro e w' ⟨pp, rfl, rfl⟩) | (go_at_call 63; refine (callGr (asked_any d _)).mono ?_; rintro e w' ⟨pp, rfl, rfl⟩))
  go_cut [] (fun w' => ∃ q, w' = gr ((gr (cbox p k d w) p1).alloc (obox k a3 v1 g1 p.t)) q)
  case first =>
    go_wp2
    all_goals go_meet
    · have h : hs d.h 4 = true := by assumption
      have e := HG.out
      rw [h] at e
      exact ⟨_, by rw [e]; rfl⟩
    · have h : hs d.h 4 = false := by assumption
      have e := HG.out
      rw [h] at e
      exact ⟨_, by rw [e]; rfl⟩
  case rest =>
  obtain ⟨q2, rfl⟩ := hcut
  go_upto_if 85 with (first | (go_at_call 61; refine (callGr (says_any d _ _)).mono ?_; rintro e w' ⟨pp, rfl, rfl⟩) | (go_at_call 63; refine (callGr (asked_any d _)).mono ?_; rintro e w' ⟨pp, rfl, rfl⟩))
  go_cut [] (fun w' => ∃ q, w' = gr ((gr (cbox p k d w) p1).alloc (obox k a3 v1 g1 t1)) q)
  case first =>
    go_wp2
    all_goals go_meet
    · have h : hs d.h 8 = true := by assumption
      have e := HT.out
      rw [h] at e
      exact ⟨_, by rw [e]; rfl⟩
    · have h : hs d.h 8 = false := by assumption
      have e := HT.out
      rw [h] at e
      exact ⟨_, by rw [e]; rfl⟩
  case rest =>
  obtain ⟨q3, rfl⟩ := hcut
  go_wp2
  refine bodyPost_ret (v := (Prp.mk k a3 v1 g1 t1).agg) (by simp [results, Try.results49, go_sem]) rfl ⟨rfl, by (repeat (with_reducible first | exact Below.refl _ _ | (refine bl_set ?_ (by first | omega | (simp; done) | (simp; omega)) _) | refine bl_gr ?_ _ | refine bl_al ?_ _ | refine below_setRow ?_ (by first | omega | (simp; done) | (simp; omega)) _ | refine bl_drewN ?_ _ | refine Below.drew ?_ | (refine bl_tr ?_ (by assumption))))⟩

set_option maxRecDepth 100000 in
set_option maxHeartbeats 40000000 in
theorem change_tf (p : Prp) (k : Val) (d : Dsc) (w : World) (h1 : (bits .and .i64 p.a 8 != 0) = true) (h2 : chIs p d = false) :
    Calls Try.prog 49 #[p.agg, k.agg, d.agg] w fun e w' => e = .returned (changeM p k d).agg ∧ Below w.heap.size w w' := by
  obtain ⟨v1, hv1⟩ : ∃ v1 : Val, v1 = if hs d.h 1 then d.v else .zero := ⟨_, rfl⟩
  obtain ⟨g1, hg1⟩ : ∃ v1 : Val, v1 = if hs d.h 4 then d.g else .zero := ⟨_, rfl⟩
  obtain ⟨t1, ht1⟩ : ∃ v1 : Val, v1 = if hs d.h 8 then d.t else .zero := ⟨_, rfl⟩
  obtain ⟨a3, ha3⟩ : ∃ a, a = chA3 p d := ⟨_, rfl⟩
  have eM : changeM p k d = ⟨k, a3, v1, g1, t1⟩ := by simp [changeM, h1, h2, hv1, hg1, ht1, ha3]
  rw [eM]
  have ha : a3 = bits .or .i64 (bits .andNot .i64 (chA2 p d) (askedM d.h)) (bits .and .i64 d.a (askedM d.h)) := ha3
  simp only [chA2, chA1, chA0, h1, h2, Bool.not_false, Bool.not_true, Bool.and_true, Bool.and_false, Bool.true_and, Bool.false_and, Bool.and_self, Bool.false_eq_true, if_true, if_false] at ha
  have HI := Lib.hid h2
  have HA := Lib.hid ha
  have HV := Lib.hid hv1
  have HG := Lib.hid hg1
  have HT := Lib.hid ht1
  clear ha ha3 eM hv1 hg1 ht1 h2
  go_enter Try.func49, Try.ntmps49
  go_upto_region 2 with fail
  go_cut [8] (fun s w' => s = .bool false ∧ Below (cbox p k d w).heap.size (cbox p k d w) w')
  case first =>
    go_wp2_with (first | (go_at_call 61; refine (callGr (says_any d _ _)).mono ?_; rintro e w' ⟨pp, rfl, rfl⟩) | (go_at_call 63; refine (callGr (asked_any d _)).mono ?_; rintro e w' ⟨pp, rfl, rfl⟩))
    all_goals go_meet
    all_goals (have e := HI.out; go_tidy; simp only [chIs, h1] at e)
    all_goals exact ⟨by simp_all, by (repeat (with_reducible first | exact Below.refl _ _ | (refine bl_set ?_ (by first | omega | (simp; done) | (simp; omega)) _) | refine bl_gr ?_ _ | refine bl_al ?_ _ | refine below_setRow ?_ (by first | omega | (simp; done) | (simp; omega)) _ | refine bl_drewN ?_ _ | refine Below.drew ?_ | (refine bl_tr ?_ (by assumption))))⟩
  case rest =>
  obtain ⟨rfl, hb⟩ := hcut
  obtain ⟨p1, rfl⟩ : ∃ p1, wc = gr (cbox p k d w) p1 := gr_of_below hb
  clear hb
  go_upto_if 75 with (first | (go_at_call 61; refine (callGr (says_any d _ _)).mono ?_; rintro e w' ⟨pp, rfl, rfl⟩) | (go_at_call 63; refine (callGr (asked_any d _)).mono ?_; rintro e w' ⟨pp, rfl, rfl⟩))
  go_cut [] (fun w' => ∃ q, w' = gr ((gr (cbox p k d w) p1).alloc (obox k a3 v1 .zero .zero)) q)
  case first =>
    go_wp2
    all_goals go_meet
    · have h : hs d.h 1 = true := by assumption
      have e := HV.out
      rw [h] at e
      exact ⟨_, by rw [HA.out, e]; rfl⟩
    · have h : hs d.h 1 = false := by assumption
      have e := HV.out
      rw [h] at e
      exact ⟨_, by rw [HA.out, e]; rfl⟩
  case rest =>
  obtain ⟨q1, rfl⟩ := hcut
  go_upto_if 80 with (first | (go_at_call 61; refine (callGr (says_any d _ _)).mono ?_; rintro e w' ⟨pp, rfl, rfl⟩) | (go_at_call 63; refine (callGr (asked_any d _)).mono ?_; rintro e w' ⟨pp, rfl, rfl⟩))
  go_cut [] (fun w' => ∃ q, w' = gr ((gr (cbox p k d w) p1).alloc (obox k a3 v1 g1 .zero)) q)
  case first =>
    go_wp2
    all_goals go_meet
    · have h : hs d.h 4 = true := by assumption
      have e := HG.out
      rw [h] at e
      exact ⟨_, by rw [e]; rfl⟩
    · have h : hs d.h 4 = false := by assumption
      have e := HG.out
      rw [h] at e
      exact ⟨_, by rw [e]; rfl⟩
  case rest =>
  obtain ⟨q2, rfl⟩ := hcut
  go_upto_if 85 with (first | (go_at_call 61; refine (callGr (says_any d _ _)).mono ?_; rintro e w' ⟨pp, rfl, rfl⟩) | (go_at_call 63; refine (callGr (asked_any d _)).mono ?_; rintro e w' ⟨pp, rfl, rfl⟩))
  go_cut [] (fun w' => ∃ q, w' = gr ((gr (cbox p k d w) p1).alloc (obox k a3 v1 g1 t1)) q)
  case first =>
    go_wp2
    all_goals go_meet
    · have h : hs d.h 8 = true := by assumption
      have e := HT.out
      rw [h] at e
      exact ⟨_, by rw [e]; rfl⟩
    · have h : hs d.h 8 = false := by assumption
      have e := HT.out
      rw [h] at e
      exact ⟨_, by rw [e]; rfl⟩
  case rest =>
  obtain ⟨q3, rfl⟩ := hcut
  go_wp2
  refine bodyPost_ret (v := (Prp.mk k a3 v1 g1 t1).agg) (by simp [results, Try.results49, go_sem]) rfl ⟨rfl, by (repeat (with_reducible first | exact Below.refl _ _ | (refine bl_set ?_ (by first | omega | (simp; done) | (simp; omega)) _) | refine bl_gr ?_ _ | refine bl_al ?_ _ | refine below_setRow ?_ (by first | omega | (simp; done) | (simp; omega)) _ | refine bl_drewN ?_ _ | refine Below.drew ?_ | (refine bl_tr ?_ (by assumption))))⟩

theorem change_any (p : Prp) (k : Val) (d : Dsc) (w : World) :
    Calls Try.prog 49 #[p.agg, k.agg, d.agg] w fun e w' => e = .returned (changeM p k d).agg ∧ Below w.heap.size w w' := by
  rcases two (bits .and .i64 p.a 8 != 0) (chIs p d) with ⟨h1, h2⟩ | ⟨h1, h2⟩ | ⟨h1, h2⟩ | ⟨h1, h2⟩
  · exact change_ff p k d w h1 h2
  · exact change_ft p k d w h1 h2
  · exact change_tt p k d w h1 h2
  · exact change_tf p k d w h1 h2
end Go.Proofs.Ytippimonpdeioaa
