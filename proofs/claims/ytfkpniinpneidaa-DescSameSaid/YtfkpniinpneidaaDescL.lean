/- Walks of the five laws. -/
import Derived.Test.YtfkpniinpneidaaDescK
import Derived.Test.YtfkpniinpneidaaDescI
import Derived.Test.YtfkpniinpneidaaDescD
import Derived.Test.YtfkpniinpneidaaDescS
import Derived.Deep.RegionWith
namespace Go.Proofs.Ytfkpniinpneidaa
set_option linter.all false
open Go.RowKit Go.Sort

theorem lt_z (a n m l : Nat) : (a < a + 1 + n + 1 + m + 1 + l + 1) = True := eq_true (by omega)
theorem le_z (a n m l : Nat) : (a ≤ a + 1 + n + 1 + m + 1 + l) = True := eq_true (by omega)
theorem lt_y (a n m l : Nat) : (a < a + 1 + n + 1 + m + 1 + l) = True := eq_true (by omega)
theorem eq_y (a n m l : Nat) : (a = a + 1 + n + 1 + m + 1 + l) = False := eq_false (by omega)
attribute [local go_sem] lt_z le_z lt_y eq_y
theorem neg_of {b : Bool} (h : b = false) : (!b) = true := by rw [h]; rfl
section
variable (p : Prp) (d : Dsc) (w : World) (hp : p.ok) (hd : d.ok)
include hp hd
theorem law_apply (hrd : rightR d = true) (hrp : rightP p = true) (has ext : Bool) (k : Val) (w : World) : Calls Try.prog 11 #[p.agg, .bool has, .bool ext, k.agg, d.agg] w fun e w' => e = .returned (.tuple #[(applyR p has ext k d).1.agg, .bool (applyR p has ext k d).2]) ∧ Below w.heap.size w w' := by
  have h := apply_any p k d w has ext
  rw [apply_eq hrd hrp] at h
  exact h
theorem law_rapply (has ext : Bool) (k : Val) (w : World) : Calls Try.prog 12 #[p.agg, .bool has, .bool ext, k.agg, d.agg] w fun e w' => e = .returned (.tuple #[(applyR p has ext k d).1.agg, .bool (applyR p has ext k d).2]) ∧ Below w.heap.size w w' :=
  rapply_any p k d w hd.1 hd.2.1 hp.2.1 has ext
theorem law_right (w : World) : Calls Try.prog 17 #[d.agg] w fun e w' => e = .returned (.bool (rightR d)) ∧ Below w.heap.size w w' := by
  have h := right_any d w
  rw [right_eq d hd.1 hd.2.1] at h
  exact h
theorem law_rright (w : World) : Calls Try.prog 8 #[d.agg] w fun e w' => e = .returned (.bool (rightR d)) ∧ Below w.heap.size w w' := rright_any d w hd.1 hd.2.1
theorem law_rightP (w : World) : Calls Try.prog 9 #[p.agg] w fun e w' => e = .returned (.bool (rightP p)) ∧ Below w.heap.size w w' := rightP_any p w hp.2.1
end

set_option maxRecDepth 100000 in
set_option maxHeartbeats 8000000 in
theorem applies_walk (p : Prp) (has ext : Bool) (k : Val) (d : Dsc) (w : World) (hp : p.ok) (hd : d.ok) :
    Calls Try.prog 3 #[p.agg, .bool has, .bool ext, k.agg, d.agg] w fun e w' => e = .returned (.bool true) ∧ Below w.heap.size w w' := by
  have Lr := Lib.hid (law_rright p d hp hd)
  have Lp := Lib.hid (law_rightP p d hp hd)
  cases hr : rightR d
  · as_aux_lemma =>
    rw [hr] at Lr
    go_enter Try.func3, Try.ntmps3
    go_wp2_with (first | (go_at_call 8; refine (callGr (Lr.out _)).mono ?_; rintro e w' ⟨pp, rfl, rfl⟩) | (go_at_call 10; refine (callGr (lives_any _)).mono ?_; rintro e w' ⟨pp, rfl, rfl⟩))
    go_ret
    exact ⟨rfl, by (repeat (with_reducible first | exact Below.refl _ _ | (refine bl_set ?_ (by first | omega | (simp; done) | (simp; omega)) _) | refine bl_gr ?_ _ | refine bl_al ?_ _ | refine below_setRow ?_ (by first | omega | (simp; done) | (simp; omega)) _ | refine bl_drewN ?_ _ | refine Below.drew ?_ | (refine bl_tr ?_ (by assumption))))⟩
  · cases hpp : rightP p
    · as_aux_lemma =>
      rw [hr] at Lr
      rw [hpp] at Lp
      go_enter Try.func3, Try.ntmps3
      go_wp2_with (first | (go_at_call 8; refine (callGr (Lr.out _)).mono ?_; rintro e w' ⟨pp, rfl, rfl⟩) | (go_at_call 9; refine (callGr (Lp.out _)).mono ?_; rintro e w' ⟨pp, rfl, rfl⟩) | (go_at_call 10; refine (callGr (lives_any _)).mono ?_; rintro e w' ⟨pp, rfl, rfl⟩))
      go_ret
      exact ⟨rfl, by (repeat (with_reducible first | exact Below.refl _ _ | (refine bl_set ?_ (by first | omega | (simp; done) | (simp; omega)) _) | refine bl_gr ?_ _ | refine bl_al ?_ _ | refine below_setRow ?_ (by first | omega | (simp; done) | (simp; omega)) _ | refine bl_drewN ?_ _ | refine Below.drew ?_ | (refine bl_tr ?_ (by assumption))))⟩
    · as_aux_lemma =>
      have LA := Lib.hid (law_apply p d hp hd hr hpp has ext k)
      have LR := Lib.hid (law_rapply p d hp hd has ext k)
      rw [hr] at Lr
      rw [hpp] at Lp
      clear hr hpp hp hd
      generalize applyR p has ext k d = X at LA LR
      obtain ⟨x, b⟩ := X
      go_enter Try.func3, Try.ntmps3
      go_wp2_with (first | (go_at_call 8; refine (callGr (Lr.out _)).mono ?_; rintro e w' ⟨pp, rfl, rfl⟩) | (go_at_call 9; refine (callGr (Lp.out _)).mono ?_; rintro e w' ⟨pp, rfl, rfl⟩) | (go_at_call 10; refine (callGr (lives_any _)).mono ?_; rintro e w' ⟨pp, rfl, rfl⟩) | (go_at_call 11; refine (callGr (LA.out _)).mono ?_; rintro e w' ⟨pp, rfl, rfl⟩) | (go_at_call 12; refine (callGr (LR.out _)).mono ?_; rintro e w' ⟨pp, rfl, rfl⟩))
      all_goals go_ret
      all_goals exact ⟨rfl, by (repeat (with_reducible first | exact Below.refl _ _ | (refine bl_set ?_ (by first | omega | (simp; done) | (simp; omega)) _) | refine bl_gr ?_ _ | refine bl_al ?_ _ | refine below_setRow ?_ (by first | omega | (simp; done) | (simp; omega)) _ | refine bl_drewN ?_ _ | refine Below.drew ?_ | (refine bl_tr ?_ (by assumption))))⟩

set_option maxRecDepth 100000 in
set_option maxHeartbeats 8000000 in
theorem full_walk (d : Dsc) (p : Prp) (w : World) (hp : p.ok) (hd : d.ok) :
    Calls Try.prog 5 #[d.agg, p.agg] w fun e w' => e = .returned (.bool true) ∧ Below w.heap.size w w' := by
  have Lr := Lib.hid (law_rright p d hp hd)
  have Lp := Lib.hid (law_rightP p d hp hd)
  cases hr : rightR d
  · as_aux_lemma =>
    rw [hr] at Lr
    go_enter Try.func5, Try.ntmps5
    go_wp2_with (first | (go_at_call 8; refine (callGr (Lr.out _)).mono ?_; rintro e w' ⟨pp, rfl, rfl⟩) | (go_at_call 10; refine (callGr (lives_any _)).mono ?_; rintro e w' ⟨pp, rfl, rfl⟩))
    go_ret
    exact ⟨rfl, by (repeat (with_reducible first | exact Below.refl _ _ | (refine bl_set ?_ (by first | omega | (simp; done) | (simp; omega)) _) | refine bl_gr ?_ _ | refine bl_al ?_ _ | refine below_setRow ?_ (by first | omega | (simp; done) | (simp; omega)) _ | refine bl_drewN ?_ _ | refine Below.drew ?_ | (refine bl_tr ?_ (by assumption))))⟩
  · cases hpp : rightP p
    · as_aux_lemma =>
      rw [hr] at Lr
      rw [hpp] at Lp
      go_enter Try.func5, Try.ntmps5
      go_wp2_with (first | (go_at_call 8; refine (callGr (Lr.out _)).mono ?_; rintro e w' ⟨pp, rfl, rfl⟩) | (go_at_call 9; refine (callGr (Lp.out _)).mono ?_; rintro e w' ⟨pp, rfl, rfl⟩) | (go_at_call 10; refine (callGr (lives_any _)).mono ?_; rintro e w' ⟨pp, rfl, rfl⟩))
      go_ret
      exact ⟨rfl, by (repeat (with_reducible first | exact Below.refl _ _ | (refine bl_set ?_ (by first | omega | (simp; done) | (simp; omega)) _) | refine bl_gr ?_ _ | refine bl_al ?_ _ | refine below_setRow ?_ (by first | omega | (simp; done) | (simp; omega)) _ | refine bl_drewN ?_ _ | refine Below.drew ?_ | (refine bl_tr ?_ (by assumption))))⟩
    · as_aux_lemma =>
      have LA := Lib.hid (full_any d p.k)
      have LR := Lib.hid (fun w => rfull_any d p.k w hd.1 hd.2.1)
      have LB := Lib.hid (of_any p)
      have LC := Lib.hid (fun w => rof_any p w (rightP_of hpp).1.1 (by have := (rightP_of hpp).1.2; omega))
      rw [change_full hr] at LA
      rw [of_eq hpp] at LB
      rw [hr] at Lr
      rw [hpp] at Lp
      clear hr hpp hp hd
      generalize fullR d p.k = X at LA LR
      generalize rofM p = Y at LB LC
      go_enter Try.func5, Try.ntmps5
      go_wp2_with (first | (go_at_call 8; refine (callGr (Lr.out _)).mono ?_; rintro e w' ⟨pp, rfl, rfl⟩) | (go_at_call 9; refine (callGr (Lp.out _)).mono ?_; rintro e w' ⟨pp, rfl, rfl⟩))
      ((first | (with_reducible refine wp_quiet_gr Try.mixed ?_ ?_) | (with_reducible refine wp_quiet_any Try.mixed ?_ ?_)); (next => kernel_rfl); (repeat (quiet_step (first | (go_at_call 13; exact callQ (LA.out _)) | (go_at_call 14; exact callQ (LR.out _)) | (go_at_call 15; exact callQ (LB.out _)) | (go_at_call 16; exact callQ (LC.out _)) | (go_at_call 10; exact callQ (lives_any _))))); refine wpQuiet_nil ?_; intro pq)
      go_wp2
      go_ret
      exact ⟨rfl, by (repeat (with_reducible first | exact Below.refl _ _ | (refine bl_set ?_ (by first | omega | (simp; done) | (simp; omega)) _) | refine bl_gr ?_ _ | refine bl_al ?_ _ | refine below_setRow ?_ (by first | omega | (simp; done) | (simp; omega)) _ | refine bl_drewN ?_ _ | refine Below.drew ?_ | (refine bl_tr ?_ (by assumption))))⟩

set_option maxRecDepth 100000 in
set_option maxHeartbeats 8000000 in
theorem right_walk (d : Dsc) (v u : Val) (a : Int) (w : World) (hd : d.ok) (ha : i64ok a) :
    Calls Try.prog 6 #[d.agg, v.agg, u.agg, .int .i64 a] w fun e w' => e = .returned (.bool true) ∧ Below w.heap.size w w' := by
  have LA := Lib.hid (fun w => right_any d w)
  have LR := Lib.hid (fun w => rright_any d w hd.1 hd.2.1)
  have LB := Lib.hid (fun w => data_any v a w)
  have LC := Lib.hid (fun w => rdat_any v a w ha)
  have LD := Lib.hid (fun w => alike_any v u w)
  have LE := Lib.hid (fun w => ralike_any v u w)
  rw [right_eq d hd.1 hd.2.1] at LA
  rw [data_eq v a ha] at LB
  clear hd ha
  generalize rightR d = X at LA LR
  generalize rdatM v a = Y at LB LC
  generalize v.eq u = Z at LD LE
  go_enter Try.func6, Try.ntmps6
  go_wp2
  ((first | (with_reducible refine wp_quiet_gr Try.mixed ?_ ?_) | (with_reducible refine wp_quiet_any Try.mixed ?_ ?_)); (next => kernel_rfl); (repeat (quiet_step (first | (go_at_call 17; exact callQ (LA.out _)) | (go_at_call 8; exact callQ (LR.out _)) | (go_at_call 18; exact callQ (LB.out _)) | (go_at_call 19; exact callQ (LC.out _)) | (go_at_call 20; exact callQ (LD.out _)) | (go_at_call 21; exact callQ (LE.out _)) | (go_at_call 10; exact callQ (lives_any _))))); refine wpQuiet_nil ?_; intro pq)
  go_wp2
  go_ret
  exact ⟨rfl, by (repeat (with_reducible first | exact Below.refl _ _ | (refine bl_set ?_ (by first | omega | (simp; done) | (simp; omega)) _) | refine bl_gr ?_ _ | refine bl_al ?_ _ | refine below_setRow ?_ (by first | omega | (simp; done) | (simp; omega)) _ | refine bl_drewN ?_ _ | refine Below.drew ?_ | (refine bl_tr ?_ (by assumption))))⟩

set_option maxRecDepth 100000 in
set_option maxHeartbeats 8000000 in
theorem same_walk (p : Prp) (w : World) (hp : p.ok) :
    Calls Try.prog 7 #[p.agg] w fun e w' => e = .returned (.bool true) ∧ Below w.heap.size w w' := by
  have Lp := Lib.hid (fun w => rightP_any p w hp.2.1)
  cases hpp : rightP p
  · as_aux_lemma =>
    rw [hpp] at Lp
    go_enter Try.func7, Try.ntmps7
    go_wp2_with (first | (go_at_call 9; refine (callGr (Lp.out _)).mono ?_; rintro e w' ⟨pp, rfl, rfl⟩) | (go_at_call 10; refine (callGr (lives_any _)).mono ?_; rintro e w' ⟨pp, rfl, rfl⟩))
    go_ret
    exact ⟨rfl, by (repeat (with_reducible first | exact Below.refl _ _ | (refine bl_set ?_ (by first | omega | (simp; done) | (simp; omega)) _) | refine bl_gr ?_ _ | refine bl_al ?_ _ | refine below_setRow ?_ (by first | omega | (simp; done) | (simp; omega)) _ | refine bl_drewN ?_ _ | refine Below.drew ?_ | (refine bl_tr ?_ (by assumption))))⟩
  · as_aux_lemma =>
    have LB := Lib.hid (of_any p)
    have L1 := Lib.hid (fun w => apply_any p p.k (ofM p) w true false)
    have L2 := Lib.hid (fun w => apply_any .zero' p.k (ofM p) w false true)
    have L3 := Lib.hid (fun w => right_any (ofM p) w)
    have L4 := Lib.hid (fun w => full_any (ofM p) p.k w)
    rw [(same_apply hpp).1] at L1
    rw [(same_apply hpp).2] at L2
    rw [same_right hpp] at L3
    rw [(same_change hpp).2] at L4
    rw [hpp] at Lp
    clear hpp hp
    generalize ofM p = X at LB L1 L2 L3 L4
    go_enter Try.func7, Try.ntmps7
    go_wp2_with (first | (go_at_call 9; refine (callGr (Lp.out _)).mono ?_; rintro e w' ⟨pp, rfl, rfl⟩) | (go_at_call 15; refine (callGr (LB.out _)).mono ?_; rintro e w' ⟨pp, rfl, rfl⟩) | (go_at_call_of 11 (Value.bool false); first | (with_reducible refine (callGr (L1.out _)).mono ?_; rintro e w' ⟨pp, rfl, rfl⟩) | (with_reducible refine (callGr (L2.out _)).mono ?_; rintro e w' ⟨pp, rfl, rfl⟩)))
    ((first | (with_reducible refine wp_quiet_gr Try.mixed ?_ ?_) | (with_reducible refine wp_quiet_any Try.mixed ?_ ?_)); (next => kernel_rfl); (repeat (quiet_step (first | (go_at_call 13; exact callQ (L4.out _)) | (go_at_call 17; exact callQ (L3.out _)) | (go_at_call 10; exact callQ (lives_any _))))); refine wpQuiet_nil ?_; intro pq)
    go_wp2
    go_ret
    exact ⟨rfl, by (repeat (with_reducible first | exact Below.refl _ _ | (refine bl_set ?_ (by first | omega | (simp; done) | (simp; omega)) _) | refine bl_gr ?_ _ | refine bl_al ?_ _ | refine below_setRow ?_ (by first | omega | (simp; done) | (simp; omega)) _ | refine bl_drewN ?_ _ | refine Below.drew ?_ | (refine bl_tr ?_ (by assumption))))⟩

set_option maxRecDepth 100000 in
set_option maxHeartbeats 8000000 in
theorem hard_walk (p : Prp) (d : Dsc) (w : World) (hp : p.ok) (hd : d.ok) :
    Calls Try.prog 4 #[p.agg, d.agg] w fun e w' => e = .returned (.bool true) ∧ Below w.heap.size w w' := by
  have Lr := Lib.hid (law_rright p d hp hd)
  have Lp := Lib.hid (law_rightP p d hp hd)
  cases hpp : rightP p
  · as_aux_lemma =>
    rw [hpp] at Lp
    go_enter Try.func4, Try.ntmps4
    go_wp2_with (first | (go_at_call 9; refine (callGr (Lp.out _)).mono ?_; rintro e w' ⟨pp, rfl, rfl⟩) | (go_at_call 10; refine (callGr (lives_any _)).mono ?_; rintro e w' ⟨pp, rfl, rfl⟩))
    go_ret
    exact ⟨rfl, by (repeat (with_reducible first | exact Below.refl _ _ | (refine bl_set ?_ (by first | omega | (simp; done) | (simp; omega)) _) | refine bl_gr ?_ _ | refine bl_al ?_ _ | refine below_setRow ?_ (by first | omega | (simp; done) | (simp; omega)) _ | refine bl_drewN ?_ _ | refine Below.drew ?_ | (refine bl_tr ?_ (by assumption))))⟩
  · cases hr : rightR d
    · as_aux_lemma =>
      rw [hr] at Lr
      rw [hpp] at Lp
      go_enter Try.func4, Try.ntmps4
      go_wp2_with (first | (go_at_call 8; refine (callGr (Lr.out _)).mono ?_; rintro e w' ⟨pp, rfl, rfl⟩) | (go_at_call 9; refine (callGr (Lp.out _)).mono ?_; rintro e w' ⟨pp, rfl, rfl⟩) | (go_at_call 10; refine (callGr (lives_any _)).mono ?_; rintro e w' ⟨pp, rfl, rfl⟩))
      go_ret
      exact ⟨rfl, by (repeat (with_reducible first | exact Below.refl _ _ | (refine bl_set ?_ (by first | omega | (simp; done) | (simp; omega)) _) | refine bl_gr ?_ _ | refine bl_al ?_ _ | refine below_setRow ?_ (by first | omega | (simp; done) | (simp; omega)) _ | refine bl_drewN ?_ _ | refine Below.drew ?_ | (refine bl_tr ?_ (by assumption))))⟩
    · obtain ⟨q, hq', eqq⟩ := nat_of (n := 16) (rightP_of hpp).1.1 (rightP_of hpp).1.2
      obtain ⟨_, g1, g4, _⟩ := fin_q q hq'
      rw [← eqq] at g4 g1
      cases h4 : bt p.a 4
      · rw [h4] at g4
        have L1 := Lib.hid (fun w => apply_any p p.k d w true true)
        cases hb : barsM p d
        · have e1 : applyM p true true p.k d = (changeM p p.k d, true) := by simp [applyM, g4, hb]
          obtain ⟨c1, c2, c3⟩ := hard_plain hr hpp h4 hb
          rw [e1] at L1
          have b4 : (bits .and .i64 p.a 4 != 0) = false := by simpa [bne] using g4
          rw [hr] at Lr
          rw [hpp] at Lp
          clear hr hpp hp hd hb h4 g4 e1
          generalize changeM p p.k d = x at L1 c1 c2 c3
          obtain ⟨xk, xa, xv, xg, xt⟩ := x
          dsimp only at c1 c2
          subst c2
          cases h1 : bt p.a 1
          · as_aux_lemma =>
            have e := c3 h1
            have b1 : (bits .and .i64 p.a 1 != 0) = false := by rw [h1] at g1; simpa [bne] using g1
            obtain ⟨pk, pa, pv, pg, pt⟩ := p
            simp only [Prp.mk.injEq] at e
            obtain ⟨_, rfl, rfl, rfl, rfl⟩ := e
            clear c1 c3 g1 h1 eqq hq'
            go_enter Try.func4, Try.ntmps4
            go_wp2_with (first | (go_at_call 8; refine (callGr (Lr.out _)).mono ?_; rintro e w' ⟨pp, rfl, rfl⟩) | (go_at_call 9; refine (callGr (Lp.out _)).mono ?_; rintro e w' ⟨pp, rfl, rfl⟩) | (go_at_call 10; refine (callGr (lives_any _)).mono ?_; rintro e w' ⟨pp, rfl, rfl⟩) | (go_at_call 11; refine (callGr (L1.out _)).mono ?_; rintro e w' ⟨pp, rfl, rfl⟩))
            go_ret
            exact ⟨rfl, by (repeat (with_reducible first | exact Below.refl _ _ | (refine bl_set ?_ (by first | omega | (simp; done) | (simp; omega)) _) | refine bl_gr ?_ _ | refine bl_al ?_ _ | refine below_setRow ?_ (by first | omega | (simp; done) | (simp; omega)) _ | refine bl_drewN ?_ _ | refine Below.drew ?_ | (refine bl_tr ?_ (by assumption))))⟩
          · as_aux_lemma =>
            have b1 : (bits .and .i64 p.a 1 != 0) = true := by rw [h1] at g1; simpa [bne] using g1
            clear c3 g1 h1 eqq hq'
            rcases c1 with rfl | rfl
            all_goals
              go_enter Try.func4, Try.ntmps4
              go_wp2_with (first | (go_at_call 8; refine (callGr (Lr.out _)).mono ?_; rintro e w' ⟨pp, rfl, rfl⟩) | (go_at_call 9; refine (callGr (Lp.out _)).mono ?_; rintro e w' ⟨pp, rfl, rfl⟩) | (go_at_call 10; refine (callGr (lives_any _)).mono ?_; rintro e w' ⟨pp, rfl, rfl⟩) | (go_at_call 11; refine (callGr (L1.out _)).mono ?_; rintro e w' ⟨pp, rfl, rfl⟩))
              all_goals go_ret
              all_goals exact ⟨rfl, by (repeat (with_reducible first | exact Below.refl _ _ | (refine bl_set ?_ (by first | omega | (simp; done) | (simp; omega)) _) | refine bl_gr ?_ _ | refine bl_al ?_ _ | refine below_setRow ?_ (by first | omega | (simp; done) | (simp; omega)) _ | refine bl_drewN ?_ _ | refine Below.drew ?_ | (refine bl_tr ?_ (by assumption))))⟩
        · as_aux_lemma =>
          have e1 : applyM p true true p.k d = (.zero', false) := by simp [applyM, g4, hb]
          rw [e1] at L1
          have b4 : (bits .and .i64 p.a 4 != 0) = false := by simpa [bne] using g4
          rw [hr] at Lr
          rw [hpp] at Lp
          clear hr hpp hp hd hb h4 g4 e1 g1 eqq hq'
          go_enter Try.func4, Try.ntmps4
          go_wp2_with (first | (go_at_call 8; refine (callGr (Lr.out _)).mono ?_; rintro e w' ⟨pp, rfl, rfl⟩) | (go_at_call 9; refine (callGr (Lp.out _)).mono ?_; rintro e w' ⟨pp, rfl, rfl⟩) | (go_at_call 10; refine (callGr (lives_any _)).mono ?_; rintro e w' ⟨pp, rfl, rfl⟩) | (go_at_call 11; refine (callGr (L1.out _)).mono ?_; rintro e w' ⟨pp, rfl, rfl⟩))
          go_ret
          exact ⟨rfl, by (repeat (with_reducible first | exact Below.refl _ _ | (refine bl_set ?_ (by first | omega | (simp; done) | (simp; omega)) _) | refine bl_gr ?_ _ | refine bl_al ?_ _ | refine below_setRow ?_ (by first | omega | (simp; done) | (simp; omega)) _ | refine bl_drewN ?_ _ | refine Below.drew ?_ | (refine bl_tr ?_ (by assumption))))⟩
      · as_aux_lemma =>
        rw [h4] at g4
        have b4 : (bits .and .i64 p.a 4 != 0) = true := by simpa [bne] using g4
        rw [hr] at Lr
        rw [hpp] at Lp
        clear hr hpp hp hd h4 g4 g1 eqq hq'
        go_enter Try.func4, Try.ntmps4
        go_wp2_with (first | (go_at_call 8; refine (callGr (Lr.out _)).mono ?_; rintro e w' ⟨pp, rfl, rfl⟩) | (go_at_call 9; refine (callGr (Lp.out _)).mono ?_; rintro e w' ⟨pp, rfl, rfl⟩) | (go_at_call 10; refine (callGr (lives_any _)).mono ?_; rintro e w' ⟨pp, rfl, rfl⟩))
        go_ret
        exact ⟨rfl, by (repeat (with_reducible first | exact Below.refl _ _ | (refine bl_set ?_ (by first | omega | (simp; done) | (simp; omega)) _) | refine bl_gr ?_ _ | refine bl_al ?_ _ | refine below_setRow ?_ (by first | omega | (simp; done) | (simp; omega)) _ | refine bl_drewN ?_ _ | refine Below.drew ?_ | (refine bl_tr ?_ (by assumption))))⟩
end Go.Proofs.Ytfkpniinpneidaa
