/- Walks of the reference: Apply. -/
import Derived.Test.YtippimonpdeioaaDescF
import Derived.Test.YtippimonpdeioaaDescG
import Derived.Deep.DeepCutAuto
namespace Go.Proofs.Ytippimonpdeioaa
set_option linter.all false
open Go.RowKit Go.Sort

theorem attr_bd (d : Dsc) (p b : Int) (was : Bool) (hb : 0 ≤ b) : 0 ≤ attrR d p b was ∧ attrR d p b was ≤ b := by unfold attrR; split <;> split <;> omega

theorem at16 (d : Dsc) (x y : Bool) : wrap64 (attrR d 16 2 x + attrR d 32 4 y) = attrR d 16 2 x + attrR d 32 4 y := by
  obtain ⟨b1, b2⟩ := attr_bd d 16 2 x (by omega)
  obtain ⟨b3, b4⟩ := attr_bd d 32 4 y (by omega)
  unfold wrap64; omega
theorem at8 (d : Dsc) (x y : Bool) : wrap64 (attrR d 16 2 x + attrR d 32 4 y + 8) = attrR d 16 2 x + attrR d 32 4 y + 8 := by
  obtain ⟨b1, b2⟩ := attr_bd d 16 2 x (by omega)
  obtain ⟨b3, b4⟩ := attr_bd d 32 4 y (by omega)
  unfold wrap64; omega
theorem at2 (d : Dsc) (x y z : Bool) : wrap64 (attrR d 16 2 x + attrR d 32 4 y + attrR d 2 1 z) = attrR d 16 2 x + attrR d 32 4 y + attrR d 2 1 z := by
  obtain ⟨b1, b2⟩ := attr_bd d 16 2 x (by omega)
  obtain ⟨b3, b4⟩ := attr_bd d 32 4 y (by omega)
  obtain ⟨b5, b6⟩ := attr_bd d 2 1 z (by omega)
  unfold wrap64; omega
theorem ways (a b c : Bool) : a = true ∨ (a = false ∧ b = false) ∨ (a = false ∧ b = true ∧ c = false) ∨ (a = false ∧ b = true ∧ c = true) := by cases a <;> cases b <;> cases c <;> simp
theorem le_0 (a n : Nat) : (a < a + 1 + 1 + 1 + 1 + n + 1) = True := eq_true (by omega)
theorem le_1 (a n : Nat) : (a + 1 < a + 1 + 1 + 1 + 1 + n + 1) = True := eq_true (by omega)
theorem le_2 (a n : Nat) : (a + 1 + 1 < a + 1 + 1 + 1 + 1 + n + 1) = True := eq_true (by omega)
theorem le_3 (a n : Nat) : (a + 1 + 1 + 1 < a + 1 + 1 + 1 + 1 + n + 1) = True := eq_true (by omega)
attribute [local go_sem] le_0 le_1 le_2 le_3

section
variable (p : Prp) (k : Val) (d : Dsc) (w : World) (hn : i64ok d.h) (ha : i64ok d.a) (hp : i64ok p.a)
include hn ha hp
set_option maxRecDepth 100000 in
set_option maxHeartbeats 40000000 in
theorem rapply_no (ext : Bool) : Calls Try.prog 39 #[p.agg, .bool false, .bool ext, k.agg, d.agg] w fun e w' => e = .returned (.tuple #[(applyR p false ext k d).1.agg, .bool (applyR p false ext k d).2]) ∧ Below w.heap.size w w' := by
  cases ext
  · have e1 : applyR p false false k d = (.zero, false) := by simp [applyR]
    rw [e1]
    clear e1
    go_enter Try.func39, Try.ntmps39
    go_wp2
    refine bodyPost_ret (v := .tuple #[Prp.zero.agg, .bool false]) (by simp [results, Try.results39, go_sem, gr_size]) rfl ⟨rfl, by (repeat (with_reducible first | exact Below.refl _ _ | (refine bl_set ?_ (by first | omega | (simp; done) | (simp; omega)) _) | refine bl_gr ?_ _ | refine bl_al ?_ _ | refine below_setRow ?_ (by first | omega | (simp; done) | (simp; omega)) _ | refine bl_drewN ?_ _ | refine Below.drew ?_ | (refine bl_tr ?_ (by assumption))))⟩
  · have e1 : applyR p false true k d = (fullR d k, true) := by simp [applyR]
    rw [e1]
    clear e1
    go_enter Try.func39, Try.ntmps39
    go_wp2_with (go_at_call 51; refine (callGr (rfull_any d k _ hn ha)).mono ?_; rintro e w' ⟨pp, rfl, rfl⟩)
    refine bodyPost_ret (v := .tuple #[(fullR d k).agg, .bool true]) (by simp [results, Try.results39, go_sem, gr_size]) rfl ⟨rfl, by (repeat (with_reducible first | exact Below.refl _ _ | (refine bl_set ?_ (by first | omega | (simp; done) | (simp; omega)) _) | refine bl_gr ?_ _ | refine bl_al ?_ _ | refine below_setRow ?_ (by first | omega | (simp; done) | (simp; omega)) _ | refine bl_drewN ?_ _ | refine Below.drew ?_ | (refine bl_tr ?_ (by assumption))))⟩

set_option maxRecDepth 100000 in
set_option maxHeartbeats 40000000 in
theorem rapply_bar (ext : Bool) (h4 : bt p.a 4 = false) (hb : barsR p d = true) : Calls Try.prog 39 #[p.agg, .bool true, .bool ext, k.agg, d.agg] w fun e w' => e = .returned (.tuple #[(applyR p true ext k d).1.agg, .bool (applyR p true ext k d).2]) ∧ Below w.heap.size w w' := by
  have e1 : applyR p true ext k d = (.zero, false) := by simp [applyR, h4, hb]
  rw [e1]
  clear e1
  go_enter Try.func39, Try.ntmps39
  go_wp2_with (first | (go_at_call 35; refine (bit_any _ _ _ (by omega) (by omega) hp).mono ?_; rintro e w' ⟨rfl, rfl⟩) | (go_at_call 52; refine (callGr (rbars_any p d _ hn ha hp)).mono ?_; rintro e w' ⟨pp, rfl, rfl⟩))
  refine bodyPost_ret (v := .tuple #[Prp.zero.agg, .bool false]) (by simp [results, Try.results39, go_sem, gr_size]) rfl ⟨rfl, by (repeat (with_reducible first | exact Below.refl _ _ | (refine bl_set ?_ (by first | omega | (simp; done) | (simp; omega)) _) | refine bl_gr ?_ _ | refine bl_al ?_ _ | refine below_setRow ?_ (by first | omega | (simp; done) | (simp; omega)) _ | refine bl_drewN ?_ _ | refine Below.drew ?_ | (refine bl_tr ?_ (by assumption))))⟩

set_option maxRecDepth 100000 in
set_option maxHeartbeats 40000000 in
theorem rapply_do (ext : Bool) (h4 : bt p.a 4 = true ∨ (bt p.a 4 = false ∧ barsR p d = false)) : Calls Try.prog 39 #[p.agg, .bool true, .bool ext, k.agg, d.agg] w fun e w' => e = .returned (.tuple #[(applyR p true ext k d).1.agg, .bool (applyR p true ext k d).2]) ∧ Below w.heap.size w w' := by
  have e1 : applyR p true ext k d = (applyT p k d, true) := by rcases h4 with h | ⟨h, h'⟩ <;> simp [applyR, *]
  rw [e1]
  clear e1
  rcases h4 with h4 | ⟨h4, h4'⟩ <;> rcases ways (accR d.h) (bt p.a 8) (dataR d.h) with hacc | ⟨hacc, h8⟩ | ⟨hacc, h8, hdat⟩ | ⟨hacc, h8, hdat⟩
  all_goals as_aux_lemma =>
    go_enter Try.func39, Try.ntmps39
    go_wp2_with (first | (go_at_call 35; refine (bit_any _ _ _ (by omega) (by omega) hp).mono ?_; rintro e w' ⟨rfl, rfl⟩) | (go_at_call 52; refine (callGr (rbars_any p d _ hn ha hp)).mono ?_; rintro e w' ⟨pp, rfl, rfl⟩))
    ((first | (with_reducible refine wp_tail_gr 12 Try.mixed ?_ ?_) | (with_reducible refine wp_tail_any 12 Try.mixed ?_ ?_)); (next => kernel_rfl); simp only [List.take_succ_cons, List.take_zero, List.drop_succ_cons, List.drop_zero]; (repeat (with_reducible refine wpQuiet_step (fun K hK => ?_); go_simp; first | (refine hK _ ?_; clear hK K) | (apply Exists.intro; refine ⟨fun _ => ?_, hK _ ?_⟩; (first | (go_at_call 35; exact callS (bit_any _ _ _ (by omega) (by omega) hp)) | (go_at_call 53; exact callQ (attr_any d _ _ _ _ hn ha (by omega) (by omega) (by omega) (by omega)))); clear hK K))); refine wpQuiet_nil ?_; intro pq)
    go_wp2_with (first | (go_at_call 35; refine (bit_any _ _ _ (by omega) (by omega) hp).mono ?_; rintro e w' ⟨rfl, rfl⟩) | (go_at_call 34; refine (callGr (racc_any d _ hn)).mono ?_; rintro e w' ⟨pp, rfl, rfl⟩) | (go_at_call 33; refine (callGr (rdata_any d _ hn)).mono ?_; rintro e w' ⟨pp, rfl, rfl⟩))
    first
      | (((first | (with_reducible refine wp_tail_gr 9 Try.mixed ?_ ?_) | (with_reducible refine wp_tail_any 9 Try.mixed ?_ ?_)); (next => kernel_rfl); simp only [List.take_succ_cons, List.take_zero, List.drop_succ_cons, List.drop_zero]; (repeat (with_reducible refine wpQuiet_step (fun K hK => ?_); go_simp; first | (refine hK _ ?_; clear hK K) | (apply Exists.intro; refine ⟨fun _ => ?_, hK _ ?_⟩; (first | (go_at_call 36; exact callQ (rsays_any d _ _ (by omega) (by omega) hn)) | (go_at_call 54; exact callQ (pick_any _ _ _ _ _))); clear hK K))); refine wpQuiet_nil ?_; intro pq); go_wp2; ((first | (with_reducible refine wp_tail_gr 9 Try.mixed ?_ ?_) | (with_reducible refine wp_tail_any 9 Try.mixed ?_ ?_)); (next => kernel_rfl); simp only [List.take_succ_cons, List.take_zero, List.drop_succ_cons, List.drop_zero]; (repeat (with_reducible refine wpQuiet_step (fun K hK => ?_); go_simp; first | (refine hK _ ?_; clear hK K) | (apply Exists.intro; refine ⟨fun _ => ?_, hK _ ?_⟩; (first | (go_at_call 36; exact callQ (rsays_any d _ _ (by omega) (by omega) hn)) | (go_at_call 54; exact callQ (pick_any _ _ _ _ _))); clear hK K))); refine wpQuiet_nil ?_; intro pq); go_wp2)
      | (((first | (with_reducible refine wp_tail_gr 13 Try.mixed ?_ ?_) | (with_reducible refine wp_tail_any 13 Try.mixed ?_ ?_)); (next => kernel_rfl); simp only [List.take_succ_cons, List.take_zero, List.drop_succ_cons, List.drop_zero]; (repeat (with_reducible refine wpQuiet_step (fun K hK => ?_); go_simp; first | (refine hK _ ?_; clear hK K) | (apply Exists.intro; refine ⟨fun _ => ?_, hK _ ?_⟩; (first | (go_at_call 35; exact callS (bit_any _ _ _ (by omega) (by omega) hp)) | (go_at_call 53; exact callQ (attr_any d _ _ _ _ hn ha (by omega) (by omega) (by omega) (by omega)))); clear hK K))); refine wpQuiet_nil ?_; intro pq); go_wp2; ((first | (with_reducible refine wp_tail_gr 10 Try.mixed ?_ ?_) | (with_reducible refine wp_tail_any 10 Try.mixed ?_ ?_)); (next => kernel_rfl); simp only [List.take_succ_cons, List.take_zero, List.drop_succ_cons, List.drop_zero]; (repeat (with_reducible refine wpQuiet_step (fun K hK => ?_); go_simp; first | (refine hK _ ?_; clear hK K) | (apply Exists.intro; refine ⟨fun _ => ?_, hK _ ?_⟩; (first | (go_at_call 36; exact callQ (rsays_any d _ _ (by omega) (by omega) hn)) | (go_at_call 54; exact callQ (pick_any _ _ _ _ _))); clear hK K))); refine wpQuiet_nil ?_; intro pq); go_wp2)
    refine bodyPost_ret (v := .tuple #[(applyT p k d).agg, .bool true]) (by simp [results, Try.results39, go_sem, applyT, outA, isAcc, at16, at8, at2, *]) rfl ⟨rfl, by (repeat (with_reducible first | exact Below.refl _ _ | (refine bl_set ?_ (by first | omega | (simp; done) | (simp; omega)) _) | refine bl_gr ?_ _ | refine bl_al ?_ _ | refine below_setRow ?_ (by first | omega | (simp; done) | (simp; omega)) _ | refine bl_drewN ?_ _ | refine Below.drew ?_ | (refine bl_tr ?_ (by assumption))))⟩

theorem rapply_any (has ext : Bool) : Calls Try.prog 39 #[p.agg, .bool has, .bool ext, k.agg, d.agg] w fun e w' => e = .returned (.tuple #[(applyR p has ext k d).1.agg, .bool (applyR p has ext k d).2]) ∧ Below w.heap.size w w' := by
  cases has
  · exact rapply_no p k d w hn ha hp ext
  · cases h4 : bt p.a 4
    · cases hb : barsR p d
      · exact rapply_do p k d w hn ha hp ext (.inr ⟨h4, hb⟩)
      · exact rapply_bar p k d w hn ha hp ext h4 hb
    · exact rapply_do p k d w hn ha hp ext (.inl h4)
end
end Go.Proofs.Ytippimonpdeioaa
