/- Cells: the law's own test, walked. -/
import Derived.Test.YteifcgffeplkkaaCelQ
namespace Go.Proofs.Yteifcgffeplkkaa
set_option linter.all false
open Go.RowKit Go.Sort Go.Deep

theorem same_lit {W : World} {v : Value} {B : Nat} (hI : IsI W v [3, 5]) (hB : B = W.heap.size) :
    Calls Try.prog 10 #[v, .slice (some ⟨B, 0, none⟩) 2 2] (W.alloc (.cells #[.int .i64 3, .int .i64 5] 3)) fun e w' => e = .returned (.bool true) ∧ Below (W.alloc (.cells #[.int .i64 3, .int .i64 5] 3)).heap.size (W.alloc (.cells #[.int .i64 3, .int .i64 5] 3)) w' :=
  sameInts_any v _ [3, 5] [3, 5] _ (hI.below (bl_al (Below.refl _ _) _)) (lit_int hB)

theorem same_lit2 {W : World} {p : Regrown} {v : Value} {B : Nat} (hI : IsI (gr W p) v [3, 5]) (hB : B = W.heap.size + p.os.size) :
    Calls Try.prog 10 #[v, .slice (some ⟨B, 0, none⟩) 2 2] ((gr W p).alloc (.cells #[.int .i64 3, .int .i64 5] 3)) fun e w' => e = .returned (.bool true) ∧ ∃ q, w' = gr W q := by
  refine (same_lit hI (by rw [gr_size]; exact hB)).mono ?_
  rintro e w' ⟨rfl, hb⟩
  exact ⟨rfl, gr_of_below (bl_tr (bl_al (bl_gr (Below.refl _ _) _) _) hb)⟩

set_option maxRecDepth 100000 in
set_option maxHeartbeats 4000000 in
theorem lives_any (w : World) : Calls Try.prog 9 #[] w fun e w' => e = .returned (.bool true) ∧ Below w.heap.size w w' := by
  go_enter Try.func9, Try.ntmps9
  go_upto_region 3 with fail
  have g1 := lit_vals (W := w) (l := cellA.sl) (o := #[.int .i64 1, .int .i64 0, .string ⟨#[]⟩, .int .i64 7, .int .i64 3, .string ⟨#[]⟩, .int .i64 9, .int .i64 5, .string ⟨#[]⟩, .int .i64 3, .int .i64 7, .string ⟨#[]⟩]) (k := 4) rfl rfl (by omega)
  generalize hw1 : w.alloc _ = w1 at g1 ⊢
  have z1 : w1.heap.size = w.heap.size + 1 := by rw [← hw1]; simp
  have B1 : Below w.heap.size w w1 := by rw [← hw1]; exact bl_al (Below.refl _ _) _
  clear hw1
  have k2 := heap_alloc_new w1 (cellO 1 0 0 0 (.slice (some ⟨w.heap.size, 0, none⟩) 4 4) (.slice none 0 0))
  generalize hw2 : w1.alloc _ = w2 at k2 ⊢
  have z2 : w2.heap.size = w.heap.size + 2 := by rw [← hw2]; simp [z1]
  have B2 : Below w1.heap.size w1 w2 := by rw [← hw2]; exact bl_al (Below.refl _ _) _
  clear hw2
  have g3 := lit_vals (W := w2) (l := cellW.sl) (o := #[.int .i64 1, .int .i64 0, .string ⟨#[]⟩]) (k := 1) rfl rfl (by omega)
  generalize hw3 : w2.alloc _ = w3 at g3 ⊢
  have z3 : w3.heap.size = w.heap.size + 3 := by rw [← hw3]; simp [z2]
  have B3 : Below w2.heap.size w2 w3 := by rw [← hw3]; exact bl_al (Below.refl _ _) _
  clear hw3
  have g4 := lit_vals (W := w3) (l := cellW.mo) (o := #[.int .i64 7, .int .i64 3, .string ⟨#[]⟩, .int .i64 7, .int .i64 5, .string ⟨#[]⟩]) (k := 2) rfl rfl (by omega)
  generalize hw4 : w3.alloc _ = w4 at g4 ⊢
  have z4 : w4.heap.size = w.heap.size + 4 := by rw [← hw4]; simp [z3]
  have B4 : Below w3.heap.size w3 w4 := by rw [← hw4]; exact bl_al (Below.refl _ _) _
  clear hw4
  rw [z1] at k2
  rw [z2] at g3
  rw [z3] at g4
  simp only [Nat.add_assoc, Nat.reduceAdd]
  have k5 := heap_alloc_new w4 (cellO 8 0 0 0 (.slice (some ⟨w.heap.size + 2, 0, none⟩) 1 1) (.slice (some ⟨w.heap.size + 3, 0, none⟩) 2 2))
  generalize hw5 : w4.alloc _ = w5 at k5 ⊢
  have z5 : w5.heap.size = w.heap.size + 5 := by rw [← hw5]; simp [z4]
  have B5 : Below w4.heap.size w4 w5 := by rw [← hw5]; exact bl_al (Below.refl _ _) _
  clear hw5
  rw [z4] at k5
  have C4 := B5
  have C3 := bl_tr B4 C4
  have C2 := bl_tr B3 C3
  have C1 := bl_tr B2 C2
  have C0 := bl_tr B1 C1
  have a1 : IsV w5 (.slice (some ⟨w.heap.size, 0, none⟩) 4 4) cellA.sl := g1.below C1
  have a2 : IsV w5 (.slice none 0 0) cellA.mo := .nil_
  have a3 : IsV w5 (.slice (some ⟨w.heap.size + 2, 0, none⟩) 1 1) cellW.sl := g3.below C3
  have a4 : IsV w5 (.slice (some ⟨w.heap.size + 3, 0, none⟩) 2 2) cellW.mo := g4.below C4
  have h2 : w5.heap[w.heap.size + 1]? = some (cellO 1 0 0 0 (.slice (some ⟨w.heap.size, 0, none⟩) 4 4) (.slice none 0 0)) := by rw [C2.block _ (by omega)]; exact k2
  have CC := Lib.hid C0
  have ZZ := Lib.hid z5
  obtain ⟨⟨b0, b1, b2, b3, b4, b5⟩, _⟩ := cells6 h2
  obtain ⟨⟨d0, d1, d2, d3, d4, d5⟩, _⟩ := cells6 k5
  have l2 : w.heap.size + 1 < w5.heap.size := by omega
  have l5 : w.heap.size + 4 < w5.heap.size := by omega
  have RA := Lib.hid (fun W1 (h : Below w5.heap.size w5 W1) => by have := right_any _ _ cellA okA W1 (a1.below h) (a2.below h); rw [rightA] at this; exact this : ∀ W1, Below w5.heap.size w5 W1 → Calls Try.prog 18 #[cellV 1 0 0 0 (.slice (some ⟨w.heap.size, 0, none⟩) 4 4) (.slice none 0 0)] W1 fun e w' => e = .returned (.bool true) ∧ Below W1.heap.size W1 w')
  have RW := Lib.hid (fun W1 (h : Below w5.heap.size w5 W1) => by have := right_any _ _ cellW okW W1 (a3.below h) (a4.below h); rw [rightW] at this; exact this : ∀ W1, Below w5.heap.size w5 W1 → Calls Try.prog 18 #[cellV 8 0 0 0 (.slice (some ⟨w.heap.size + 2, 0, none⟩) 1 1) (.slice (some ⟨w.heap.size + 3, 0, none⟩) 2 2)] W1 fun e w' => e = .returned (.bool true) ∧ Below W1.heap.size W1 w')
  have SA := Lib.hid (fun W1 (h : Below w5.heap.size w5 W1) => size_of _ _ cellA W1 (a1.below h) (a2.below h) (by simp) : ∀ W1, Below w5.heap.size w5 W1 → Calls Try.prog 15 #[cellV 1 0 0 0 (.slice (some ⟨w.heap.size, 0, none⟩) 4 4) (.slice none 0 0)] W1 fun e w' => e = .returned (.int .i64 5) ∧ Below W1.heap.size W1 w')
  have LA := Lib.hid (fun W1 (h : Below w5.heap.size w5 W1) => by have := leads_of _ _ cellA okA W1 (a1.below h) (a2.below h) (by simp); rw [leadsA] at this; exact callGrI rfl this : ∀ W1, Below w5.heap.size w5 W1 → Calls Try.prog 11 #[cellV 1 0 0 0 (.slice (some ⟨w.heap.size, 0, none⟩) 4 4) (.slice none 0 0)] W1 fun e w' => ∃ A n pp, e = .returned (.slice A 2 n) ∧ IsI (gr W1 pp) (.slice A 2 n) [3, 5] ∧ w' = gr W1 pp)
  have LW := Lib.hid (fun W1 (h : Below w5.heap.size w5 W1) => by have := leads_of _ _ cellW okW W1 (a3.below h) (a4.below h) (by simp); rw [leadsW] at this; exact callGrI rfl this : ∀ W1, Below w5.heap.size w5 W1 → Calls Try.prog 11 #[cellV 8 0 0 0 (.slice (some ⟨w.heap.size + 2, 0, none⟩) 1 1) (.slice (some ⟨w.heap.size + 3, 0, none⟩) 2 2)] W1 fun e w' => ∃ A n pp, e = .returned (.slice A 0 n) ∧ IsI (gr W1 pp) (.slice A 0 n) [] ∧ w' = gr W1 pp)
  have WW := Lib.hid (fun W1 (h : Below w5.heap.size w5 W1) => by have := weakly_of _ _ cellW okW W1 (a3.below h) (a4.below h) (by simp); rw [weakW] at this; exact callGrI rfl this : ∀ W1, Below w5.heap.size w5 W1 → Calls Try.prog 13 #[cellV 8 0 0 0 (.slice (some ⟨w.heap.size + 2, 0, none⟩) 1 1) (.slice (some ⟨w.heap.size + 3, 0, none⟩) 2 2)] W1 fun e w' => ∃ A n pp, e = .returned (.slice A 2 n) ∧ IsI (gr W1 pp) (.slice A 2 n) [3, 5] ∧ w' = gr W1 pp)
  clear g1 g3 g4 k2 k5 h2 a1 a2 a3 a4 B1 B2 B3 B4 B5 C0 C1 C2 C3 C4 z1 z2 z3 z4 z5
  clear w1 w2 w3 w4
  have hb0 := Below.refl w5.heap.size w5
  go_wp2_with (first
    | (go_at_call_of 18 (Value.int .i64 1); refine (callGr (RA.out _ (by (repeat (with_reducible first | exact Below.refl _ _ | (refine bl_set ?_ (by first | omega | (simp; done) | (simp; omega)) _) | refine bl_gr ?_ _ | refine bl_al ?_ _ | refine below_setRow ?_ (by first | omega | (simp; done) | (simp; omega)) _ | refine bl_drewN ?_ _ | refine Below.drew ?_ | (refine bl_tr ?_ (by assumption))))))).mono ?_; rintro e w' ⟨pp, rfl, rfl⟩)
    | (go_at_call_of 18 (Value.int .i64 8); refine (callGr (RW.out _ (by (repeat (with_reducible first | exact Below.refl _ _ | (refine bl_set ?_ (by first | omega | (simp; done) | (simp; omega)) _) | refine bl_gr ?_ _ | refine bl_al ?_ _ | refine below_setRow ?_ (by first | omega | (simp; done) | (simp; omega)) _ | refine bl_drewN ?_ _ | refine Below.drew ?_ | (refine bl_tr ?_ (by assumption))))))).mono ?_; rintro e w' ⟨pp, rfl, rfl⟩)
    | (go_at_call 15; refine (callGr (SA.out _ (by (repeat (with_reducible first | exact Below.refl _ _ | (refine bl_set ?_ (by first | omega | (simp; done) | (simp; omega)) _) | refine bl_gr ?_ _ | refine bl_al ?_ _ | refine below_setRow ?_ (by first | omega | (simp; done) | (simp; omega)) _ | refine bl_drewN ?_ _ | refine Below.drew ?_ | (refine bl_tr ?_ (by assumption))))))).mono ?_; rintro e w' ⟨pp, rfl, rfl⟩)
    | (go_at_call_of 11 (Value.int .i64 1); refine (LA.out _ (by (repeat (with_reducible first | exact Below.refl _ _ | (refine bl_set ?_ (by first | omega | (simp; done) | (simp; omega)) _) | refine bl_gr ?_ _ | refine bl_al ?_ _ | refine below_setRow ?_ (by first | omega | (simp; done) | (simp; omega)) _ | refine bl_drewN ?_ _ | refine Below.drew ?_ | (refine bl_tr ?_ (by assumption)))))).mono ?_; rintro e w' ⟨A6, n6, p6, rfl, hI6, rfl⟩; have I6 := Lib.hid hI6; clear hI6)
    | (go_at_call_of 11 (Value.int .i64 8); refine (LW.out _ (by (repeat (with_reducible first | exact Below.refl _ _ | (refine bl_set ?_ (by first | omega | (simp; done) | (simp; omega)) _) | refine bl_gr ?_ _ | refine bl_al ?_ _ | refine below_setRow ?_ (by first | omega | (simp; done) | (simp; omega)) _ | refine bl_drewN ?_ _ | refine Below.drew ?_ | (refine bl_tr ?_ (by assumption)))))).mono ?_; rintro e w' ⟨A7, n7, p7, rfl, _, rfl⟩)
    | (go_at_call 13; refine (WW.out _ (by (repeat (with_reducible first | exact Below.refl _ _ | (refine bl_set ?_ (by first | omega | (simp; done) | (simp; omega)) _) | refine bl_gr ?_ _ | refine bl_al ?_ _ | refine below_setRow ?_ (by first | omega | (simp; done) | (simp; omega)) _ | refine bl_drewN ?_ _ | refine Below.drew ?_ | (refine bl_tr ?_ (by assumption)))))).mono ?_; rintro e w' ⟨A8, n8, p8, rfl, hI8, rfl⟩; have I8 := Lib.hid hI8; clear hI8)
    | (go_at_call 10; refine (same_lit2 ?_ ?_).mono ?_; (next => first | (have h := I6.out; rw [gr_gr] at h; exact h) | (have h := I8.out; first | exact h | (rw [gr_gr] at h; exact h))); (next => rfl); rintro e w' ⟨rfl, pp, rfl⟩))
  go_ret
  exact ⟨rfl, bl_gr CC.out _⟩
