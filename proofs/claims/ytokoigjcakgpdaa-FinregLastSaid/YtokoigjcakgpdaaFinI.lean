/- Registries: the law's own test. -/
import Derived.Test.YtokoigjcakgpdaaFinG
import Derived.Test.YtokoigjcakgpdaaFinH
import Derived.Deep.RegionHeld3
import Derived.Deep.DeepCutAuto
namespace Go.Proofs.Ytokoigjcakgpdaa
set_option linter.all false
open Go.RowKit Go.Sort Go.Deep

abbrev objV (n : Int) : Val := ⟨7, n, ⟨#[]⟩⟩
abbrev cellE : CellD := ⟨10, 0, 0, 0, [⟨1, 0, ⟨#[]⟩⟩], [objV 1]⟩
abbrev cell1 : CellD := ⟨10, 0, 0, 0, [⟨1, 0, ⟨#[]⟩⟩], [objV 1, objV 3, numV 1, Val.zero, numV 7]⟩
abbrev cell2 : CellD := ⟨10, 0, 0, 0, [⟨1, 0, ⟨#[]⟩⟩], [objV 1, objV 3, numV 1, Val.zero, numV 7, objV 5, numV 2, Val.zero, numV 8]⟩
abbrev cell3 : CellD := ⟨10, 0, 0, 0, [⟨1, 0, ⟨#[]⟩⟩], [objV 1, objV 5, numV 2, Val.zero, numV 8]⟩
theorem isE : isB cellE = true := by first | rfl | kernel_rfl | decide +kernel
theorem is1 : isB cell1 = true := by first | rfl | kernel_rfl | decide +kernel
theorem is2 : isB cell2 = true := by first | rfl | kernel_rfl | decide +kernel
theorem is3 : isB cell3 = true := by first | rfl | kernel_rfl | decide +kernel
theorem may1 : [objV 3, numV 1, Val.zero].all mayB = true := by first | rfl | kernel_rfl | decide +kernel
theorem may2 : [objV 5, numV 2, Val.zero].all mayB = true := by first | rfl | kernel_rfl | decide +kernel
theorem ok3 {k n : Int} (h : i64ok k) (h2 : i64ok n) : (⟨k, n, ⟨#[]⟩⟩ : Val).ok := ⟨h, h2, Nat.zero_le _⟩
theorem cell_ok {sl mo : List Val} (h1 : ∀ x ∈ sl, x.ok) (h2 : ∀ x ∈ mo, x.ok) : (⟨10, 0, 0, 0, sl, mo⟩ : CellD).ok := ⟨(⟨by decide, by decide⟩ : i64ok 10), (⟨by decide, by decide⟩ : i64ok 0), (⟨by decide, by decide⟩ : i64ok 0), (⟨by decide, by decide⟩ : i64ok 0), h1, h2⟩
theorem ok_all : ∀ x ∈ [(⟨1, 0, ⟨#[]⟩⟩ : Val), objV 1, objV 3, numV 1, Val.zero, numV 7, objV 5, numV 2, numV 8], x.ok := by
  intro x hx
  simp only [List.mem_cons, List.not_mem_nil, or_false] at hx
  rcases hx with rfl | rfl | rfl | rfl | rfl | rfl | rfl | rfl | rfl <;> exact ok3 ⟨by decide, by decide⟩ ⟨by decide, by decide⟩
theorem okE : cellE.ok := cell_ok (fun x hx => ok_all x (by simp at hx ⊢; simp [hx])) (fun x hx => ok_all x (by simp at hx ⊢; simp [hx]))
theorem ok1 : cell1.ok := cell_ok (fun x hx => ok_all x (by simp at hx ⊢; simp [hx])) (fun x hx => ok_all x (by simp at hx ⊢; rcases hx with h | h | h | h | h <;> simp [h]))
theorem ok2 : cell2.ok := cell_ok (fun x hx => ok_all x (by simp at hx ⊢; simp [hx])) (fun x hx => ok_all x (by simp at hx ⊢; rcases hx with h | h | h | h | h | h | h | h | h <;> simp [h]))
theorem ok3c : cell3.ok := cell_ok (fun x hx => ok_all x (by simp at hx ⊢; simp [hx])) (fun x hx => ok_all x (by simp at hx ⊢; rcases hx with h | h | h | h | h <;> simp [h]))
def liveL (y : Int) : Bool := y == 5
theorem keptL : keptD liveL cell2.mo (List.finRange 2) = cell3.mo := by first | rfl | kernel_rfl | decide +kernel
theorem toldL : toldsD liveL cell2.mo (List.finRange 2) = [objV 1, numV 1, numV 7] := by first | rfl | kernel_rfl | decide +kernel

theorem gr_alloc_other (W : World) (a b : Obj) (q : Regrown) (g : Nat) (h : g ≠ W.heap.size) : (gr (W.alloc a) q).heap[g]? = (gr (W.alloc b) q).heap[g]? := by
  simp only [gr, grow, redrawn, World.alloc, Array.getElem?_append, Array.getElem?_push, Array.size_push]
  simp only [if_neg h]
/-- an own row of a call stands where a block laid ahead of the call is another -/
theorem own_alloc {W : World} {a b : Obj} {q : Regrown} {v : Value} {xs : List Val} (h : OwnV (gr (W.alloc a) q) (W.alloc a).heap.size v xs) : IsV (gr (W.alloc b) q) v xs := by
  refine OwnV.isV (lo := W.heap.size) ?_
  rcases h with ⟨h1, h0 | ⟨g, cap, cur, e, hg, hh, h3, h4, h5, h6⟩⟩
  · exact ⟨h1, .inl h0⟩
  · have : g ≠ W.heap.size := by rw [World.size_alloc] at hg; omega
    exact ⟨h1, .inr ⟨g, cap, cur, e, by rw [World.size_alloc] at hg; omega, (gr_alloc_other W b a q g this).trans hh, h3, h4, h5, h6⟩⟩

theorem lit_int1 {W : World} {B : Nat} (hB : B = W.heap.size) : IsI (W.alloc (.cells #[.int .i64 5] 3)) (.slice (some ⟨B, 0, none⟩) 1 1) [5] := by
  subst hB
  exact OwnI.isI (lo := 0) (World.ownsRow_lit W #[.int .i64 5] 1 (Nat.zero_le _) (by unfold maxLen; omega) rfl)
theorem own_alloc2 {W : World} {a b : Obj} {p q : Regrown} {v : Value} {xs : List Val} (h : OwnV (gr (gr (W.alloc a) p) q) (gr (W.alloc a) p).heap.size v xs) : IsV (gr (W.alloc b) (rapp p q)) v xs := by
  have h2 := ownsRow_low h (b' := (W.alloc a).heap.size) (by rw [gr_size]; omega)
  rw [gr_gr] at h2
  exact own_alloc h2
theorem heap_alloc_gr (W : World) (a : Obj) (q : Regrown) : (gr (W.alloc a) q).heap[W.heap.size]? = some a :=
  ((below_gr (W.alloc a) q).block _ (by rw [World.size_alloc]; omega)).trans (heap_alloc_new _ _)

set_option maxRecDepth 100000 in
set_option maxHeartbeats 2000000 in
theorem empty_any (w : World) : Calls Try.prog 24 #[] w fun e w' => ∃ A1 n1 A2 n2, e = .returned (cellV 10 0 0 0 (.slice A1 1 n1) (.slice A2 1 n2)) ∧ IsV w' (.slice A1 1 n1) cellE.sl ∧ IsV w' (.slice A2 1 n2) cellE.mo ∧ Below w.heap.size w w' := by
  go_enter Try.func24, Try.ntmps24
  go_wp2_with (go_at_call 15; refine (callGr (object_any _ _)).mono ?_; rintro e w' ⟨pp, rfl, rfl⟩)
  have h1 : IsV ((w.alloc (cellO 10 0 0 0 (.slice (some ⟨w.heap.size + 1, 0, none⟩) 1 1) (.slice (some ⟨w.heap.size + 1 + 1 + pp.os.size, 0, none⟩) 1 1))).alloc (.cells #[.int .i64 1, .int .i64 0, .string ⟨#[]⟩] 34)) (.slice (some ⟨w.heap.size + 1, 0, none⟩) 1 1) [⟨1, 0, ⟨#[]⟩⟩] := lit_valsB (by simp) rfl rfl (by omega)
  have h0 : ((w.alloc (cellO 10 0 0 0 (.slice (some ⟨w.heap.size + 1, 0, none⟩) 1 1) (.slice (some ⟨w.heap.size + 1 + 1 + pp.os.size, 0, none⟩) 1 1))).alloc (.cells #[.int .i64 1, .int .i64 0, .string ⟨#[]⟩] 34)).heap[w.heap.size]? = some (cellO 10 0 0 0 (.slice (some ⟨w.heap.size + 1, 0, none⟩) 1 1) (.slice (some ⟨w.heap.size + 1 + 1 + pp.os.size, 0, none⟩) 1 1)) := (heap_alloc_old _ _ (by simp)).trans (heap_alloc_new _ _)
  have hb : Below w.heap.size w ((w.alloc (cellO 10 0 0 0 (.slice (some ⟨w.heap.size + 1, 0, none⟩) 1 1) (.slice (some ⟨w.heap.size + 1 + 1 + pp.os.size, 0, none⟩) 1 1))).alloc (.cells #[.int .i64 1, .int .i64 0, .string ⟨#[]⟩] 34)) := bl_al (bl_al (Below.refl _ _) _) _
  have hs : ((w.alloc (cellO 10 0 0 0 (.slice (some ⟨w.heap.size + 1, 0, none⟩) 1 1) (.slice (some ⟨w.heap.size + 1 + 1 + pp.os.size, 0, none⟩) 1 1))).alloc (.cells #[.int .i64 1, .int .i64 0, .string ⟨#[]⟩] 34)).heap.size = w.heap.size + 1 + 1 := by simp
  generalize hW : (w.alloc _).alloc _ = W at h1 h0 hb hs ⊢
  clear hW
  have h2 : IsV ((gr W pp).alloc (.cells #[.int .i64 7, .int .i64 1, .string ⟨#[]⟩] 34)) (.slice (some ⟨w.heap.size + 1 + 1 + pp.os.size, 0, none⟩) 1 1) [objV 1] := lit_valsB (by rw [gr_size, hs]) rfl rfl (by omega)
  have hB : Below W.heap.size W ((gr W pp).alloc (.cells #[.int .i64 7, .int .i64 1, .string ⟨#[]⟩] 34)) := bl_al (below_gr W pp) _
  have g1 := h1.below hB
  have g0 := (hB.block _ (by omega)).trans h0
  have gb := hb.trans (hB.mono (by omega))
  generalize hX : (gr W pp).alloc _ = X at h2 g1 g0 gb ⊢
  clear hX hB h1 h0 hb hs
  obtain ⟨⟨b0, b1, b2, b3, b4, b5⟩, _⟩ := cells6 g0
  refine bodyPost_ret (v := cellV 10 0 0 0 (.slice (some ⟨w.heap.size + 1, 0, none⟩) 1 1) (.slice (some ⟨w.heap.size + 1 + 1 + pp.os.size, 0, none⟩) 1 1)) (by clear h2 g1 gb; simp [results, Try.results24, go_sem, *]) rfl ⟨_, _, _, _, rfl, g1, h2, gb⟩

set_option maxRecDepth 100000 in
set_option maxHeartbeats 8000000 in
theorem lives_any (w : World) : Calls Try.prog 9 #[] w fun e w' => e = .returned (.bool true) ∧ Below w.heap.size w w' := by
  have fitE : cellE.fit := by unfold CellD.fit fitV; simp
  have fit1 : cell1.fit := by unfold CellD.fit fitV; simp
  have fit2 : cell2.fit := by unfold CellD.fit fitV; simp
  have vok := ok_all
  have A1 := Lib.hid (fun W sv mv (h1 : IsV W sv cellE.sl) (h2 : IsV W mv cellE.mo) => add_ok sv mv cellE (objV 3) (numV 1) Val.zero 7 okE (vok _ (by simp)) (vok _ (by simp)) (vok _ (by simp)) fitE (by simp) W h1 h2 isE (by decide) (.inr ⟨by decide, by decide⟩) may1 (by decide) (by decide) (by decide) (by decide))
  have A2 := Lib.hid (fun W sv mv (h1 : IsV W sv cell1.sl) (h2 : IsV W mv cell1.mo) => add_ok sv mv cell1 (objV 5) (numV 2) Val.zero 8 ok1 (vok _ (by simp)) (vok _ (by simp)) (vok _ (by simp)) fit1 (by simp) W h1 h2 is1 (by decide) (.inr ⟨by decide, by decide⟩) may2 (by decide) (by decide) (by decide) (by decide))
  have A3 := Lib.hid (fun W sv mv lv (h1 : IsV W sv cell2.sl) (h2 : IsV W mv cell2.mo) (h3 : IsI W lv [5]) => (clean_any sv mv lv cell2 [5] liveL (fun y => by rw [liveL, Bool.eq_iff_iff]; simp) ok2 fit2 (by simp) (fun x hx => by simp at hx; subst hx; exact ⟨by decide, by decide⟩) 2 rfl (by omega) W h1 h2 h3 is2).mono (R' := fun e w' => ∃ A1 n1 A2 n2 A3 n3, e = .returned (.tuple #[cellV 10 0 0 0 (.slice A1 1 n1) (.slice A2 5 n2), .slice A3 3 n3]) ∧ IsV w' (.slice A1 1 n1) cell3.sl ∧ IsV w' (.slice A2 5 n2) cell3.mo ∧ IsV w' (.slice A3 3 n3) [objV 1, numV 1, numV 7] ∧ Below W.heap.size W w') (by
    rintro e w' ⟨s, mm, t, rfl, j1, j2, j3, jb⟩
    rw [keptL] at j2
    rw [toldL] at j3
    obtain ⟨A1, n1, rfl, _, _⟩ := j1.form
    obtain ⟨A2, n2, rfl, _, _⟩ := j2.form
    obtain ⟨A3, n3, rfl, _, _⟩ := j3.form
    exact ⟨A1, n1, A2, n2, A3, n3, rfl, j1, j2, j3, jb⟩))
  clear vok
  go_enter Try.func9, Try.ntmps9
  go_upto_region 2 with (first
    | (go_at_call 24; refine (empty_any _).mono ?_; rintro e w1 ⟨E1, m1, E2, m2, rfl, e1, e2, hb1⟩; have H1 := Lib.hid (And.intro e1 (And.intro e2 hb1)); clear e1 e2 hb1)
    | (go_at_call 15; refine (callGr (object_any _ _)).mono ?_; rintro e w' ⟨pp, rfl, rfl⟩)
    | (go_at_call 14; refine (A1.out _ _ _ (H1.out.1.below (by (repeat (with_reducible first | exact Below.refl _ _ | (refine bl_set ?_ (by first | omega | (simp; done) | (simp; omega)) _) | refine bl_gr ?_ _ | refine bl_al ?_ _ | refine below_setRow ?_ (by first | omega | (simp; done) | (simp; omega)) _ | refine bl_drewN ?_ _ | refine Below.drew ?_ | (refine bl_tr ?_ (by assumption)))))) (H1.out.2.1.below (by (repeat (with_reducible first | exact Below.refl _ _ | (refine bl_set ?_ (by first | omega | (simp; done) | (simp; omega)) _) | refine bl_gr ?_ _ | refine bl_al ?_ _ | refine below_setRow ?_ (by first | omega | (simp; done) | (simp; omega)) _ | refine bl_drewN ?_ _ | refine Below.drew ?_ | (refine bl_tr ?_ (by assumption))))))).mono ?_; rintro e w2 ⟨E3, m3, E4, m4, rfl, e1, e2, hb2⟩; have H2 := Lib.hid (And.intro e1 (And.intro e2 hb2)); clear e1 e2 hb2))
  refine wp_world (fun X => X.heap[w2.heap.size]? = some (cellO 10 0 0 0 (.slice E3 1 m3) (.slice E4 5 m4)) ∧ Below w2.heap.size w2 X) ⟨heap_alloc_new _ _, bl_al (Below.refl _ _) _⟩ ?_
  rintro X ⟨x0, xb⟩
  have b2 : Below w.heap.size w X := bl_tr (bl_tr H1.out.2.2 (bl_tr (a := w1) (by first | exact Below.refl _ _ | exact below_gr _ _ | (repeat (with_reducible first | exact Below.refl _ _ | (refine bl_set ?_ (by first | omega | (simp; done) | (simp; omega)) _) | refine bl_gr ?_ _ | refine bl_al ?_ _ | refine below_setRow ?_ (by first | omega | (simp; done) | (simp; omega)) _ | refine bl_drewN ?_ _ | refine Below.drew ?_ | (refine bl_tr ?_ (by assumption))))) H2.out.2.2)) xb
  have V1 := Lib.hid ((OwnV.isV H2.out.1).below xb)
  have V2 := Lib.hid ((OwnV.isV H2.out.2.1).below xb)
  have BX := Lib.hid b2
  have lX : w2.heap.size < X.heap.size := (Array.getElem?_eq_some_iff.1 x0).1
  have XH := Lib.hid x0
  obtain ⟨⟨d0, d1, d2, d3, d4, d5⟩, _⟩ := cells6 x0
  clear H1 H2 A1 x0 xb b2
  generalize w2.heap.size = B1 at *
  have r1 : ∀ n, (B1 < X.heap.size + n) = True := fun n => eq_true (by omega)
  have r2 : ∀ n, (B1 = X.heap.size + n) = False := fun n => eq_false (by omega)
  have r3 : ∀ n, (X.heap.size + n = B1) = False := fun n => eq_false (by omega)
  go_cut [3, 4] (fun p e Y => ∃ B3 E5 m5 E6 m6, p = .pointer (some ⟨B3, 0, none⟩) ∧ e = .int .i64 0 ∧ Y.heap[B3]? = some (cellO 10 0 0 0 (.slice E5 1 m5) (.slice E6 9 m6)) ∧ IsV Y (.slice E5 1 m5) cell2.sl ∧ IsV Y (.slice E6 9 m6) cell2.mo ∧ Below X.heap.size X Y)
  case first =>
    go_region_held3 (fun Z : World => Z.cell? ⟨B1, 0, none⟩ = some (.int .i64 10) ∧ Z.cell? ⟨B1, 1, none⟩ = some (.int .i64 0) ∧ Z.cell? ⟨B1, 2, none⟩ = some (.int .i64 0) ∧ Z.cell? ⟨B1, 3, none⟩ = some (.int .i64 0) ∧ Z.cell? ⟨B1, 4, none⟩ = some (.slice E3 1 m3) ∧ Z.cell? ⟨B1, 5, none⟩ = some (.slice E4 5 m4)) (and_intros <;> go_simp) (first
      | (go_at_call 15; refine (callGr (object_any _ _)).mono ?_; rintro e w' ⟨pp, rfl, rfl⟩)
      | (go_at_call 14; refine (A2.out _ _ _ (V1.out.below (by (repeat (with_reducible first | exact Below.refl _ _ | (refine bl_set ?_ (by first | omega | (simp; done) | (simp; omega)) _) | refine bl_gr ?_ _ | refine bl_al ?_ _ | refine below_setRow ?_ (by first | omega | (simp; done) | (simp; omega)) _ | refine bl_drewN ?_ _ | refine Below.drew ?_ | (refine bl_tr ?_ (by assumption)))))) (V2.out.below (by (repeat (with_reducible first | exact Below.refl _ _ | (refine bl_set ?_ (by first | omega | (simp; done) | (simp; omega)) _) | refine bl_gr ?_ _ | refine bl_al ?_ _ | refine below_setRow ?_ (by first | omega | (simp; done) | (simp; omega)) _ | refine bl_drewN ?_ _ | refine Below.drew ?_ | (refine bl_tr ?_ (by assumption))))))).mono ?_; rintro e w4 ⟨E5, m5, E6, m6, rfl, e1, e2, hb4⟩; obtain ⟨q4, rfl⟩ := gr_of_below hb4; have H4 := Lib.hid (And.intro e1 e2); clear e1 e2 hb4))
    all_goals go_wp2_with fail
    all_goals go_meet
    · have h0 := heap_alloc_new (gr X (rapp pp q4)) (cellO 10 0 0 0 (.slice E5 1 m5) (.slice E6 9 m6))
      rw [gr_size] at h0
      have h1 := OwnV.isV H4.out.1
      have h2 := OwnV.isV H4.out.2
      rw [gr_gr] at h1 h2
      exact ⟨_, E5, m5, E6, m6, rfl, rfl, h0, h1.below (bl_al (Below.refl _ _) _), h2.below (bl_al (Below.refl _ _) _), bl_al (below_gr _ _) _⟩
    · have h0 := heap_alloc_gr (gr X pp) (cellO 10 0 0 0 (.slice E5 1 m5) (.slice E6 9 m6)) q4
      rw [gr_size] at h0
      exact ⟨_, E5, m5, E6, m6, rfl, rfl, h0, own_alloc H4.out.1, own_alloc H4.out.2, bl_gr (bl_al (below_gr _ _) _) _⟩
    · exact ⟨_, E5, m5, E6, m6, rfl, rfl, heap_alloc_gr X _ _, own_alloc2 H4.out.1, own_alloc2 H4.out.2, bl_gr (bl_al (Below.refl _ _) _) _⟩
  case rest =>
    obtain ⟨B3, E5, m5, E6, m6, rfl, rfl, x3, k1, k2, bY⟩ := hcut
    have BY := Lib.hid (bl_tr BX.out bY)
    have K1 := Lib.hid k1
    have K2 := Lib.hid k2
    have l3 : B3 < wc.heap.size := (Array.getElem?_eq_some_iff.1 x3).1
    have X3 := Lib.hid x3
    clear d0 d1 d2 d3 d4 d5 r1 r2 r3 XH V1 V2 BX lX A2 k1 k2 bY
    obtain ⟨⟨d0, d1, d2, d3, d4, d5⟩, _⟩ := cells6 x3
    clear x3
    go_upto_region 4 with (go_at_call 10; refine (A3.out _ _ _ _ (K1.out.below (by (repeat (with_reducible first | exact Below.refl _ _ | (refine bl_set ?_ (by first | omega | (simp; done) | (simp; omega)) _) | refine bl_gr ?_ _ | refine bl_al ?_ _ | refine below_setRow ?_ (by first | omega | (simp; done) | (simp; omega)) _ | refine bl_drewN ?_ _ | refine Below.drew ?_ | (refine bl_tr ?_ (by assumption)))))) (K2.out.below (by (repeat (with_reducible first | exact Below.refl _ _ | (refine bl_set ?_ (by first | omega | (simp; done) | (simp; omega)) _) | refine bl_gr ?_ _ | refine bl_al ?_ _ | refine below_setRow ?_ (by first | omega | (simp; done) | (simp; omega)) _ | refine bl_drewN ?_ _ | refine Below.drew ?_ | (refine bl_tr ?_ (by assumption)))))) (lit_int1 rfl)).mono ?_; rintro e w5 ⟨E7, m7, E8, m8, E9, m9, rfl, e1, e2, e3, hb5⟩; have H5 := Lib.hid (And.intro e1 (And.intro e2 (And.intro e3 hb5))); clear e1 e2 e3 hb5)
    refine wp_world (fun Z => Z.heap[w5.heap.size]? = some (cellO 10 0 0 0 (.slice E7 1 m7) (.slice E8 5 m8)) ∧ Below w5.heap.size w5 Z) ⟨heap_alloc_new _ _, bl_al (Below.refl _ _) _⟩ ?_
    rintro Z ⟨z0, zb⟩
    have bw : Below wc.heap.size wc w5 := bl_tr (a := wc) (bl_al (Below.refl _ _) _) H5.out.2.2.2
    have bZ : Below wc.heap.size wc Z := bl_tr bw zb
    obtain ⟨g, o, rfl⟩ := isV_addr H5.out.2.2.1 (by simp)
    have VT := H5.out.2.2.1.below zb
    have U1 := Lib.hid (K1.out.below bZ)
    have U2 := Lib.hid (K2.out.below bZ)
    have U3 := Lib.hid (H5.out.1.below zb)
    have U4 := Lib.hid (H5.out.2.1.below zb)
    have BZ := Lib.hid (bl_tr BY.out bZ)
    have x3 := (bZ.block _ l3).trans X3.out
    have l5 : w5.heap.size < Z.heap.size := (Array.getElem?_eq_some_iff.1 z0).1
    have l3z : B3 < Z.heap.size := (Array.getElem?_eq_some_iff.1 x3).1
    obtain ⟨hg, c00, c01, c02⟩ := VT.v3 0 (by simp)
    obtain ⟨_, c10, c11, c12⟩ := VT.v3 1 (by simp)
    obtain ⟨_, c20, c21, c22⟩ := VT.v3 2 (by simp)
    clear d0 d1 d2 d3 d4 d5 bZ bw H5 K1 K2 BY X3 A3 l3 VT zb
    obtain ⟨⟨d0, d1, d2, d3, d4, d5⟩, _⟩ := cells6 x3
    obtain ⟨⟨f0, f1, f2, f3, f4, f5⟩, _⟩ := cells6 z0
    clear x3 z0
    have L2 := Lib.hid (fun W (h1 : IsV W (.slice E5 1 m5) cell2.sl) (h2 : IsV W (.slice E6 9 m6) cell2.mo) => (len_any _ _ cell2 ok2 W h1 h2 (fun _ => by simp) (by simp)).mono (R' := fun e w' => e = .returned (.int .i64 2) ∧ Below W.heap.size W w') (by rintro e w' ⟨rfl, hb⟩; exact ⟨by simp [lenF, is2], hb⟩))
    have L3 := Lib.hid (fun W (h1 : IsV W (.slice E7 1 m7) cell3.sl) (h2 : IsV W (.slice E8 5 m8) cell3.mo) => (len_any _ _ cell3 ok3c W h1 h2 (fun _ => by simp) (by simp)).mono (R' := fun e w' => e = .returned (.int .i64 1) ∧ Below W.heap.size W w') (by rintro e w' ⟨rfl, hb⟩; exact ⟨by simp [lenF, is3], hb⟩))
    generalize w5.heap.size = B5 at *
    replace c00 : Z.cell? ⟨g, o, none⟩ = some (.int .i64 7) := c00
    replace c01 : Z.cell? ⟨g, o + 1, none⟩ = some (.int .i64 1) := c01
    replace c02 : Z.cell? ⟨g, o + 2, none⟩ = some (.string ⟨#[]⟩) := c02
    replace c10 : Z.cell? ⟨g, o + 3, none⟩ = some (.int .i64 3) := c10
    replace c11 : Z.cell? ⟨g, o + 3 + 1, none⟩ = some (.int .i64 1) := c11
    replace c12 : Z.cell? ⟨g, o + 3 + 2, none⟩ = some (.string ⟨#[]⟩) := c12
    replace c20 : Z.cell? ⟨g, o + 6, none⟩ = some (.int .i64 3) := c20
    replace c21 : Z.cell? ⟨g, o + 6 + 1, none⟩ = some (.int .i64 7) := c21
    replace c22 : Z.cell? ⟨g, o + 6 + 2, none⟩ = some (.string ⟨#[]⟩) := c22
    have q1 : (Val.mk 7 1 ⟨#[]⟩).eq ⟨7, 1, ⟨#[]⟩⟩ = true := Val.eq_self _
    have q2 : (Val.mk 3 1 ⟨#[]⟩).eq ⟨3, 1, ⟨#[]⟩⟩ = true := Val.eq_self _
    have q3 : (Val.mk 3 7 ⟨#[]⟩).eq ⟨3, 7, ⟨#[]⟩⟩ = true := Val.eq_self _
    go_region_held3 (fun W : World => W.cell? ⟨B3, 0, none⟩ = some (.int .i64 10) ∧ W.cell? ⟨B3, 1, none⟩ = some (.int .i64 0) ∧ W.cell? ⟨B3, 2, none⟩ = some (.int .i64 0) ∧ W.cell? ⟨B3, 3, none⟩ = some (.int .i64 0) ∧ W.cell? ⟨B3, 4, none⟩ = some (.slice E5 1 m5) ∧ W.cell? ⟨B3, 5, none⟩ = some (.slice E6 9 m6) ∧ W.cell? ⟨B5, 0, none⟩ = some (.int .i64 10) ∧ W.cell? ⟨B5, 1, none⟩ = some (.int .i64 0) ∧ W.cell? ⟨B5, 2, none⟩ = some (.int .i64 0) ∧ W.cell? ⟨B5, 3, none⟩ = some (.int .i64 0) ∧ W.cell? ⟨B5, 4, none⟩ = some (.slice E7 1 m7) ∧ W.cell? ⟨B5, 5, none⟩ = some (.slice E8 5 m8) ∧ W.cell? ⟨g, o, none⟩ = some (.int .i64 7) ∧ W.cell? ⟨g, o + 1, none⟩ = some (.int .i64 1) ∧ W.cell? ⟨g, o + 2, none⟩ = some (.string ⟨#[]⟩) ∧ W.cell? ⟨g, o + 3, none⟩ = some (.int .i64 3) ∧ W.cell? ⟨g, o + 3 + 1, none⟩ = some (.int .i64 1) ∧ W.cell? ⟨g, o + 3 + 2, none⟩ = some (.string ⟨#[]⟩) ∧ W.cell? ⟨g, o + 6, none⟩ = some (.int .i64 3) ∧ W.cell? ⟨g, o + 6 + 1, none⟩ = some (.int .i64 7) ∧ W.cell? ⟨g, o + 6 + 2, none⟩ = some (.string ⟨#[]⟩)) (and_intros <;> go_simp) (first
      | (go_at_call 15; refine (callGr (object_any _ _)).mono ?_; rintro e w' ⟨pp, rfl, rfl⟩)
      | (go_at_call_of 16 (E5); refine (callGr (L2.out _ (U1.out.below (by (repeat (with_reducible first | exact Below.refl _ _ | (refine bl_set ?_ (by first | omega | (simp; done) | (simp; omega)) _) | refine bl_gr ?_ _ | refine bl_al ?_ _ | refine below_setRow ?_ (by first | omega | (simp; done) | (simp; omega)) _ | refine bl_drewN ?_ _ | refine Below.drew ?_ | (refine bl_tr ?_ (by assumption)))))) (U2.out.below (by (repeat (with_reducible first | exact Below.refl _ _ | (refine bl_set ?_ (by first | omega | (simp; done) | (simp; omega)) _) | refine bl_gr ?_ _ | refine bl_al ?_ _ | refine below_setRow ?_ (by first | omega | (simp; done) | (simp; omega)) _ | refine bl_drewN ?_ _ | refine Below.drew ?_ | (refine bl_tr ?_ (by assumption)))))))).mono ?_; rintro e w' ⟨pp, rfl, rfl⟩)
      | (go_at_call_of 16 (E7); refine (callGr (L3.out _ (U3.out.below (by (repeat (with_reducible first | exact Below.refl _ _ | (refine bl_set ?_ (by first | omega | (simp; done) | (simp; omega)) _) | refine bl_gr ?_ _ | refine bl_al ?_ _ | refine below_setRow ?_ (by first | omega | (simp; done) | (simp; omega)) _ | refine bl_drewN ?_ _ | refine Below.drew ?_ | (refine bl_tr ?_ (by assumption)))))) (U4.out.below (by (repeat (with_reducible first | exact Below.refl _ _ | (refine bl_set ?_ (by first | omega | (simp; done) | (simp; omega)) _) | refine bl_gr ?_ _ | refine bl_al ?_ _ | refine below_setRow ?_ (by first | omega | (simp; done) | (simp; omega)) _ | refine bl_drewN ?_ _ | refine Below.drew ?_ | (refine bl_tr ?_ (by assumption)))))))).mono ?_; rintro e w' ⟨pp, rfl, rfl⟩))
    all_goals go_wp2_with fail
    all_goals go_ret
    all_goals exact ⟨rfl, bl_tr BZ.out (by (repeat (with_reducible first | exact Below.refl _ _ | (refine bl_set ?_ (by first | omega | (simp; done) | (simp; omega)) _) | refine bl_gr ?_ _ | refine bl_al ?_ _ | refine below_setRow ?_ (by first | omega | (simp; done) | (simp; omega)) _ | refine bl_drewN ?_ _ | refine Below.drew ?_ | (refine bl_tr ?_ (by assumption)))))⟩
end Go.Proofs.Ytokoigjcakgpdaa
