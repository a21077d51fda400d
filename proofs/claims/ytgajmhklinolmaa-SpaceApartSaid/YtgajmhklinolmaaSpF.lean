/- Walk of touched: the rows of a cell are overwritten, nothing else is. -/
import Derived.Test.YtgajmhklinolmaaSpE
namespace Go.Proofs.Ytgajmhklinolmaa
set_option linter.all false
open Go.RowKit Go.Sort Go.Deep

theorem OwnN.set {w : World} {v : Value} {n : Nat} (h : OwnN w v n) (g j : Nat) (u : Value) : OwnN (w.setCell ⟨g, j, none⟩ u) v n := by
  obtain ⟨xs, hl, h⟩ := h
  rcases h with h0 | ⟨g', cap, cur, e, hb, hg, hc, hm, hs, ht⟩
  · exact ⟨xs, hl, .inl h0⟩
  · by_cases he : g' = g
    · subst he
      refine ⟨(cur.setIfInBounds j u).toList.take (n * 3), ?_, .inr ⟨g', cap, cur.setIfInBounds j u, e, hb, heap_setCell_same w g' j cur _ u hg, hc, hm, by simpa using hs, rfl⟩⟩
      rw [List.length_take, Array.length_toList, Array.size_setIfInBounds, hs]
      exact Nat.min_eq_left (Nat.mul_le_mul_right 3 hc)
    · exact ⟨xs, hl, .inr ⟨g', cap, cur, e, hb, by rw [heap_setCell_other _ _ _ _ he]; exact hg, hc, hm, hs, ht⟩⟩
theorem OwnN.touch {F : Nat → Prop} {w w' : World} {v : Value} {n : Nat} (h : OwnN w v n) (ht : Touch F w w') (hF : ∀ g, v.ownBlock = some g → ¬ F g) : OwnN w' v n := by
  obtain ⟨xs, h⟩ := h
  exact ⟨xs, ownsRow_touch h ht hF⟩
theorem OwnN.of {w : World} {lo : Nat} {v : Value} {xs : List Val} (h : OwnV w lo v xs) : OwnN w v xs.length := ⟨_, ownsRow_low h (Nat.zero_le _)⟩
theorem OwnN.at_ {w : World} {v : Value} {n : Nat} (h : OwnN w v n) (h0 : 0 < n) : ∃ g o cap, v = .slice (some ⟨g, o, none⟩) n cap ∧ n ≤ cap ∧ cap ≤ maxLen ∧ o = 0 ∧ v.ownBlock = some g ∧ g < w.heap.size ∧ ∀ k, k < n → ∀ j, j < 3 → (∃ u, w.cell? ⟨g, o + k * 3 + j, none⟩ = some u) ∧ w.frozen? ⟨g, o + k * 3 + j, none⟩ = false := by
  obtain ⟨xs, hl, h⟩ := h
  rcases h with ⟨_, h0'⟩ | ⟨g, cap, cur, rfl, hb, hg, hc, hm, hs, ht⟩
  · omega
  · refine ⟨g, 0, cap, rfl, hc, hm, rfl, rfl, (Array.getElem?_eq_some_iff.1 hg).1, fun k hk j hj => ⟨?_, frozen_of_row w g _ cur _ hg⟩⟩
    rw [cell_of_row w g _ cur _ _ hg]
    have hlt : 0 + k * 3 + j < cur.size := by
      have : k * 3 + 3 ≤ n * 3 := by omega
      have := Nat.mul_le_mul_right 3 hc
      omega
    exact ⟨_, Array.getElem?_eq_getElem hlt⟩
theorem OwnN.form {w : World} {v : Value} {n : Nat} (h : OwnN w v n) : ∃ A cap, v = .slice A n cap ∧ n ≤ cap ∧ n ≤ maxLen := by
  obtain ⟨xs, hl, h⟩ := h
  rcases h with ⟨rfl, rfl⟩ | ⟨g, cap, cur, rfl, hb, hg, hc, hm, hs, ht⟩
  · exact ⟨_, _, rfl, Nat.le_refl _, Nat.zero_le _⟩
  · exact ⟨_, _, rfl, hc, Nat.le_trans hc hm⟩

/-- what holds throughout -/
def TouchedInv (w : World) (sv mv : Value) (n m : Nat) (k sh fl ag : Int) (wr : World) : Prop :=
  Touch (fun b => sv.ownBlock = some b ∨ mv.ownBlock = some b) w wr ∧ OwnN wr sv n ∧ OwnN wr mv m ∧ wr.heap[w.heap.size]? = some (cellO k sh fl ag sv mv)

theorem TouchedInv.set {w : World} {sv mv : Value} {n m : Nat} {k sh fl ag : Int} {wr : World} (h : TouchedInv w sv mv n m k sh fl ag wr) {g : Nat} (hg : sv.ownBlock = some g ∨ mv.ownBlock = some g) (hlt : g < w.heap.size) (j : Nat) (u : Value) : TouchedInv w sv mv n m k sh fl ag (wr.setCell ⟨g, j, none⟩ u) :=
  ⟨h.1.set (p := ⟨g, j, none⟩) (.inl hg) _, h.2.1.set _ _ _, h.2.2.1.set _ _ _, by rw [heap_setCell_other _ _ _ _ (by show w.heap.size ≠ g; omega)]; exact h.2.2.2⟩
theorem TouchedInv_start {w : World} {sv mv : Value} {n m : Nat} {k sh fl ag : Int} (h1 : OwnN w sv n) (h2 : OwnN w mv m) : TouchedInv w sv mv n m k sh fl ag (w.alloc (cellO k sh fl ag sv mv)) :=
  ⟨(Touch.refl _ _).alloc _, h1.touch (F := fun _ => False) ((Touch.refl _ _).alloc _) fun _ _ h => h, h2.touch (F := fun _ => False) ((Touch.refl _ _).alloc _) fun _ _ h => h, heap_alloc_new _ _⟩
theorem OwnN.lt {w : World} {v : Value} {n : Nat} (h : OwnN w v n) {g : Nat} (hg : v.ownBlock = some g) : g < w.heap.size := by
  obtain ⟨xs, h⟩ := h
  exact (h.lt g hg).2

set_option maxRecDepth 100000 in
set_option maxHeartbeats 1000000 in
theorem touched_any (sv mv : Value) (k sh fl ag : Int) (n m : Nat) (w : World) (h1 : OwnN w sv n) (h2 : OwnN w mv m) :
    Calls Try.prog 24 #[cellV k sh fl ag sv mv] w fun e w' => e = .returned (.tuple #[]) ∧ Touch (fun b => sv.ownBlock = some b ∨ mv.ownBlock = some b) w w' := by
  obtain ⟨A, ca, rfl, hca, hma⟩ := h1.form
  obtain ⟨B, cb, rfl, hcb, hmb⟩ := h2.form
  have M1 := Lib.hid hma
  have M2 := Lib.hid hmb
  unfold maxLen at hma hmb
  have H1 := Lib.hid h1
  have H2 := Lib.hid h2
  clear h1 h2
  go_enter Try.func24, Try.ntmps24
  go_wp2
  go_loopw [7] (fun i wr => ∃ r : Nat, r ≤ n ∧ i = .int .i64 r ∧ TouchedInv w (.slice A n ca) (.slice B m cb) n m k sh fl ag wr) (fun i _ => n - (intOf i).toNat)
  case atStart => exact ⟨0, by omega, rfl, TouchedInv_start H1.out H2.out⟩
  case round =>
    obtain ⟨r, hr, rfl, inv⟩ := hrel
    obtain ⟨⟨a0, a1, a2, a3, a4, a5⟩, _⟩ := cells6 inv.2.2.2
    have INV := Lib.hid inv
    by_cases hlt : r < n
    · obtain ⟨g, o, cap', e, _, _, ho, hob, hgl, hc⟩ := inv.2.1.at_ (by omega)
      simp only [Value.slice.injEq, true_and] at e
      obtain ⟨rfl, rfl⟩ := e
      have hg : g < w.heap.size := H1.out.lt hob
      obtain ⟨⟨u0, c0⟩, f0⟩ := hc r hlt 0 (by omega)
      obtain ⟨⟨u1, c1⟩, f1⟩ := hc r hlt 1 (by omega)
      obtain ⟨⟨u2, c2⟩, f2⟩ := hc r hlt 2 (by omega)
      rw [Nat.add_zero] at c0 f0
      have OB := Lib.hid hob
      have GL := Lib.hid hg
      clear inv hc ho hob hgl hg
      go_wp2
      go_roundw
      case rel => exact ⟨r + 1, by omega, by go_num, ((INV.out.set (.inl OB.out) GL.out _ _).set (.inl OB.out) GL.out _ _).set (.inl OB.out) GL.out _ _⟩
      case measure => simp [intOf]; omega
    · clear inv
      go_wp2
      go_loopw [19] (fun i wr => ∃ r : Nat, r ≤ m ∧ i = .int .i64 r ∧ TouchedInv w (.slice A n ca) (.slice B m cb) n m k sh fl ag wr) (fun i _ => m - (intOf i).toNat)
      case atStart => exact ⟨0, by omega, rfl, INV.out⟩
      case round =>
        obtain ⟨r, hr, rfl, inv⟩ := hrel
        obtain ⟨⟨a0, a1, a2, a3, a4, a5⟩, _⟩ := cells6 inv.2.2.2
        have INV := Lib.hid inv
        by_cases hlt : r < m
        · obtain ⟨g, o, cap', e, _, _, ho, hob, hgl, hc⟩ := inv.2.2.1.at_ (by omega)
          simp only [Value.slice.injEq, true_and] at e
          obtain ⟨rfl, rfl⟩ := e
          have hg : g < w.heap.size := H2.out.lt hob
          obtain ⟨⟨u0, c0⟩, f0⟩ := hc r hlt 0 (by omega)
          obtain ⟨⟨u1, c1⟩, f1⟩ := hc r hlt 1 (by omega)
          obtain ⟨⟨u2, c2⟩, f2⟩ := hc r hlt 2 (by omega)
          rw [Nat.add_zero] at c0 f0
          have OB := Lib.hid hob
          have GL := Lib.hid hg
          clear inv hc ho hob hgl hg
          go_wp2
          go_roundw
          case rel => exact ⟨r + 1, by omega, by go_num, ((INV.out.set (.inr OB.out) GL.out _ _).set (.inr OB.out) GL.out _ _).set (.inr OB.out) GL.out _ _⟩
          case measure => simp [intOf]; omega
        · clear inv
          go_wp2
          go_end0
          exact ⟨rfl, INV.out.1⟩
end Go.Proofs.Ytgajmhklinolmaa
