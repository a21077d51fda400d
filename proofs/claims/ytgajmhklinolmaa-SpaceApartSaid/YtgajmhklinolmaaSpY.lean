/- touched again: what it leaves of every block. -/
import Derived.Test.YtgajmhklinolmaaSpX
namespace Go.Proofs.Ytgajmhklinolmaa
set_option linter.all false
open Go.RowKit Go.Sort Go.Deep

/-- every row of w is still a row of that length and type -/
def Kept (w w' : World) : Prop := ∀ (k : Nat) (cur : Array Value) (t : TypeId), w.heap[k]? = some (Obj.cells cur t (0, 0)) → ∃ cur' : Array Value, w'.heap[k]? = some (Obj.cells cur' t (0, 0)) ∧ cur'.size = cur.size
theorem Kept.alloc (w : World) (o : Obj) : Kept w (w.alloc o) := fun k cur t h => ⟨cur, (heap_alloc_old _ _ (Array.getElem?_eq_some_iff.1 h).1).trans h, rfl⟩
theorem Kept.set {w w' : World} (h : Kept w w') (b j : Nat) (u : Value) : Kept w (w'.setCell ⟨b, j, none⟩ u) := fun k cur t hk => by
  obtain ⟨cur', h1, h2⟩ := h k cur t hk
  by_cases e : k = b
  · subst e
    refine ⟨_, heap_setCell_same w' k j cur' t u h1, ?_⟩
    simp [h2]
  · exact ⟨cur', (heap_setCell_other w' ⟨b, j, none⟩ k u e).trans h1, h2⟩
theorem Kept.trans {a b c : World} (h : Kept a b) (k : Kept b c) : Kept a c := fun i cur t hi => by
  obtain ⟨c1, h1, h2⟩ := h i cur t hi
  obtain ⟨c2, h3, h4⟩ := k i c1 t h1
  exact ⟨c2, h3, h4.trans h2⟩
theorem OwnN.kept {w w' : World} {v : Value} {n : Nat} (h : OwnN w v n) (hk : Kept w w') : OwnN w' v n := by
  obtain ⟨xs, h1, h2⟩ := h
  rcases h2 with h0 | ⟨g, cap, cur, rfl, hb, hg, hc, hm, hs, ht⟩
  · exact ⟨xs, h1, .inl h0⟩
  · obtain ⟨cur', e1, e2⟩ := hk g cur _ hg
    exact ⟨cur'.toList.take (n * 3), by simp [e2, hs]; omega, .inr ⟨g, cap, cur', rfl, hb, e1, hc, hm, e2.trans hs, rfl⟩⟩
/-- what holds throughout -/
def TouchedIn2 (w : World) (sv mv : Value) (n m : Nat) (k sh fl ag : Int) (wr : World) : Prop :=
  Touch (fun b => sv.ownBlock = some b ∨ mv.ownBlock = some b) w wr ∧ OwnN wr sv n ∧ OwnN wr mv m ∧ wr.heap[w.heap.size]? = some (cellO k sh fl ag sv mv) ∧ Kept w wr

theorem TouchedIn2.set {w : World} {sv mv : Value} {n m : Nat} {k sh fl ag : Int} {wr : World} (h : TouchedIn2 w sv mv n m k sh fl ag wr) {g : Nat} (hg : sv.ownBlock = some g ∨ mv.ownBlock = some g) (hlt : g < w.heap.size) (j : Nat) (u : Value) : TouchedIn2 w sv mv n m k sh fl ag (wr.setCell ⟨g, j, none⟩ u) :=
  ⟨h.1.set (p := ⟨g, j, none⟩) (.inl hg) _, h.2.1.set _ _ _, h.2.2.1.set _ _ _, by rw [heap_setCell_other _ _ _ _ (by show w.heap.size ≠ g; omega)]; exact h.2.2.2.1, h.2.2.2.2.set _ _ _⟩
theorem TouchedIn2_start {w : World} {sv mv : Value} {n m : Nat} {k sh fl ag : Int} (h1 : OwnN w sv n) (h2 : OwnN w mv m) : TouchedIn2 w sv mv n m k sh fl ag (w.alloc (cellO k sh fl ag sv mv)) :=
  ⟨(Touch.refl _ _).alloc _, h1.touch (F := fun _ => False) ((Touch.refl _ _).alloc _) fun _ _ h => h, h2.touch (F := fun _ => False) ((Touch.refl _ _).alloc _) fun _ _ h => h, heap_alloc_new _ _, Kept.alloc _ _⟩
set_option maxRecDepth 100000 in
set_option maxHeartbeats 1000000 in
theorem touched_two (sv mv : Value) (k sh fl ag : Int) (n m : Nat) (w : World) (h1 : OwnN w sv n) (h2 : OwnN w mv m) :
    Calls Try.prog 24 #[cellV k sh fl ag sv mv] w fun e w' => e = .returned (.tuple #[]) ∧ Touch (fun b => sv.ownBlock = some b ∨ mv.ownBlock = some b) w w' ∧ Kept w w' := by
  obtain ⟨A, ca, rfl, hca, hma⟩ := h1.form
  obtain ⟨B, cb, rfl, hcb, hmb⟩ := h2.form
  have M1 := Lib.hid hma
  have M2 := Lib.hid hmb
  unfold maxLen at hma hmb
  have H1 := Lib.hid h1
  have H2 := Lib.hid h2
  clear h1 h2
  go_enter Try.func24, Try.ntmps24
  go_wp2
  go_loopw [7] (fun i wr => ∃ r : Nat, r ≤ n ∧ i = .int .i64 r ∧ TouchedIn2 w (.slice A n ca) (.slice B m cb) n m k sh fl ag wr) (fun i _ => n - (intOf i).toNat)
  case atStart => exact ⟨0, by omega, rfl, TouchedIn2_start H1.out H2.out⟩
  case round =>
    obtain ⟨r, hr, rfl, inv⟩ := hrel
    obtain ⟨⟨a0, a1, a2, a3, a4, a5⟩, _⟩ := cells6 inv.2.2.2.1
    have INV := Lib.hid inv
    by_cases hlt : r < n
    · obtain ⟨g, o, cap', e, _, _, ho, hob, hgl, hc⟩ := inv.2.1.at_ (by omega)
      simp only [Value.slice.injEq, true_and] at e
      obtain ⟨rfl, rfl⟩ := e
      have hg : g < w.heap.size := H1.out.lt hob
      obtain ⟨⟨u0, c0⟩, f0⟩ := hc r hlt 0 (by omega)
      obtain ⟨⟨u1, c1⟩, f1⟩ := hc r hlt 1 (by omega)
      obtain ⟨⟨u2, c2⟩, f2⟩ := hc r hlt 2 (by omega)
      rw [Nat.add_zero] at c0 f0
      have OB := Lib.hid hob
      have GL := Lib.hid hg
      clear inv hc ho hob hgl hg
      go_wp2
      go_roundw
      case rel => exact ⟨r + 1, by omega, by go_num, ((INV.out.set (.inl OB.out) GL.out _ _).set (.inl OB.out) GL.out _ _).set (.inl OB.out) GL.out _ _⟩
      case measure => simp [intOf]; omega
    · clear inv
      go_wp2
      go_loopw [19] (fun i wr => ∃ r : Nat, r ≤ m ∧ i = .int .i64 r ∧ TouchedIn2 w (.slice A n ca) (.slice B m cb) n m k sh fl ag wr) (fun i _ => m - (intOf i).toNat)
      case atStart => exact ⟨0, by omega, rfl, INV.out⟩
      case round =>
        obtain ⟨r, hr, rfl, inv⟩ := hrel
        obtain ⟨⟨a0, a1, a2, a3, a4, a5⟩, _⟩ := cells6 inv.2.2.2.1
        have INV := Lib.hid inv
        by_cases hlt : r < m
        · obtain ⟨g, o, cap', e, _, _, ho, hob, hgl, hc⟩ := inv.2.2.1.at_ (by omega)
          simp only [Value.slice.injEq, true_and] at e
          obtain ⟨rfl, rfl⟩ := e
          have hg : g < w.heap.size := H2.out.lt hob
          obtain ⟨⟨u0, c0⟩, f0⟩ := hc r hlt 0 (by omega)
          obtain ⟨⟨u1, c1⟩, f1⟩ := hc r hlt 1 (by omega)
          obtain ⟨⟨u2, c2⟩, f2⟩ := hc r hlt 2 (by omega)
          rw [Nat.add_zero] at c0 f0
          have OB := Lib.hid hob
          have GL := Lib.hid hg
          clear inv hc ho hob hgl hg
          go_wp2
          go_roundw
          case rel => exact ⟨r + 1, by omega, by go_num, ((INV.out.set (.inr OB.out) GL.out _ _).set (.inr OB.out) GL.out _ _).set (.inr OB.out) GL.out _ _⟩
          case measure => simp [intOf]; omega
        · clear inv
          go_wp2
          go_end0
          exact ⟨rfl, INV.out.1, INV.out.2.2.2.2⟩
end Go.Proofs.Ytgajmhklinolmaa
