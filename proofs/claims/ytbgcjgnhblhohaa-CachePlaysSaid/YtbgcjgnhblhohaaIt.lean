/- Ranges over functions: what the loop's own steps leave alone. -/
import Derived.Test.YtbgcjgnhblhohaaOwn
import Derived.RangeFuncNested
import Derived.RangeFuncBound
import Derived.RangeFuncCalls
import Derived.RangeFuncLeaves
import Derived.Shelf.Abstract
import Derived.Shelf.RegionOpen
import Derived.OwnWalkIn
import Derived.TacticsInMore
import Derived.LoopNIn
import Derived.LoopIn
namespace Go.Proofs.Ytbgcjgnhblhohaa
set_option linter.all false
open Go.RowKit Go.Sort Go.Deep Go.Shelf

/-- From W to W' blocks are laid, and one block that is no cells and lies not below B may turn. -/
def Soft (B : Nat) (W W' : World) : Prop := ∃ row, W.grownBy W' row ∧ ∀ r, row = some r → B ≤ r ∧ ∃ o : Obj, W.heap[r]? = some o ∧ o.isCells = false
theorem ownFrom_of {β : Type} {B : Nat} {I : β → World → Prop} (h : ∀ s W W', I s W → Soft B W W' → I s W') : OwnFrom B I := fun s W W' row hs hg hr => h s W W' hs ⟨row, hg, hr⟩
theorem Soft.size {B : Nat} {W W' : World} (h : Soft B W W') : W.heap.size ≤ W'.heap.size := by
  obtain ⟨row, hg, _⟩ := h
  exact hg.size
theorem Soft.heap {B : Nat} {W W' : World} (h : Soft B W W') {b : Nat} {cs : Array Value} {t : TypeId} (hb : W.heap[b]? = some (.cells cs t)) : W'.heap[b]? = some (.cells cs t) := by
  obtain ⟨row, hg, hr⟩ := h
  refine (hg.block b (Array.getElem?_eq_some_iff.1 hb).1 fun e => ?_).trans hb
  obtain ⟨_, o, ho, hc⟩ := hr b e.symm
  rw [hb] at ho
  cases ho
  cases hc
theorem Soft.belowW {B : Nat} {W W' : World} (h : Soft B W W') {n : Nat} (hn : n ≤ B) (hW : n ≤ W.heap.size) : Below n W W' := by
  obtain ⟨row, hg, hr⟩ := h
  exact ⟨hg.os, hg.tape, hg.output, hg.size, fun k hk => hg.block k (by omega) fun e => by have := (hr k e.symm).1; omega⟩
theorem Soft.below {B : Nat} {W W' w : World} (h : Soft B W W') {n : Nat} (hn : n ≤ B) (hb : Below n w W) (hw : n ≤ w.heap.size) : Below n w W' := hb.trans (h.belowW hn (Nat.le_trans hw hb.size))
theorem Soft.owns {B : Nat} {W W' : World} (h : Soft B W W') {base : Nat} {e : TypeId} {size : Nat} {v : Value} {n : Nat} {xs : List Value} (ho : W.ownsRow base e size v n xs) : W'.ownsRow base e size v n xs := by
  rcases ho with ⟨hl, h0 | ⟨g, cap, cur, e, hb, hg, hc, hm, hs, ht⟩⟩
  · exact ⟨hl, .inl h0⟩
  · exact ⟨hl, .inr ⟨g, cap, cur, e, hb, h.heap hg, hc, hm, hs, ht⟩⟩

/-! the end of a function that holds such a loop -/
section
variable {P : Program} {fn : Func} {R : Ending → World → Prop} {a : Act} {w : World} {v : Value} {n : Nat}
theorem marks_ret0 (hr : (results fn a.tmps).run P w = .ok v w) (hd : a.defers = []) (hR : R (.returned v) w) : bodyPostM Fence.wide n P fn R .ret a w := by
  show LeavesInM Fence.wide n P fn a.tmps R a.defers .returning w
  rw [hd]
  exact ⟨v, hr, hR⟩
theorem marks_end0 (hr : (results fn a.tmps).run P w = .ok v w) (hd : a.defers = []) (hR : R (.returned v) w) : bodyPostM Fence.wide n P fn R .normal a w := by
  show LeavesInM Fence.wide n P fn a.tmps R a.defers .returning w
  rw [hd]
  exact ⟨v, hr, hR⟩
theorem marks_ret1 {D : Nat} (hk : w.heap[D]? = some (.deferred (some []))) (hr : (results fn a.tmps).run P (w.putObj D (.deferred none)) = .ok v (w.putObj D (.deferred none))) (hd : a.defers = [{ target := .collected D, args := #[] }])
    (hR : R (.returned v) (w.putObj D (.deferred none))) : bodyPostM Fence.wide n P fn R .ret a w := by
  show LeavesInM Fence.wide n P fn a.tmps R a.defers .returning w
  rw [hd]
  exact ⟨by simp, .inl ⟨D, _, rfl, run_takeDeferred hk, v, hr, hR⟩⟩
theorem marks_end1 {D : Nat} (hk : w.heap[D]? = some (.deferred (some []))) (hr : (results fn a.tmps).run P (w.putObj D (.deferred none)) = .ok v (w.putObj D (.deferred none))) (hd : a.defers = [{ target := .collected D, args := #[] }])
    (hR : R (.returned v) (w.putObj D (.deferred none))) : bodyPostM Fence.wide n P fn R .normal a w := by
  show LeavesInM Fence.wide n P fn a.tmps R a.defers .returning w
  rw [hd]
  exact ⟨by simp, .inl ⟨D, _, rfl, run_takeDeferred hk, v, hr, hR⟩⟩
end
theorem keeps_touch {F : Nat → Prop} {B : Nat} {W W' : World} (h : Touch F W W') (hF : ∀ b, F b → ∃ cs t, W.heap[b]? = some (.cells cs t)) : KeepsFrom B W W' :=
  ⟨h.size, fun k o _ hk ho => (h.block k (Array.getElem?_eq_some_iff.1 hk).1 fun e => by
    obtain ⟨cs, t, hc⟩ := hF k e
    rw [hk] at hc
    cases hc
    cases ho).trans hk⟩
theorem owns_cells {w : World} {base : Nat} {e : TypeId} {size : Nat} {v : Value} {n : Nat} {xs : List Value} (h : w.ownsRow base e size v n xs) {b : Nat} (hb : v.ownBlock = some b) : ∃ cs t, w.heap[b]? = some (.cells cs t) := by
  rcases h.2 with ⟨rfl, h0⟩ | ⟨g, cap, cur, rfl, _, hg, _⟩
  · simp [Value.ownBlock] at hb
  · simp only [Value.ownBlock, Option.some.injEq] at hb
    subst hb
    exact ⟨_, _, hg⟩
theorem touch_grown {W W' : World} {row : Option Nat} (h : W.grownBy W' row) : Touch (fun b => row = some b) W W' := ⟨h.os, h.tape, h.output, h.size, fun k hk hn => h.block k hk fun e => hn e.symm⟩
theorem heap4 (w : World) (a b c d : Obj) : ((((w.alloc a).alloc b).alloc c).alloc d).heap[w.heap.size]? = some a ∧ ((((w.alloc a).alloc b).alloc c).alloc d).heap[w.heap.size + 1]? = some b ∧ ((((w.alloc a).alloc b).alloc c).alloc d).heap[w.heap.size + 1 + 1]? = some c ∧
    ((((w.alloc a).alloc b).alloc c).alloc d).heap[w.heap.size + 1 + 1 + 1]? = some d ∧ ((((w.alloc a).alloc b).alloc c).alloc d).heap.size = w.heap.size + 4 ∧ Below w.heap.size w ((((w.alloc a).alloc b).alloc c).alloc d) :=
  ⟨hp_0 w a b c d, hp_1 w a b c d, hp_2 w a b c d, hp_3 w a b c d, by simp, bl_al (bl_al (bl_al (bl_al (Below.refl _ _) _) _) _) _⟩
theorem Touch.put (W : World) (D : Nat) (o : Obj) : Touch (fun b => b = D) W (W.putObj D o) := ⟨rfl, rfl, rfl, by simp, fun k _ hk => World.putObj_heap_other hk⟩
/-- what a round that goes on keeps: what lies below n, and block b -/
def KpB (n b : Nat) (W W' : World) : Prop := Below n W W' ∧ W'.heap[b]? = W.heap[b]?
theorem KpB.refl (n b : Nat) (W : World) : KpB n b W W := ⟨Below.refl _ _, rfl⟩
theorem KpB.trans {n b : Nat} {X Y Z : World} (h : KpB n b X Y) (k : KpB n b Y Z) : KpB n b X Z := ⟨h.1.trans k.1, k.2.trans h.2⟩
theorem KpB.alloc {n b : Nat} {W : World} (hn : n ≤ W.heap.size) (hb : b < W.heap.size) (o : Obj) : KpB n b W (W.alloc o) := ⟨(Below.refl _ _).alloc hn _, heap_alloc_old _ _ hb⟩
theorem KpB.put {n b : Nat} {w : World} (hn : n ≤ w.heap.size) (hb : b < w.heap.size) (W : World) (l : Nat) (o o' : Obj) (hl : w.heap.size ≤ l) (h : W.heap[l]? = some o) (h1 : o.isCells = false) (h2 : o.isWalk = false) : KpB n b W (W.putObj l o') :=
  ⟨belowK_b hn W l o o' hl h h1 h2, World.putObj_heap_other (by omega)⟩
theorem KpB.touch {F : Nat → Prop} {n b : Nat} {W W' : World} (h : Touch F W W') (hn : n ≤ W.heap.size) (hF : ∀ k, F k → n ≤ k ∧ k ≠ b) (hb : b < W.heap.size) : KpB n b W W' :=
  ⟨h.below hn fun k hk => (hF k hk).1, h.block b hb fun e => (hF b e).2 rfl⟩
theorem cells1 {w : World} {b : Nat} {T : TypeId} {x : Value} (h : w.heap[b]? = some (.cells #[x] T)) : w.cell? ⟨b, 0, none⟩ = some x ∧ w.frozen? ⟨b, 0, none⟩ = false :=
  ⟨by rw [cell_of_row w b _ _ _ _ h]; rfl, frozen_of_row w b _ _ _ h⟩
theorem cells3 {w : World} {b : Nat} {T : TypeId} {x y z : Value} (h : w.heap[b]? = some (.cells #[x, y, z] T)) : w.cell? ⟨b, 0, none⟩ = some x ∧ w.cell? ⟨b, 1, none⟩ = some y ∧ w.cell? ⟨b, 2, none⟩ = some z :=
  ⟨by rw [cell_of_row w b _ _ _ _ h]; rfl, by rw [cell_of_row w b _ _ _ _ h]; rfl, by rw [cell_of_row w b _ _ _ _ h]; rfl⟩
theorem bl_gr' {n : Nat} {w W : World} (h : Below n w W) (p : Regrown) (hn : n ≤ w.heap.size := by exact Nat.le_refl _) : Below n w (gr W p) := h.trans ((below_gr W p).mono (Nat.le_trans hn h.size))
theorem below_put {B : Nat} {w W : World} {D : Nat} (h : Below B w W) (hD : B ≤ D) (o : Obj) : Below B w (W.putObj D o) :=
  ⟨h.os, h.tape, h.output, by simpa using h.size, fun k hk => (World.putObj_heap_other (by omega)).trans (h.block k hk)⟩
theorem heap_put {W : World} {D b : Nat} (o : Obj) (h : b ≠ D) : (W.putObj D o).heap[b]? = W.heap[b]? := World.putObj_heap_other h
theorem calls_wide {P : Program} {f : FuncId} {args : Array Value} {W : World} {R : Ending → World → Prop} {n : Nat} (l : Nat) (h : Calls P f args W R) : CallsIn (Fence.wide.inRound l) n P f args W R := CallsIn.inRound l (callsIn_wide.2 h)
end Go.Proofs.Ytbgcjgnhblhohaa
