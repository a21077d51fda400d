/- Boxes beside the maker; what a part of the pattern does to the maker. -/
import Derived.Test.YtiagegecnopfgaaDoorPaI
namespace Go.Proofs.YtiagegecnopfgaaDoor
set_option linter.all false
open Go.ChangeShapes Go.WideShapes Go.ChangeAt Go.RowKit Go.Sort Go.Deep
variable {E : Nat → Prop}

/-- a box that is neither the maker's block nor its row's -/
def Bx (B : Nat) (X : World) (b : Nat) (o : Obj) : Prop := X.heap[b]? = some o ∧ b ≠ B ∧ ¬ RowB B X b
theorem Bx.lt {B b : Nat} {X : World} {o : Obj} (h : Bx B X b o) : b < X.heap.size := (Array.getElem?_eq_some_iff.1 h.1).1
theorem Bx.kp {lo B b : Nat} {X Y : World} {o : Obj} (h : Bx B X b o) (k : KpM lo B X Y) : Bx B Y b o := ⟨(k.keepB h.lt h.2.1 h.2.2).trans h.1, h.2.1, fun hr => h.2.2 (k.2 b h.lt hr)⟩
theorem Bx.below {B b : Nat} {X Y : World} {o : Obj} (h : Bx B X b o) (hb : Below X.heap.size X Y) (hB : B < X.heap.size) : Bx B Y b o := h.kp (lo := 0) (KpM.of_below hb hB)
theorem Bx.new {lo B : Nat} {X : World} (o : Obj) (hR : RowT lo B X) : Bx B (X.alloc o) X.heap.size o := by
  obtain ⟨⟨v, g, k, hv⟩, _, hr⟩ := hR
  have hB := (Array.getElem?_eq_some_iff.1 hv).1
  refine ⟨heap_alloc_new _ _, by omega, fun ⟨v', g', k', e, hb⟩ => ?_⟩
  rw [heap_alloc_old _ _ hB] at e
  have := (hr _ ⟨v', g', k', e, hb⟩).2.1
  omega
theorem rowB_set {B b j c : Nat} {X : World} {u : Value} (hb : b ≠ B) : RowB B (X.setCell ⟨b, j, none⟩ u) c ↔ RowB B X c := by
  unfold RowB
  rw [heap_setCell_other X _ _ _ (by dsimp only; exact fun e => hb e.symm)]
/-- a store into a box -/
theorem Bx.other {B b c j : Nat} {X : World} {o : Obj} {u : Value} (h : Bx B X b o) (hc : c ≠ b) (hB : c ≠ B) : Bx B (X.setCell ⟨c, j, none⟩ u) b o :=
  ⟨(heap_setCell_other X _ _ _ (by dsimp only; exact fun e => hc e.symm)).trans h.1, h.2.1, fun hr => h.2.2 ((rowB_set hB).1 hr)⟩
theorem Bx.same {B b j : Nat} {X : World} {cs : Array Value} {T : TypeId} {u : Value} (h : Bx B X b (.cells cs T)) : Bx B (X.setCell ⟨b, j, none⟩ u) b (.cells (cs.setIfInBounds j u) T) :=
  ⟨heap_setCell_same X b j _ _ u h.1, h.2.1, fun hr => h.2.2 ((rowB_set h.2.1).1 hr)⟩
theorem KpM.box {lo B b j : Nat} {X Y : World} {u : Value} (h : KpM lo B X Y) (hn : X.heap.size ≤ b) (hB : b ≠ B) : KpM lo B X (Y.setCell ⟨b, j, none⟩ u) :=
  ⟨Touch.set (p := ⟨b, j, none⟩) h.1 (.inr hn) _, fun c hc hr => h.2 c hc ((rowB_set hB).1 hr)⟩
theorem HoldsS.box {lo b j : Nat} {X : World} {r : StepR} {cs : Array Value} {u : Value} (h : HoldsS E lo X r) (hb : X.heap[b]? = some (.cells cs 41)) : HoldsS E lo (X.setCell ⟨b, j, none⟩ u) r := by
  have hT : Touch (fun k => k = b) X (X.setCell ⟨b, j, none⟩ u) := (Touch.refl _ _).set1 _ _
  refine ⟨h.1.keep hT.size fun k hp hlt => ?_, h.2.keep hT.size fun k hp hlt => ?_⟩
  · have e := hT.block k hlt (fun e => by obtain ⟨_, cs', e2⟩ := hp; rw [e, hb] at e2; simp at e2)
    exact ⟨e, hp.keep e⟩
  · exact hT.block k hlt (fun e => by obtain ⟨_, _, cs', e2⟩ := hp; rw [e, hb] at e2; simp at e2)
/-- a store into a box of a step -/
theorem ApS.box {lo B b j : Nat} {x : Mk} {X : World} {cs : Array Value} {u : Value} (h : ApS E lo B x X) (hb : Bx B X b (.cells cs 41)) (hl : lo ≤ b) : ApS E lo B x (X.setCell ⟨b, j, none⟩ u) := by
  have hT : Touch (fun k => k = b) X (X.setCell ⟨b, j, none⟩ u) := (Touch.refl _ _).set1 _ _
  refine ⟨?_, h.tab.low fun k hk => hT.block k (Nat.lt_of_lt_of_le hk h.lo) (by omega), Nat.le_trans h.lo hT.size, fun c he => Nat.lt_of_lt_of_le (h.ex c he) hT.size⟩
  obtain ⟨h0, A, cp, rs, h1, h2, h3, h4⟩ := h.st
  exact ⟨h0, A, cp, rs, (heap_setCell_other X _ _ _ (by dsimp only; exact fun e => hb.2.1 e.symm)).trans h1, ownsRow_touch h2 hT (fun g hg e => hb.2.2 ⟨_, _, _, h1, by rw [hg, e]⟩), h3, fun r hr => (h4 r hr).box hb.1⟩
/-- what is left of the bounds -/
def Bd (x : Mk) (n : Nat) : Prop := 0 ≤ x.g ∧ x.g + 2 * n ≤ 500000 ∧ x.l.length + 4 * n ≤ 500000
def RetA (E : Nat → Prop) (lo B : Nat) (X : World) (y : Mk) (e : Ending) (Y : World) : Prop := e = .returned (.tuple #[]) ∧ MkS E lo B y Y ∧ KpM lo B X Y
/-- apart, for trees smaller than N -/
def ApC (N : Nat) : Prop := ∀ (E : Nat → Prop) (lo B : Nat) (x : Mk) (t : Tree) (A : Option Addr) (c : Nat) (r : Int) (X : World), sizeT t < N → ApS E lo B x X → IsNd (fun b => b < lo) X (.slice A t.kids.length c) t.kids → OkK [t] → Bd x (sizeT t) →
  Calls Tryd.prog 24 #[.pointer (some ⟨B, 0, none⟩), .int .i64 r, nodeV t (.slice A t.kids.length c)] X (RetA E lo B X (apT t r x))
def ObC (N : Nat) : Prop := ∀ (E : Nat → Prop) (lo B : Nat) (x : Mk) (t : Tree) (A : Option Addr) (c : Nat) (r : Int) (X : World), sizeT t < N → ApS E lo B x X → IsNd (fun b => b < lo) X (.slice A t.kids.length c) t.kids → OkK [t] → Bd x (sizeT t) →
  Calls Tryd.prog 30 #[.pointer (some ⟨B, 0, none⟩), .int .i64 r, nodeV t (.slice A t.kids.length c)] X (RetA E lo B X (obT (restK t.kids) t.kids r [] (x.lay ⟨1, 0, r, bs0, Tree.z, []⟩)))
def ArC (N : Nat) : Prop := ∀ (E : Nat → Prop) (lo B : Nat) (x : Mk) (t : Tree) (A : Option Addr) (c : Nat) (r : Int) (X : World), sizeT t < N → ApS E lo B x X → IsNd (fun b => b < lo) X (.slice A t.kids.length c) t.kids → OkK [t] → Bd x (sizeT t) →
  Calls Tryd.prog 31 #[.pointer (some ⟨B, 0, none⟩), .int .i64 r, nodeV t (.slice A t.kids.length c)] X (RetA E lo B X (arT t.kids x.g ((x.next.lay ⟨4, x.g, r, bs0, Tree.z, []⟩).lay ⟨12, 0, x.g, bs0, Tree.z, []⟩)))
/-- a step without lists -/
abbrev plR (k r f : Int) (s : ByteArray) : StepR := ⟨⟨k, r, f, s, Tree.z, []⟩, none, 0, none, 0⟩
theorem plR_holds {lo : Nat} {X : World} {k r f : Int} {s : ByteArray} : HoldsS E lo X (plR k r f s) := ⟨.mk [] .nil_ (fun a n c e => by cases e) rfl (by simp) (by simp), IsKs.nil⟩
theorem OkK.kid {t d : Tree} (h : OkK [t]) (hd : d ∈ t.kids) : OkK [d] := by
  have hk := h.kids (t := t) (by simp)
  exact .mk (fun u hu => by rw [List.mem_singleton.1 hu]; exact hk.at_ hd) (fun u hu => by rw [List.mem_singleton.1 hu]; exact hk.kids hd)
end Go.Proofs.YtiagegecnopfgaaDoor
