/- What prop does to the maker; its boxes. -/
import Derived.Test.YtiagegecnopfgaaDoorPaK
namespace Go.Proofs.YtiagegecnopfgaaDoor
set_option linter.all false
open Go.ChangeShapes Go.WideShapes Go.ChangeAt Go.RowKit Go.Sort Go.Deep
variable {E : Nat → Prop}

/-- a property: the maker behind it, the key's register, and whether it has one -/
def prM (p : Tree) (r : Int) (rm : Bool) (x : Mk) : Mk × Int × Bool :=
  if p.op = 62 ∧ p.kids.length = 2 then
    if p.m = 1 then (apP p (x.g + 1) ((x.next.lay ⟨11, x.g, 0, bs0, p.kids.getD 0 default, []⟩).next.lay ⟨2, x.g + 1, r, bs0, Tree.z, [x.g]⟩), x.g, true)
    else if keyOk (p.kids.getD 0 default) then
      if rm then (apP p (x.g + 1) ((x.next.lay ⟨11, x.g, 0, keyS (p.kids.getD 0 default), Tree.z, []⟩).next.lay ⟨2, x.g + 1, r, bs0, Tree.z, [x.g]⟩), x.g, true)
      else (apP p x.g (x.next.lay ⟨2, x.g, r, keyS (p.kids.getD 0 default), Tree.z, []⟩), 0, false)
    else (x.bad, 0, false)
  else (x.bad, 0, false)
theorem obT_prop (rm : Bool) (t : Tree) (l : List Tree) (r : Int) (ks : List Int) (x : Mk) (h : ¬ t.op = 64) : obT rm (t :: l) r ks x = obT rm l r (if (prM t r rm x).2.2 then ks ++ [(prM t r rm x).2.1] else ks) (prM t r rm x).1 := by
  rw [obT, if_neg h]
  unfold prM
  split
  · split
    · rfl
    · split
      · split
        · rename_i h1
          subst h1
          rfl
        · rename_i h1
          simp at h1
          subst h1
          rfl
      · rfl
  · rfl
/-- prop's state: its boxes, the maker -/
structure PrS (E : Nat → Prop) (lo B : Nat) (X : World) (x : Mk) (p : Tree) (K : Value) (rk : StepR) (V : World) : Prop where
  bp : Bx B V X.heap.size (nodeO p K)
  bk : Bx B V (X.heap.size + 1) (stepO rk)
  hk : HoldsS E lo V rk
  ap : ApS E lo B x V
  kp : KpM lo B X V
theorem PrS.below {lo B : Nat} {X V W : World} {x : Mk} {p : Tree} {K : Value} {rk : StepR} (h : PrS E lo B X x p K rk V) (hb : Below V.heap.size V W) : PrS E lo B X x p K rk W :=
  ⟨h.bp.below hb h.ap.st.lt, h.bk.below hb h.ap.st.lt, h.hk.kp (KpM.of_below (lo := lo) hb h.ap.st.lt) h.ap.st.rowT, h.ap.below hb, h.kp.trans (KpM.of_below hb h.ap.st.lt)⟩
theorem PrS.step {lo B : Nat} {X V W : World} {x y : Mk} {p : Tree} {K : Value} {rk : StepR} (h : PrS E lo B X x p K rk V) (k : KpM lo B V W) (hm : MkS E lo B y W) : PrS E lo B X y p K rk W :=
  ⟨h.bp.kp k, h.bk.kp k, h.hk.kp k h.ap.st.rowT, h.ap.kp k hm, h.kp.trans k⟩
/-- .. with the member's box -/
structure PrT (E : Nat → Prop) (lo B : Nat) (X : World) (x : Mk) (p : Tree) (K : Value) (rk : StepR) (c : Nat) (rm : StepR) (V : World) : Prop extends PrS E lo B X x p K rk V where
  bm : Bx B V c (stepO rm)
  hm : HoldsS E lo V rm
  nm : X.heap.size + 1 < c
theorem PrT.step {lo B b : Nat} {X V W : World} {x y : Mk} {p : Tree} {K : Value} {rk rm : StepR} (h : PrT E lo B X x p K rk b rm V) (k : KpM lo B V W) (hy : MkS E lo B y W) : PrT E lo B X y p K rk b rm W :=
  ⟨h.toPrS.step k hy, h.bm.kp k, h.hm.kp k h.ap.st.rowT, h.nm⟩
theorem PrT.below {lo B b : Nat} {X V W : World} {x : Mk} {p : Tree} {K : Value} {rk rm : StepR} (h : PrT E lo B X x p K rk b rm V) (hb : Below V.heap.size V W) : PrT E lo B X x p K rk b rm W :=
  ⟨h.toPrS.below hb, h.bm.below hb h.ap.st.lt, h.hm.kp (KpM.of_below (lo := lo) hb h.ap.st.lt) h.ap.st.rowT, h.nm⟩
/-- the boxes at the start -/
theorem PrS.start {lo B : Nat} {X : World} {x : Mk} {p : Tree} {K : Value} {rk : StepR} (h : ApS E lo B x X) (hr : ∀ V, HoldsS E lo V rk) : PrS E lo B X x p K rk ((X.alloc (nodeO p K)).alloc (stepO rk)) := by
  have hR := h.st.rowT
  have b1 : Below X.heap.size X (X.alloc (nodeO p K)) := bl_al (Below.refl _ _) _
  have a1 := h.below b1
  have x1 := (Bx.new (nodeO p K) hR)
  have b2 : Below (X.alloc (nodeO p K)).heap.size (X.alloc (nodeO p K)) ((X.alloc (nodeO p K)).alloc (stepO rk)) := bl_al (Below.refl _ _) _
  have x2 := Bx.new (stepO rk) a1.st.rowT
  have e : (X.alloc (nodeO p K)).heap.size = X.heap.size + 1 := by simp
  rw [e] at x2
  exact ⟨x1.below b2 a1.st.lt, x2, hr _, a1.below b2, KpM.of_below (b1.trans (below_lo b2 b1.size)) h.st.lt⟩
/-- the member's box -/
theorem PrT.start {lo B : Nat} {X V : World} {x : Mk} {p : Tree} {K : Value} {rk rm : StepR} (h : PrS E lo B X x p K rk V) (hr : ∀ W, HoldsS E lo W rm) : PrT E lo B X x p K rk V.heap.size rm (V.alloc (stepO rm)) :=
  ⟨h.below (bl_al (Below.refl _ _) _), Bx.new (stepO rm) h.ap.st.rowT, hr _, h.bk.lt⟩
/-- a number stored into the member's register -/
theorem PrT.reg {lo B b : Nat} {X V : World} {x : Mk} {p : Tree} {K : Value} {rk rm : StepR} (h : PrT E lo B X x p K rk b rm V) (hl : lo ≤ X.heap.size) (g : Int) : PrT E lo B X x p K rk b ⟨⟨rm.d.k, g, rm.d.f, rm.d.s, rm.d.nd, rm.d.ks⟩, rm.A1, rm.c1, rm.A2, rm.c2⟩ (V.setCell ⟨b, 1, none⟩ (.int .i64 g)) := by
  have n1 := h.nm
  have hs : HoldsS E lo (V.setCell ⟨b, 1, none⟩ (.int .i64 g)) rm := h.hm.box h.bm.1
  exact ⟨⟨h.bp.other (by omega) h.bm.2.1, h.bk.other (by omega) h.bm.2.1, h.hk.box h.bm.1, h.ap.box h.bm (by omega), h.kp.box (by omega) h.bm.2.1⟩, h.bm.same, hs, h.nm⟩
/-- a number stored into the key's register -/
theorem PrT.regk {lo B b : Nat} {X V : World} {x : Mk} {p : Tree} {K : Value} {rk rm : StepR} (h : PrT E lo B X x p K rk b rm V) (hl : lo ≤ X.heap.size) (g : Int) : PrT E lo B X x p K ⟨⟨rk.d.k, g, rk.d.f, rk.d.s, rk.d.nd, rk.d.ks⟩, rk.A1, rk.c1, rk.A2, rk.c2⟩ b rm (V.setCell ⟨X.heap.size + 1, 1, none⟩ (.int .i64 g)) := by
  have n1 := h.nm
  have hs : HoldsS E lo (V.setCell ⟨X.heap.size + 1, 1, none⟩ (.int .i64 g)) rk := h.hk.box h.bk.1
  exact ⟨⟨h.bp.other (by omega) h.bk.2.1, h.bk.same, hs, h.ap.box h.bk (by omega), h.kp.box (by omega) h.bk.2.1⟩, h.bm.other (by omega) h.bk.2.1, h.hm.box h.bk.1, h.nm⟩
/-- a copied node stored into the key's box -/
theorem PrS.node {lo B : Nat} {X W : World} {x : Mk} {p d : Tree} {K : Value} {A4 : Option Addr} {c4 : Nat} (h : PrS E lo B X x p K (plR 11 0 0 bs0) W) (hl : lo ≤ X.heap.size) (hc : IsNd (FrN lo W) W (.slice A4 d.kids.length c4) d.kids) :
    PrS E lo B X x p K ⟨⟨11, 0, 0, bs0, d, []⟩, A4, c4, none, 0⟩ ((((((W.setCell ⟨X.heap.size + 1, 4, none⟩ (.int .i64 d.op)).setCell ⟨X.heap.size + 1, 5, none⟩ (.int .i64 d.at_)).setCell ⟨X.heap.size + 1, 6, none⟩ (.int .i64 d.n)).setCell ⟨X.heap.size + 1, 7, none⟩ (.int .i64 d.m)).setCell ⟨X.heap.size + 1, 8, none⟩ (.string d.s)).setCell ⟨X.heap.size + 1, 9, none⟩ (.slice A4 d.kids.length c4)) := by
  have n0 := h.bk.2.1
  have n1 : X.heap.size + 1 ≠ X.heap.size := by omega
  have n2 : lo ≤ X.heap.size + 1 := by omega
  have n3 : X.heap.size ≤ X.heap.size + 1 := by omega
  have b1 := h.bk.same (j := 4) (u := .int .i64 d.op)
  have b2 := b1.same (j := 5) (u := .int .i64 d.at_)
  have b3 := b2.same (j := 6) (u := .int .i64 d.n)
  have b4 := b3.same (j := 7) (u := .int .i64 d.m)
  have b5 := b4.same (j := 8) (u := .string d.s)
  have b6 := b5.same (j := 9) (u := .slice A4 d.kids.length c4)
  have hT : Touch (fun k => k = X.heap.size + 1) W ((((((W.setCell ⟨X.heap.size + 1, 4, none⟩ (.int .i64 d.op)).setCell ⟨X.heap.size + 1, 5, none⟩ (.int .i64 d.at_)).setCell ⟨X.heap.size + 1, 6, none⟩ (.int .i64 d.n)).setCell ⟨X.heap.size + 1, 7, none⟩ (.int .i64 d.m)).setCell ⟨X.heap.size + 1, 8, none⟩ (.string d.s)).setCell ⟨X.heap.size + 1, 9, none⟩ (.slice A4 d.kids.length c4)) := ((((((Touch.refl _ _).set1 _ _).set1 _ _).set1 _ _).set1 _ _).set1 _ _).set1 _ _
  refine ⟨(((((h.bp.other n1 n0).other n1 n0).other n1 n0).other n1 n0).other n1 n0).other n1 n0, b6, ⟨hc.keep hT.size fun k hp hlt => ?_, IsKs.nil⟩, (((((h.ap.box h.bk n2).box b1 n2).box b2 n2).box b3 n2).box b4 n2).box b5 n2, (((((h.kp.box n3 n0).box n3 n0).box n3 n0).box n3 n0).box n3 n0).box n3 n0⟩
  have e := hT.block k hlt (fun e => by
    obtain ⟨_, cs', e2⟩ := hp
    rw [e, h.bk.1] at e2
    simp at e2)
  exact ⟨e, hp.keep e⟩
/-- the member's name struck -/
theorem PrT.setS {lo B b : Nat} {X V : World} {x : Mk} {p : Tree} {K : Value} {rk rm : StepR} (h : PrT E lo B X x p K rk b rm V) (hl : lo ≤ X.heap.size) : PrT E lo B X x p K rk b ⟨⟨rm.d.k, rm.d.r, rm.d.f, bs0, rm.d.nd, rm.d.ks⟩, rm.A1, rm.c1, rm.A2, rm.c2⟩ (V.setCell ⟨b, 3, none⟩ (.string bs0)) := by
  have n1 := h.nm
  have hs : HoldsS E lo (V.setCell ⟨b, 3, none⟩ (.string bs0)) rm := h.hm.box h.bm.1
  exact ⟨⟨h.bp.other (by omega) h.bm.2.1, h.bk.other (by omega) h.bm.2.1, h.hk.box h.bm.1, h.ap.box h.bm (by omega), h.kp.box (by omega) h.bm.2.1⟩, h.bm.same, hs, h.nm⟩
/-- .. and its key -/
theorem PrT.setK {lo B b bi : Nat} {X V : World} {x : Mk} {p : Tree} {K : Value} {rk rm : StepR} {g : Int} (h : PrT E lo B X x p K rk b rm V) (hl : lo ≤ X.heap.size) (hi : V.heap[bi]? = some (.cells #[.int .i64 g] 3)) (hb : lo ≤ bi) (hE : ¬ E bi) : PrT E lo B X x p K rk b ⟨⟨rm.d.k, rm.d.r, rm.d.f, rm.d.s, rm.d.nd, [g]⟩, rm.A1, rm.c1, some ⟨bi, 0, none⟩, 1⟩ (V.setCell ⟨b, 10, none⟩ (.slice (some ⟨bi, 0, none⟩) 1 1)) := by
  have n1 := h.nm
  have hs : HoldsS E lo (V.setCell ⟨b, 10, none⟩ (.slice (some ⟨bi, 0, none⟩) 1 1)) rm := h.hm.box h.bm.1
  have ne : bi ≠ b := fun e => by
    have := h.bm.1
    rw [← e, hi] at this
    simp at this
  have hi2 : (V.setCell ⟨b, 10, none⟩ (.slice (some ⟨bi, 0, none⟩) 1 1)).heap[bi]? = some (.cells #[.int .i64 g] 3) := (heap_setCell_other V _ _ _ (by dsimp only; exact ne)).trans hi
  refine ⟨⟨h.bp.other (by omega) h.bm.2.1, h.bk.other (by omega) h.bm.2.1, h.hk.box h.bm.1, h.ap.box h.bm (by omega), h.kp.box (by omega) h.bm.2.1⟩, h.bm.same, ⟨hs.1, ?_, ?_⟩, h.nm⟩
  · exact sl_oneE (en := intCs) (x := g) hi2 rfl
  · intro a n c e _
    simp only [Value.slice.injEq, Option.some.injEq] at e
    rw [← e.1]
    exact ⟨hb, hE, _, hi2⟩
theorem mH_alloc {P : Program} {md : Region.Mode} {ops : Array Oper} {Q : Exit → Act → World → Prop} {S : World → Prop} {f : Nat} {l : Array Bool} {a : Act} {W : World} {o : Obj} {B : Nat} (hB : B = W.heap.size)
    (h : ∀ Z, Z.heap[B]? = some o → Below W.heap.size W Z → wpAnyH P md ops Q S f l a Z) : wpAnyH P md ops Q S f l a (W.alloc o) := h _ (by rw [hB]; exact heap_alloc_new _ _) (bl_al (Below.refl _ _) _)
theorem mH_allocD {P : Program} {md : Region.Mode} {ops : Array Oper} {Q : Exit → Act → World → Prop} {S : World → Prop} {f : Nat} {l : Array Bool} {a : Act} {W : World} {o : Obj} {B : Nat} (hB : B = W.heap.size)
    (h : ∀ Z, Z.heap[B]? = some o → Below W.heap.size W Z → wpAnyH P md ops Q S f l a Z) : wpAnyH P md ops Q S f l a (W.alloc o).drew := h _ (by rw [hB]; exact heap_alloc_new _ _) (Below.drew (bl_al (Below.refl _ _) _))
end Go.Proofs.YtiagegecnopfgaaDoor
