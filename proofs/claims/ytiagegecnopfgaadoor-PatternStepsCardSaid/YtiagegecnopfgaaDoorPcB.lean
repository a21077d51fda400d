/- The law's touched, walked: what overwriting leaves. -/
import Derived.Test.YtiagegecnopfgaaDoorPcA
namespace Go.Proofs.YtiagegecnopfgaaDoor
set_option linter.all false
open Go.ChangeShapes Go.WideShapes Go.ChangeAt Go.RowKit Go.Sort Go.Deep

/-- of the same kind: a number, a text, or unchanged -/
def KindEq (v v' : Value) : Prop := v' = v ∨ (∃ a b : Int, v = .int .i64 a ∧ v' = .int .i64 b) ∨ ∃ a b : ByteArray, v = .string a ∧ v' = .string b
theorem KindEq.trans {a b c : Value} (h : KindEq a b) (k : KindEq b c) : KindEq a c := by
  rcases h with rfl | ⟨x, y, rfl, rfl⟩ | ⟨x, y, rfl, rfl⟩
  · exact k
  · rcases k with rfl | ⟨x', y', e, rfl⟩ | ⟨x', y', e, _⟩
    · exact .inr (.inl ⟨_, _, rfl, rfl⟩)
    · exact .inr (.inl ⟨_, _, rfl, rfl⟩)
    · cases e
  · rcases k with rfl | ⟨x', y', e, _⟩ | ⟨x', y', e, rfl⟩
    · exact .inr (.inr ⟨_, _, rfl, rfl⟩)
    · cases e
    · exact .inr (.inr ⟨_, _, rfl, rfl⟩)
/-- outside of lo .. hi nothing changed; inside, cells kept their kind -/
def TK (lo hi : Nat) (X Y : World) : Prop := Touch (fun b => lo ≤ b ∧ b < hi) X Y ∧ hi ≤ X.heap.size ∧ (∀ b : Nat, lo ≤ b → b < hi → ∀ (cs : Array Value) (T : TypeId), X.heap[b]? = some (Obj.cells cs T) → ∃ cs', Y.heap[b]? = some (Obj.cells cs' T)) ∧
  ∀ (b o : Nat) (v : Value), lo ≤ b → b < hi → X.cell? ⟨b, o, none⟩ = some v → ∃ v', Y.cell? ⟨b, o, none⟩ = some v' ∧ KindEq v v'
theorem TK.of_below {lo hi : Nat} {X Y : World} (h : Below X.heap.size X Y) (hh : hi ≤ X.heap.size) : TK lo hi X Y :=
  ⟨Touch.of_below h, hh, fun b _ hb cs T e => ⟨cs, (h.block b (by omega)).trans e⟩, fun b o v _ hb e => ⟨v, (h.cell (p := ⟨b, o, none⟩) (show b < X.heap.size by omega)).trans e, .inl rfl⟩⟩
theorem TK.trans {lo hi : Nat} {X Y Z : World} (h : TK lo hi X Y) (k : TK lo hi Y Z) : TK lo hi X Z := by
  obtain ⟨h1, h2, h3, h4⟩ := h
  obtain ⟨k1, k2, k3, k4⟩ := k
  refine ⟨Touch.trans h1 k1 fun b _ hb => hb, h2, fun b hl hb cs T e => ?_, fun b o v hl hb e => ?_⟩
  · obtain ⟨cs', e'⟩ := h3 b hl hb cs T e
    exact k3 b hl hb cs' T e'
  · obtain ⟨v', e', q⟩ := h4 b o v hl hb e
    obtain ⟨v2, e2, q2⟩ := k4 b o v' hl hb e'
    exact ⟨v2, e2, q.trans q2⟩
theorem TK.size {lo hi : Nat} {X Y : World} (h : TK lo hi X Y) : X.heap.size ≤ Y.heap.size := Touch.size h.1
theorem TK.out {lo hi : Nat} {X Y : World} (h : TK lo hi X Y) {b : Nat} (hb : b < X.heap.size) (hn : ¬ (lo ≤ b ∧ b < hi)) : Y.heap[b]? = X.heap[b]? := Touch.block h.1 b hb hn
theorem cell_set (X : World) {b j : Nat} {cs : Array Value} {T : TypeId} (h : X.heap[b]? = some (Obj.cells cs T)) (v : Value) (o : Nat) : (X.setCell ⟨b, j, none⟩ v).cell? ⟨b, o, none⟩ = (cs.setIfInBounds j v)[o]? := by
  rw [cell_of_row _ b _ _ _ _ (heap_setCell_same X b j _ _ v h)]
theorem TK.set {lo hi b j : Nat} {X : World} {cs : Array Value} {T : TypeId} {v v' : Value} (hh : hi ≤ X.heap.size) (hl : lo ≤ b) (hb : b < hi) (h : X.heap[b]? = some (Obj.cells cs T)) (hv : X.cell? ⟨b, j, none⟩ = some v) (hk : KindEq v v') : TK lo hi X (X.setCell ⟨b, j, none⟩ v') := by
  have hs := heap_setCell_same X b j _ _ v' h
  have hother : ∀ b', b' ≠ b → (X.setCell ⟨b, j, none⟩ v').heap[b']? = X.heap[b']? := fun b' hne => heap_setCell_other X ⟨b, j, none⟩ b' v' hne
  refine ⟨Touch.set (p := ⟨b, j, none⟩) (Touch.refl _ _) (.inl ⟨hl, hb⟩) _, hh, fun b' _ _ cs' T' e => ?_, fun b' o u _ _ e => ?_⟩
  · by_cases hne : b' = b
    · subst hne
      rw [h] at e
      simp only [Option.some.injEq, Obj.cells.injEq] at e
      obtain ⟨rfl, rfl, -⟩ := e
      exact ⟨_, hs⟩
    · exact ⟨cs', (hother b' hne).trans e⟩
  · by_cases hne : b' = b
    · subst hne
      rw [cell_of_row X b' _ _ _ _ h] at e hv
      rw [cell_set X h]
      by_cases ho : j = o
      · subst ho
        rw [hv] at e
        cases e
        have hlt := (Array.getElem?_eq_some_iff.1 hv).1
        exact ⟨v', by simp [hlt], hk⟩
      · exact ⟨u, by rw [Array.getElem?_setIfInBounds_ne ho]; exact e, .inl rfl⟩
    · exact ⟨u, (World.cell?_of_block (a := ⟨b', o, none⟩) (hother b' hne)).trans e, .inl rfl⟩
/-- a node's cells, whatever they hold -/
def ShC (X : World) (b o : Nat) (k : Value) : Prop := (∃ a : Int, X.cell? ⟨b, o, none⟩ = some (.int .i64 a)) ∧ (∃ a : Int, X.cell? ⟨b, o + 1, none⟩ = some (.int .i64 a)) ∧ (∃ a : Int, X.cell? ⟨b, o + 2, none⟩ = some (.int .i64 a)) ∧ (∃ a : Int, X.cell? ⟨b, o + 3, none⟩ = some (.int .i64 a)) ∧ (∃ s : ByteArray, X.cell? ⟨b, o + 4, none⟩ = some (.string s)) ∧ X.cell? ⟨b, o + 5, none⟩ = some k
/-- a slice of nodes of a list's shape, its blocks within lo .. hi -/
inductive IsSh (lo hi : Nat) (X : World) : Value → List Tree → Prop
  | mk {A : Option Addr} {c : Nat} {l : List Tree} (b off : Nat) (ks : Nat → Value) (hm : l.length ≤ 9223372036854775807) (hA : 0 < l.length → A = some ⟨b, off, none⟩ ∧ (lo ≤ b ∧ b < hi) ∧ ∃ cs, X.heap[b]? = some (Obj.cells cs 24)) (hf : ∀ i, i < l.length → ∃ A' n' c', ks i = .slice A' n' c')
    (hc : ∀ i, i < l.length → ShC X b (off + i * 6) (ks i)) (hk : ∀ (i : Nat) (t : Tree), l[i]? = some t → IsSh lo hi X (ks i) t.kids) : IsSh lo hi X (.slice A l.length c) l
theorem KindEq.slice {A : Option Addr} {n c : Nat} {v : Value} (h : KindEq (.slice A n c) v) : v = .slice A n c := by
  rcases h with h | ⟨_, _, e, _⟩ | ⟨_, _, e, _⟩
  · exact h
  · cases e
  · cases e
theorem KindEq.int {a : Int} {v : Value} (h : KindEq (.int .i64 a) v) : ∃ b : Int, v = .int .i64 b := by
  rcases h with h | ⟨_, b, _, e⟩ | ⟨_, _, e, _⟩
  · exact ⟨a, h⟩
  · exact ⟨b, e⟩
  · cases e
theorem KindEq.str {a : ByteArray} {v : Value} (h : KindEq (.string a) v) : ∃ b : ByteArray, v = .string b := by
  rcases h with h | ⟨_, _, e, _⟩ | ⟨_, b, _, e⟩
  · exact ⟨a, h⟩
  · cases e
  · exact ⟨b, e⟩
theorem IsSh.tk {lo hi : Nat} {X Y : World} {v : Value} {l : List Tree} (h : IsSh lo hi X v l) (k : TK lo hi X Y) : IsSh lo hi Y v l := by
  induction h with
  | @mk A c l b off ks hm hA hf hc _ ih =>
    refine .mk b off ks hm (fun h0 => ?_) hf (fun i hi => ?_) ih
    · obtain ⟨h1, h2, cs, h3⟩ := hA h0
      exact ⟨h1, h2, k.2.2.1 b h2.1 h2.2 cs _ h3⟩
    · obtain ⟨_, h2, _⟩ := hA (by omega)
      obtain ⟨⟨a0, e0⟩, ⟨a1, e1⟩, ⟨a2, e2⟩, ⟨a3, e3⟩, ⟨a4, e4⟩, e5⟩ := hc i hi
      obtain ⟨A', n', c', e6⟩ := hf i hi
      have f := fun o v e => k.2.2.2 b o v h2.1 h2.2 e
      obtain ⟨v0, g0, q0⟩ := f _ _ e0
      obtain ⟨v1, g1, q1⟩ := f _ _ e1
      obtain ⟨v2, g2, q2⟩ := f _ _ e2
      obtain ⟨v3, g3, q3⟩ := f _ _ e3
      obtain ⟨v4, g4, q4⟩ := f _ _ e4
      obtain ⟨v5, g5, q5⟩ := f _ _ e5
      rw [e6] at q5
      obtain ⟨b0, rfl⟩ := q0.int
      obtain ⟨b1, rfl⟩ := q1.int
      obtain ⟨b2, rfl⟩ := q2.int
      obtain ⟨b3, rfl⟩ := q3.int
      obtain ⟨b4, rfl⟩ := q4.str
      rw [q5.slice, ← e6] at g5
      exact ⟨⟨b0, g0⟩, ⟨b1, g1⟩, ⟨b2, g2⟩, ⟨b3, g3⟩, ⟨b4, g4⟩, g5⟩
/-- new nodes have the shape -/
theorem IsNd.sh {lo hi : Nat} {X : World} {v : Value} {l : List Tree} (h : IsNd (FrN lo X) X v l) (hh : X.heap.size ≤ hi) : IsSh lo hi X v l := by
  induction h with
  | @mk v l rs hs hP hl hh' hk ih =>
    obtain ⟨A, c, rfl, _, hm⟩ := hs.form
    have hlen : rs.length = l.length := hl
    have hkf : ∀ (i : Nat) (x : NodeR) (t : Tree), rs[i]? = some x → l[i]? = some t → ∃ A' c', x.k = .slice A' t.kids.length c' := fun i x t hx ht => by
      obtain ⟨A', c', e, _⟩ := (hk i x t hx ht).form
      exact ⟨A', c', e⟩
    by_cases h0 : 0 < l.length
    · obtain ⟨b, off, cap, e, hc, hb, hx⟩ := hs.at_ (by omega)
      simp only [Value.slice.injEq] at e
      obtain ⟨rfl, _, rfl⟩ := e
      obtain ⟨h1, cs, h2⟩ := hP _ _ _ rfl h0
      rw [hlen]
      refine .mk b off (fun i => (rs.getD i default).k) (by unfold maxLen at hm; omega) (fun _ => ⟨rfl, ⟨h1, Nat.lt_of_lt_of_le hb hh⟩, cs, h2⟩) (fun i hi => ?_) (fun i hi => ?_) (fun i t ht => ?_)
      · have hr : rs[i]? = some rs[i] := List.getElem?_eq_getElem (by omega)
        obtain ⟨A', c', e⟩ := hkf i rs[i] l[i] hr (List.getElem?_eq_getElem hi)
        exact ⟨A', _, c', by rw [List.getD_eq_getElem?_getD, hr]; exact e⟩
      · obtain ⟨x, hr⟩ : ∃ x, rs[i]? = some x := ⟨_, List.getElem?_eq_getElem (by omega)⟩
        have f := fun j u hu => hx i x hr j u hu
        rw [List.getD_eq_getElem?_getD, hr]
        exact ⟨⟨_, f 0 _ rfl⟩, ⟨_, f 1 _ rfl⟩, ⟨_, f 2 _ rfl⟩, ⟨_, f 3 _ rfl⟩, ⟨_, f 4 _ rfl⟩, f 5 _ rfl⟩
      · have hlt := (List.getElem?_eq_some_iff.1 ht).1
        have hr : rs[i]? = some rs[i] := List.getElem?_eq_getElem (by omega)
        have := ih i rs[i] t hr ht
        rw [List.getD_eq_getElem?_getD, hr]
        exact this
    · obtain rfl : l = [] := List.eq_nil_of_length_eq_zero (by omega)
      rw [hlen]
      exact .mk 0 0 (fun _ => .nilFunc) (by simp) (fun h => by simp at h) (fun i hi => by simp at hi) (fun i hi => by simp at hi) (fun i t ht => by simp at ht)
/-- a kid -/
theorem IsSh.at_ {lo hi : Nat} {X : World} {A : Option Addr} {n c q : Nat} {l : List Tree} (h : IsSh lo hi X (.slice A n c) l) (hq : q < l.length) : n = l.length ∧ ∃ (b off : Nat) (op a' n' m : Int) (s : ByteArray) (A' : Option Addr) (k' c' : Nat) (d : Tree) (cs : Array Value), A = some ⟨b, off, none⟩ ∧ (lo ≤ b ∧ b < hi) ∧ X.heap[b]? = some (Obj.cells cs 24) ∧ l[q]? = some d ∧
    X.cell? ⟨b, off + q * 6, none⟩ = some (.int .i64 op) ∧ X.cell? ⟨b, off + q * 6 + 1, none⟩ = some (.int .i64 a') ∧ X.cell? ⟨b, off + q * 6 + 2, none⟩ = some (.int .i64 n') ∧ X.cell? ⟨b, off + q * 6 + 3, none⟩ = some (.int .i64 m) ∧ X.cell? ⟨b, off + q * 6 + 4, none⟩ = some (.string s) ∧ X.cell? ⟨b, off + q * 6 + 5, none⟩ = some (.slice A' k' c') ∧ IsSh lo hi X (.slice A' k' c') d.kids := by
  cases h with
  | mk b off ks hm hA hf hc hk =>
    obtain ⟨h1, h2, cs, h3⟩ := hA (by omega)
    obtain ⟨⟨a0, e0⟩, ⟨a1, e1⟩, ⟨a2, e2⟩, ⟨a3, e3⟩, ⟨a4, e4⟩, e5⟩ := hc q hq
    obtain ⟨A', k', c', e6⟩ := hf q hq
    have hd : l[q]? = some l[q] := List.getElem?_eq_getElem hq
    have h6 := hk q _ hd
    rw [e6] at e5 h6
    exact ⟨rfl, b, off, a0, a1, a2, a3, a4, A', k', c', l[q], cs, h1, h2, h3, hd, e0, e1, e2, e3, e4, e5, h6⟩
theorem IsSh.len {lo hi : Nat} {X : World} {A : Option Addr} {n c : Nat} {l : List Tree} (h : IsSh lo hi X (.slice A n c) l) : n = l.length ∧ n ≤ 9223372036854775807 := by
  cases h with
  | mk b off ks hm hA hf hc hk => exact ⟨rfl, hm⟩
abbrev aggN (op a n m : Int) (s : ByteArray) (k : Value) : Value := .agg #[.int .i64 op, .int .i64 a, .int .i64 n, .int .i64 m, .string s, k]
abbrev boxN (op a n m : Int) (s : ByteArray) (k : Value) : Obj := .cells #[.int .i64 op, .int .i64 a, .int .i64 n, .int .i64 m, .string s, k] 24
theorem cells6b {w : World} {b : Nat} {op a n m : Int} {s : ByteArray} {k : Value} (h : w.heap[b]? = some (boxN op a n m s k)) : w.cell? ⟨b, 5, none⟩ = some k := by rw [cell_of_row w b _ _ _ _ h]; rfl
def TouC (N : Nat) : Prop := ∀ (lo hi : Nat) (op a n m : Int) (s : ByteArray) (A : Option Addr) (k c : Nat) (l : List Tree) (X : World), sizeK l < N → hi ≤ X.heap.size → IsSh lo hi X (.slice A k c) l →
  Calls Tryd.prog 16 #[aggN op a n m s (.slice A k c)] X fun e Y => e = .returned (.tuple #[]) ∧ TK lo hi X Y
/-- the box and the world under way -/
def TouI (lo hi : Nat) (X : World) (o : Obj) (V : World) : Prop := V.heap[X.heap.size]? = some o ∧ TK lo hi X V
theorem TouI.tk {lo hi : Nat} {X V U : World} {o : Obj} (h : TouI lo hi X o V) (k : TK lo hi V U) : TouI lo hi X o U := ⟨(k.out (Array.getElem?_eq_some_iff.1 h.1).1 (by have := h.2.2.1; omega)).trans h.1, h.2.trans k⟩
theorem TouI.below {lo hi : Nat} {X V U : World} {o : Obj} (h : TouI lo hi X o V) (hb : Below V.heap.size V U) : TouI lo hi X o U := h.tk (TK.of_below hb (Nat.le_trans h.2.2.1 h.2.size))
set_option maxRecDepth 100000 in
set_option maxHeartbeats 8000000 in
theorem touched_step {N : Nat} (IH : TouC N) : TouC (N + 1) := by
  intro lo hi op a n m s A k c l X hN hh h
  have HK := Lib.hid h.len
  have IC := Lib.hid (fun (d : Tree) (hd : d ∈ l) op a n m s A' k' c' W (hW : hi ≤ W.heap.size) (hk : IsSh lo hi W (.slice A' k' c') d.kids) => IH lo hi op a n m s A' k' c' d.kids W (by have h1 := sizeK_mem hd; have h2 := sizeT_eq d; omega) hW hk)
  have HS := Lib.hid h
  have T0 := Lib.hid (show TouI lo hi X (boxN op a n m s (.slice A k c)) (X.alloc (boxN op a n m s (.slice A k c))) from ⟨heap_alloc_new _ _, TK.of_below (by (repeat (with_reducible first | exact Below.refl _ _ | (refine bl_set ?_ (by first | omega | (simp; done) | (simp; omega)) _) | refine bl_gr ?_ _ | refine bl_al ?_ _ | refine below_setRow ?_ (by first | omega | (simp; done) | (simp; omega)) _ | refine bl_drewN ?_ _ | refine Below.drew ?_ | (refine bl_tr ?_ (by assumption))))) hh⟩)
  have HH := Lib.hid hh
  clear h hN hh
  go_enter Tryd.func16, Tryd.ntmps16
  go_wp2
  go_loopw [6] (fun i V => ∃ (q : Nat), i = .int .i64 q ∧ Hid (q ≤ l.length) ∧ Hid (TouI lo hi X (boxN op a n m s (.slice A k c)) V)) (fun i _ => l.length - (intOf i).toNat)
  case atStart => exact ⟨0, rfl, Lib.hid (Nat.zero_le _), Lib.hid T0.out⟩
  case round =>
    clear T0
    obtain ⟨q, rfl, HQ, HI⟩ := hrel
    have a5 := cells6b HI.out.1
    have l0 := (Array.getElem?_eq_some_iff.1 HI.out.1).1
    by_cases hlt : q < l.length
    · obtain ⟨hkl, b, off, p0, p1, p2, p3, p4, A', k', c', d, cs, rfl, hb, hcs, hd, x0, x1, x2, x3, x4, x5, hsk⟩ := (HS.out.tk HI.out.2).at_ hlt
      have q1 : (q : Int) < (k : Int) := by omega
      have q3 : ¬ (q : Int) < 0 := by omega
      have kp1 : wrap64 ((q : Int) + 1) = ((q + 1 : Nat) : Int) := w64c (by omega) (by have := HK.out.2; omega)
      have lb : b < wr.heap.size := by have := HH.out; have := HI.out.2.size; omega
      have LQ := Lib.hid (And.intro hlt (And.intro hb (show hi ≤ wr.heap.size from Nat.le_trans HH.out HI.out.2.size)))
      have TC := Lib.hid (fun W (hW : Below wr.heap.size wr W) => IC.out d (List.mem_of_getElem? hd) p0 p1 p2 p3 p4 A' k' c' W (Nat.le_trans LQ.out.2.2 hW.size) (hsk.tk (TK.of_below hW LQ.out.2.2)))
      have ne : b ≠ X.heap.size := by have := HH.out; omega
      clear hkl hlt hd hsk hb
      go_upto_region 5 with (go_at_call 16; go_loud (refine (TC.out _ (by (repeat (with_reducible first | exact Below.refl _ _ | (refine bl_set ?_ (by first | omega | (simp; done) | (simp; omega)) _) | refine bl_gr ?_ _ | refine bl_al ?_ _ | refine below_setRow ?_ (by first | omega | (simp; done) | (simp; omega)) _ | refine bl_drewN ?_ _ | refine Below.drew ?_ | (refine bl_tr ?_ (by assumption)))))).mono ?_; rintro e w4 ⟨rfl, k4⟩; have K4 := Lib.hid (show TK lo hi wr w4 from (TK.of_below (by (repeat (with_reducible first | exact Below.refl _ _ | (refine bl_set ?_ (by first | omega | (simp; done) | (simp; omega)) _) | refine bl_gr ?_ _ | refine bl_al ?_ _ | refine below_setRow ?_ (by first | omega | (simp; done) | (simp; omega)) _ | refine bl_drewN ?_ _ | refine Below.drew ?_ | (refine bl_tr ?_ (by assumption))))) LQ.out.2.2).trans k4); clear k4))
      have I4 := Lib.hid (HI.out.tk K4.out)
      obtain ⟨_, b2, off2, p0', p1', p2', p3', p4', A2, k2, c2, d2, cs2, e2, hb2, hcs2, hd2, y0, y1, y2, y3, y4, y5, _⟩ := (HS.out.tk I4.out.2).at_ LQ.out.1
      simp only [Option.some.injEq, Addr.mk.injEq, and_true] at e2
      obtain ⟨rfl, rfl⟩ := e2
      clear a5 l0 x0 x1 x2 x3 x4 x5 lb
      have a5 := cells6b I4.out.1
      have l0 := (Array.getElem?_eq_some_iff.1 I4.out.1).1
      have lb := (Array.getElem?_eq_some_iff.1 hcs2).1
      have fz : ∀ j, w4.frozen? ⟨b, j, none⟩ = false := fun j => frozen_of_row w4 b j _ _ hcs2
      have S4 := Lib.hid (TK.set (v' := .int .i64 (-7)) (Nat.le_trans LQ.out.2.2 K4.out.size) LQ.out.2.1.1 LQ.out.2.1.2 hcs2 y0 (.inr (.inl ⟨_, _, rfl, rfl⟩)))
      go_upto_region 6 with fail
      refine wpd_world (fun V => V = w4.setCell ⟨b, off + q * 6, none⟩ (.int .i64 (-7))) rfl ?_
      rintro V hV
      rw [← hV] at S4
      have I5 := Lib.hid (I4.out.tk S4.out)
      obtain ⟨_, b3, off3, p0'', p1'', p2'', p3'', p4'', A3, k3, c3, d3, cs3, e3, hb3, hcs3, hd3, z0, z1, z2, z3, z4, z5, _⟩ := (HS.out.tk I5.out.2).at_ LQ.out.1
      simp only [Option.some.injEq, Addr.mk.injEq, and_true] at e3
      obtain ⟨rfl, rfl⟩ := e3
      clear a5 l0 lb fz y0 y1 y2 y3 y4 y5 hV
      have a5 := cells6b I5.out.1
      have l0 := (Array.getElem?_eq_some_iff.1 I5.out.1).1
      have lb := (Array.getElem?_eq_some_iff.1 hcs3).1
      have fz : ∀ j, V.frozen? ⟨b, j, none⟩ = false := fun j => frozen_of_row V b j _ _ hcs3
      have S5 := Lib.hid (TK.set (v' := .string ⟨#[115, 112, 111, 105, 108, 116]⟩) (Nat.le_trans (Nat.le_trans LQ.out.2.2 K4.out.size) S4.out.size) LQ.out.2.1.1 LQ.out.2.1.2 hcs3 z4 (.inr (.inr ⟨_, _, rfl, rfl⟩)))
      go_wp2
      go_roundw
      case rel => exact ⟨q + 1, by first | with_reducible rfl | (rw [kp1]; done), Lib.hid LQ.out.1, Lib.hid (I5.out.tk S5.out)⟩
      case measure => (first | ((try rw [kp1]); exact meas_c rfl LQ.out.1) | (clear kp1; have := LQ.out.1; simp only [intOf]; omega))
    · have q1 : ¬ (q : Int) < (k : Int) := by have := HK.out.1; omega
      clear hlt
      go_wp2
      go_end0
      exact ⟨rfl, HI.out.2⟩
theorem touched_any (lo hi : Nat) (op a n m : Int) (s : ByteArray) (A : Option Addr) (k c : Nat) (l : List Tree) (X : World) (hh : hi ≤ X.heap.size) (h : IsSh lo hi X (.slice A k c) l) :
    Calls Tryd.prog 16 #[aggN op a n m s (.slice A k c)] X fun e Y => e = .returned (.tuple #[]) ∧ TK lo hi X Y := by
  have : ∀ N, TouC N := by
    intro N
    induction N with
    | zero => intro lo hi op a n m s A k c l X h; omega
    | succ N ih => exact touched_step ih
  exact this (sizeK l + 1) lo hi op a n m s A k c l X (by omega) hh h
end Go.Proofs.YtiagegecnopfgaaDoor
