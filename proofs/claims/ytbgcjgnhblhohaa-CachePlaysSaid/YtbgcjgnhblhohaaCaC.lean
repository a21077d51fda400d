/- Inline caches: blocks of entries written whole, and what a cache's own writes make of it. -/
import Derived.Test.YtbgcjgnhblhohaaCaB
namespace Go.Proofs.Ytbgcjgnhblhohaa
set_option linter.all false
open Go.RowKit Go.Sort Go.Deep Go.Shelf

theorem wp_world {P : Program} {c : Code} {Q : Exit → Act → World → Prop} {a : Act} {w : World} (C : World → Prop) (hC : C w) (h : ∀ w', C w' → c.wp P Q a w') : c.wp P Q a w := h w hC
theorem wpIn_world {P : Program} {F : Fence} {n : Nat} {c : Code} {Q : Exit → Act → World → Prop} {a : Act} {w : World} (C : World → Prop) (hC : C w) (h : ∀ w', C w' → c.wpIn F n P Q a w') : c.wpIn F n P Q a w := h w hC
abbrev entO (e : Ent) (T : TypeId) : Obj := .cells #[.int .i64 e.k.k, .int .i64 e.k.n, .string e.k.s, .int .i64 e.sh, .int .i64 e.ep, .int .i64 e.ho, .int .i64 e.sl, .int .i64 e.fo] T
theorem cells8 {w : World} {b : Nat} {e : Ent} {T : TypeId} (h : w.heap[b]? = some (entO e T)) : (w.cell? ⟨b, 0, none⟩ = some (.int .i64 e.k.k) ∧ w.cell? ⟨b, 1, none⟩ = some (.int .i64 e.k.n) ∧ w.cell? ⟨b, 2, none⟩ = some (.string e.k.s) ∧ w.cell? ⟨b, 3, none⟩ = some (.int .i64 e.sh) ∧
    w.cell? ⟨b, 4, none⟩ = some (.int .i64 e.ep) ∧ w.cell? ⟨b, 5, none⟩ = some (.int .i64 e.ho) ∧ w.cell? ⟨b, 6, none⟩ = some (.int .i64 e.sl) ∧ w.cell? ⟨b, 7, none⟩ = some (.int .i64 e.fo)) ∧
    w.frozen? ⟨b, 0, none⟩ = false ∧ w.frozen? ⟨b, 1, none⟩ = false ∧ w.frozen? ⟨b, 2, none⟩ = false ∧ w.frozen? ⟨b, 3, none⟩ = false ∧ w.frozen? ⟨b, 4, none⟩ = false ∧ w.frozen? ⟨b, 5, none⟩ = false ∧ w.frozen? ⟨b, 6, none⟩ = false ∧ w.frozen? ⟨b, 7, none⟩ = false := by
  refine ⟨?_, ?_⟩
  · and_intros <;> (rw [cell_of_row w b _ _ _ _ h]; rfl)
  · and_intros <;> exact frozen_of_row w b _ _ _ h
/-- an entry stored whole at a of block b -/
abbrev put8 (Y : World) (b a : Nat) (e : Ent) : World := ((((((((Y.setCell ⟨b, a, none⟩ (.int .i64 e.k.k)).setCell ⟨b, a + 1, none⟩ (.int .i64 e.k.n)).setCell ⟨b, a + 2, none⟩ (.string e.k.s)).setCell ⟨b, a + 3, none⟩ (.int .i64 e.sh)).setCell ⟨b, a + 4, none⟩ (.int .i64 e.ep)).setCell ⟨b, a + 5, none⟩ (.int .i64 e.ho)).setCell ⟨b, a + 6, none⟩ (.int .i64 e.sl)).setCell ⟨b, a + 7, none⟩ (.int .i64 e.fo))
theorem put8_touch (Y : World) (b a : Nat) (e : Ent) : Touch (fun k => k = b) Y (put8 Y b a e) := by
  unfold put8
  refine Touch.set1 ?_ _ _
  refine Touch.set1 ?_ _ _
  refine Touch.set1 ?_ _ _
  refine Touch.set1 ?_ _ _
  refine Touch.set1 ?_ _ _
  refine Touch.set1 ?_ _ _
  refine Touch.set1 ?_ _ _
  refine Touch.set1 ?_ _ _
  exact Touch.refl _ _
abbrev set8 (cs : Array Value) (a : Nat) (e : Ent) : Array Value := (((((((cs.setIfInBounds a (.int .i64 e.k.k)).setIfInBounds (a + 1) (.int .i64 e.k.n)).setIfInBounds (a + 2) (.string e.k.s)).setIfInBounds (a + 3) (.int .i64 e.sh)).setIfInBounds (a + 4) (.int .i64 e.ep)).setIfInBounds (a + 5) (.int .i64 e.ho)).setIfInBounds (a + 6) (.int .i64 e.sl)).setIfInBounds (a + 7) (.int .i64 e.fo)
theorem put8_row {Y : World} {b a : Nat} {e : Ent} {cs : Array Value} {T : TypeId} (h : Y.heap[b]? = some (.cells cs T)) : (put8 Y b a e).heap[b]? = some (.cells (set8 cs a e) T) := by
  have h0 := heap_setCell_same Y b a _ T (.int .i64 e.k.k) h
  have h1 := heap_setCell_same _ b (a + 1) _ T (.int .i64 e.k.n) h0
  have h2 := heap_setCell_same _ b (a + 2) _ T (.string e.k.s) h1
  have h3 := heap_setCell_same _ b (a + 3) _ T (.int .i64 e.sh) h2
  have h4 := heap_setCell_same _ b (a + 4) _ T (.int .i64 e.ep) h3
  have h5 := heap_setCell_same _ b (a + 5) _ T (.int .i64 e.ho) h4
  have h6 := heap_setCell_same _ b (a + 6) _ T (.int .i64 e.sl) h5
  exact heap_setCell_same _ b (a + 7) _ T (.int .i64 e.fo) h6
theorem set8_row (x e : Ent) : set8 #[.int .i64 x.k.k, .int .i64 x.k.n, .string x.k.s, .int .i64 x.sh, .int .i64 x.ep, .int .i64 x.ho, .int .i64 x.sl, .int .i64 x.fo] 0 e = #[.int .i64 e.k.k, .int .i64 e.k.n, .string e.k.s, .int .i64 e.sh, .int .i64 e.ep, .int .i64 e.ho, .int .i64 e.sl, .int .i64 e.fo] := by
  simp [set8]
theorem put8_heap {Y : World} {b : Nat} {e : Ent} {x : Ent} {T : TypeId} (h : Y.heap[b]? = some (entO x T)) : (put8 Y b 0 e).heap[b]? = some (entO e T) := by
  rw [put8_row h, set8_row]
theorem set8_size (cs : Array Value) (a : Nat) (e : Ent) : (set8 cs a e).size = cs.size := by simp
theorem set8_at (cs : Array Value) (a : Nat) (e : Ent) (ha : a + 8 ≤ cs.size) (j : Nat) (u : Value) (hu : (Ent.cs e)[j]? = some u) : (set8 cs a e)[a + j]? = some u := by
  have hj := (List.getElem?_eq_some_iff.1 hu).1
  rw [ent_len] at hj
  rcases (by omega : j = 0 ∨ j = 1 ∨ j = 2 ∨ j = 3 ∨ j = 4 ∨ j = 5 ∨ j = 6 ∨ j = 7) with rfl | rfl | rfl | rfl | rfl | rfl | rfl | rfl <;>
    (simp only [List.getElem?_cons_zero, List.getElem?_cons_succ, Option.some.injEq] at hu; subst hu; simp only [set8, Array.getElem?_setIfInBounds, Array.size_setIfInBounds, Nat.add_zero, Nat.add_left_cancel_iff, Nat.reduceEqDiff, if_false, if_true, Nat.add_eq_left]
     simp; omega)
theorem set8_other (cs : Array Value) (a : Nat) (e : Ent) (k : Nat) (h : k < a ∨ a + 8 ≤ k) : (set8 cs a e)[k]? = cs[k]? := by
  simp only [set8, Array.getElem?_setIfInBounds]
  rw [if_neg (by omega), if_neg (by omega), if_neg (by omega), if_neg (by omega), if_neg (by omega), if_neg (by omega), if_neg (by omega), if_neg (by omega)]

theorem keeps_gr (B : Nat) (W : World) (pp : Regrown) : KeepsFrom B W (gr W pp) := (KeepsOthers.from ⟨(below_gr W pp).size, fun k o hk _ => ((below_gr W pp).block k (Array.getElem?_eq_some_iff.1 hk).1).trans hk⟩ B)
/-- objects laid one behind another -/
theorem heapN (w : World) : ∀ (l : List Obj), (l.foldl World.alloc w).heap.size = w.heap.size + l.length ∧ Below w.heap.size w (l.foldl World.alloc w) ∧ ∀ i o, l[i]? = some o → (l.foldl World.alloc w).heap[w.heap.size + i]? = some o := by
  intro l
  induction l generalizing w with
  | nil => exact ⟨rfl, Below.refl _ _, fun i o h => by simp at h⟩
  | cons a l ih =>
    obtain ⟨h1, h2, h3⟩ := ih (w.alloc a)
    rw [World.size_alloc] at h1 h2 h3
    refine ⟨by rw [List.foldl_cons, h1, List.length_cons]; omega, ((Below.refl _ w).alloc (Nat.le_refl _) a).trans (h2.mono (by omega)), fun i o ho => ?_⟩
    cases i with
    | zero =>
      simp only [List.getElem?_cons_zero, Option.some.injEq] at ho
      subst ho
      rw [List.foldl_cons, Nat.add_zero, h2.block _ (by omega)]
      exact heap_alloc_new _ _
    | succ i =>
      have := h3 i o (by simpa using ho)
      rw [List.foldl_cons, show w.heap.size + (i + 1) = w.heap.size + 1 + i by omega]
      exact this

theorem Touch.soft {F : Nat → Prop} {B : Nat} {w W W' : World} (h : Touch F w W) (hs : Soft B W W') (hB : w.heap.size ≤ B) : Touch F w W' := by
  have hb := hs.belowW hB h.size
  exact ⟨hb.os.trans h.os, hb.tape.trans h.tape, hb.output.trans h.output, Nat.le_trans h.size hb.size, fun k hk hf => (hb.block k hk).trans (h.block k hk hf)⟩
/-- from block n on lie these rows of cells -/
def Lays (n : Nat) (l : List (Array Value × TypeId)) (W : World) : Prop := ∀ (i : Nat) (x : Array Value × TypeId), l[i]? = some x → W.heap[n + i]? = some (.cells x.1 x.2)
theorem Lays.soft {B n : Nat} {l : List (Array Value × TypeId)} {W W' : World} (h : Lays n l W) (hs : Soft B W W') : Lays n l W' := fun i x hx => hs.heap (h i x hx)
theorem Lays.touch {F : Nat → Prop} {n : Nat} {l : List (Array Value × TypeId)} {W W' : World} (h : Lays n l W) (ht : Touch F W W') (hF : ∀ i, i < l.length → ¬ F (n + i)) : Lays n l W' := fun i x hx =>
  (ht.block _ (Array.getElem?_eq_some_iff.1 (h i x hx)).1 (hF i (List.getElem?_eq_some_iff.1 hx).1)).trans (h i x hx)
theorem Lays.below {n : Nat} {l : List (Array Value × TypeId)} {W W' : World} (h : Lays n l W) (hb : Below W.heap.size W W') : Lays n l W' := fun i x hx =>
  (hb.block _ (Array.getElem?_eq_some_iff.1 (h i x hx)).1).trans (h i x hx)
theorem laysN (w : World) (l : List (Array Value × TypeId)) : let W := (l.map (fun x => Obj.cells x.1 x.2)).foldl World.alloc w
    W.heap.size = w.heap.size + l.length ∧ Below w.heap.size w W ∧ Lays w.heap.size l W := by
  obtain ⟨h1, h2, h3⟩ := heapN w (l.map (fun x => Obj.cells x.1 x.2))
  exact ⟨by rw [h1, List.length_map], h2, fun i x hx => h3 i _ (by rw [List.getElem?_map, hx]; rfl)⟩

theorem lays7 {n : Nat} {W : World} {a b c d e f g : Array Value × TypeId} (h : Lays n [a, b, c, d, e, f, g] W) : W.heap[n]? = some (.cells a.1 a.2) ∧ W.heap[n + 1]? = some (.cells b.1 b.2) ∧ W.heap[n + 1 + 1]? = some (.cells c.1 c.2) ∧ W.heap[n + 1 + 1 + 1]? = some (.cells d.1 d.2) ∧
    W.heap[n + 1 + 1 + 1 + 1]? = some (.cells e.1 e.2) ∧ W.heap[n + 1 + 1 + 1 + 1 + 1]? = some (.cells f.1 f.2) ∧ W.heap[n + 1 + 1 + 1 + 1 + 1 + 1]? = some (.cells g.1 g.2) :=
  ⟨h 0 a rfl, h 1 b rfl, h 2 c rfl, h 3 d rfl, h 4 e rfl, h 5 f rfl, h 6 g rfl⟩

/-! what the writes make of a cache -/
theorem CacheIn.hit {w : World} {C S : Nat} {c : CacheD} (h : CacheIn w C S c) (x : Int) : CacheIn (w.setCell ⟨C, 2, none⟩ (.int .i64 x)) C S { c with hits := x } := by
  obtain ⟨arr, ha, hb⟩ := h.body
  exact ⟨h.ne, h.le, heap_setCell_same _ _ _ _ _ _ h.head, arr, (heap_setCell_other w ⟨C, 2, none⟩ S _ h.ne.symm).trans ha, hb⟩
theorem CacheIn.mis {w : World} {C S : Nat} {c : CacheD} (h : CacheIn w C S c) (x : Int) : CacheIn (w.setCell ⟨C, 3, none⟩ (.int .i64 x)) C S { c with miss := x } := by
  obtain ⟨arr, ha, hb⟩ := h.body
  exact ⟨h.ne, h.le, heap_setCell_same _ _ _ _ _ _ h.head, arr, (heap_setCell_other w ⟨C, 3, none⟩ S _ h.ne.symm).trans ha, hb⟩
/-- an entry at place i of a site that has it, or behind its last one; the number of entries as said -/
theorem SiteIn.put {arr : Array Value} {o : Nat} {s : SiteD} (h : SiteIn arr o s) (hz : o + 34 ≤ arr.size) (i : Nat) (hi : i < 4) (hi2 : i < s.l.length) (x : Ent) : SiteIn (set8 arr (o + i * 8) x) o { s with l := s.l.set i x } := by
  obtain ⟨h4, h5, h6, h7⟩ := h
  refine ⟨by simpa using h4, fun j e he k u hu => ?_, ?_, ?_⟩
  · have hk := (List.getElem?_eq_some_iff.1 hu).1
    rw [ent_len] at hk
    by_cases hj : j = i
    · subst hj
      rw [List.getElem?_set_self hi2] at he
      cases he
      exact set8_at arr _ _ (by omega) k u hu
    · rw [List.getElem?_set_ne (fun e => hj e.symm)] at he
      rw [set8_other _ _ _ _ (by omega)]
      exact h5 j e he k u hu
  · rw [set8_other _ _ _ _ (by omega), List.length_set]; exact h6
  · rw [set8_other _ _ _ _ (by omega)]; exact h7
/-- the two results of Look, and one count, are written -/
theorem look_writes {W : World} {C S b4 b5 f : Nat} {c : CacheD} {e0 e : Ent} {b b' : Bool} {x : Int} (hf : f = 2 ∨ f = 3) (hc : CacheIn W C S c) (h4 : W.heap[b4]? = some (entO e0 33)) (h5 : W.heap[b5]? = some (.cells #[.bool b] 4)) (n1 : b4 ≠ C) (n2 : b4 ≠ S) (n3 : b5 ≠ C) (n4 : b5 ≠ S) (n5 : b4 ≠ b5) :
    let X := (put8 (W.setCell ⟨C, f, none⟩ (.int .i64 x)) b4 0 e).setCell ⟨b5, 0, none⟩ (.bool b')
    Touch (fun k => k = C ∨ k = b4 ∨ k = b5) W X ∧ X.heap[b4]? = some (entO e 33) ∧ X.heap[b5]? = some (.cells #[.bool b'] 4) ∧ CacheIn X C S (if f = 2 then { c with hits := x } else { c with miss := x }) := by
  intro X
  have T1 : Touch (fun k => k = C ∨ k = b4 ∨ k = b5) W (W.setCell ⟨C, f, none⟩ (.int .i64 x)) := Touch.set (p := ⟨C, f, none⟩) (Touch.refl _ W) (.inl (.inl rfl)) _
  have g4 : (W.setCell ⟨C, f, none⟩ (.int .i64 x)).heap[b4]? = some (entO e0 33) := (heap_setCell_other W ⟨C, f, none⟩ b4 _ n1).trans h4
  have g5 : (W.setCell ⟨C, f, none⟩ (.int .i64 x)).heap[b5]? = some (.cells #[.bool b] 4) := (heap_setCell_other W ⟨C, f, none⟩ b5 _ n3).trans h5
  have gc : CacheIn (W.setCell ⟨C, f, none⟩ (.int .i64 x)) C S (if f = 2 then { c with hits := x } else { c with miss := x }) := by
    rcases hf with rfl | rfl
    · exact hc.hit x
    · exact hc.mis x
  have T2 := put8_touch (W.setCell ⟨C, f, none⟩ (.int .i64 x)) b4 0 e
  have k4 := put8_heap (e := e) g4
  have k5 := (T2.block b5 (Array.getElem?_eq_some_iff.1 g5).1 (fun h => n5 h.symm)).trans g5
  have kc : CacheIn (put8 (W.setCell ⟨C, f, none⟩ (.int .i64 x)) b4 0 e) C S (if f = 2 then { c with hits := x } else { c with miss := x }) := gc.same (T2.block C gc.ltC (fun h => n1 h.symm)) (T2.block S gc.ltS (fun h => n2 h.symm))
  refine ⟨?_, (heap_setCell_other _ ⟨b5, 0, none⟩ b4 _ n5).trans k4, heap_setCell_same _ _ _ _ _ _ k5, kc.same (heap_setCell_other _ ⟨b5, 0, none⟩ C _ (Ne.symm n3)) (heap_setCell_other _ ⟨b5, 0, none⟩ S _ (Ne.symm n4))⟩
  exact Touch.set (p := ⟨b5, 0, none⟩) (T1.trans T2 (fun i _ h => .inr (.inl h))) (.inl (.inr (.inr rfl))) _
/-- the row of a site is turned, the others stay -/
theorem CacheIn.turned {w w' : World} {C S : Nat} {c : CacheD} (h : CacheIn w C S c) (n : Nat) (s' : SiteD) (hT : w'.heap[C]? = w.heap[C]?)
    (hS : ∀ arr, w.heap[S]? = some (.cells arr 65) → arr.size = c.sites.length * 34 → (∀ i s, c.sites[i]? = some s → SiteIn arr (i * 34) s) → ∃ arr', w'.heap[S]? = some (.cells arr' 65) ∧ arr'.size = arr.size ∧ SiteIn arr' (n * 34) s' ∧ ∀ k, k < n * 34 ∨ n * 34 + 34 ≤ k → arr'[k]? = arr[k]?) :
    CacheIn w' C S (putS c n s') := by
  obtain ⟨arr, ha, hz, hb⟩ := h.body
  obtain ⟨arr', h1, h2, h3, h4⟩ := hS arr ha hz hb
  have e : (Int.toNat (n : Int)) = n := by omega
  refine ⟨h.ne, by simpa [Go.Proofs.Ytbgcjgnhblhohaa.putS] using h.le, by rw [hT, h.head]; simp [Go.Proofs.Ytbgcjgnhblhohaa.putS], arr', h1, by rw [h2, hz]; simp [Go.Proofs.Ytbgcjgnhblhohaa.putS], fun i s hs => ?_⟩
  simp only [Go.Proofs.Ytbgcjgnhblhohaa.putS, e] at hs
  by_cases hi : i = n
  · subst hi
    have hlt := (List.getElem?_eq_some_iff.1 hs).1
    rw [List.getElem?_set_self (by simpa using hlt)] at hs
    cases hs
    exact h3
  · rw [List.getElem?_set_ne (fun e => hi e.symm)] at hs
    obtain ⟨g1, g2, g3, g4⟩ := hb i s hs
    refine ⟨g1, fun j e he k u hu => ?_, ?_, ?_⟩
    · have hk := (List.getElem?_eq_some_iff.1 hu).1
      have hj := (List.getElem?_eq_some_iff.1 he).1
      rw [ent_len] at hk
      rw [h4 _ (by omega)]
      exact g2 j e he k u hu
    · rw [h4 _ (by omega)]; exact g3
    · rw [h4 _ (by omega)]; exact g4

/-! the first that fits -/
theorem pre_form {m : Nat} {p : List (Fin m)} {x : Fin m} (h : p ++ [x] <+: List.finRange m) : ∀ j : Fin m, j.val < x.val → j ∈ p := by
  have e := List.prefix_iff_eq_take.1 h
  rw [List.length_append, List.length_singleton] at e
  have hl : p.length < m := by
    have := h.length_le
    simp at this
    omega
  rw [finRange_take m p.length hl] at e
  obtain ⟨e1, e2⟩ := List.append_inj' e rfl
  simp only [List.cons.injEq, and_true] at e2
  subst e2
  intro j hj
  rw [e1]
  have hj' : j.val < p.length := hj
  rw [List.mem_take_iff_getElem]
  exact ⟨j.val, by simp; omega, by simp⟩
theorem find_some {l : List Ent} {q : Ent → Bool} {p : List (Fin l.length)} {x : Fin l.length} (h : p ++ [x] <+: List.finRange l.length) (hp : ∀ y ∈ p, q l[y.val] = false) (hx : q l[x.val] = true) : l.find? q = some l[x.val] ∧ l.findIdx? q = some x.val := by
  have hj := pre_form h
  constructor
  · rw [List.find?_eq_some_iff_getElem]
    exact ⟨hx, x.val, x.isLt, rfl, fun j hjx => by rw [hp ⟨j, by omega⟩ (hj _ hjx)]; rfl⟩
  · rw [List.findIdx?_eq_some_iff_getElem]
    exact ⟨x.isLt, hx, fun j hjx => by rw [hp ⟨j, by omega⟩ (hj _ hjx)]; decide⟩
theorem find_none {l : List Ent} {q : Ent → Bool} (hp : ∀ y ∈ List.finRange l.length, q l[y.val] = false) : l.find? q = none ∧ l.findIdx? q = none := by
  have h : ∀ x ∈ l, q x = false := fun x hx => by
    obtain ⟨i, hi, rfl⟩ := List.getElem_of_mem hx
    exact hp ⟨i, hi⟩ (List.mem_finRange _)
  constructor
  · rw [List.find?_eq_none]
    intro x hx
    rw [h x hx]
    decide
  · rw [List.findIdx?_eq_none_iff]
    exact h
end Go.Proofs.Ytbgcjgnhblhohaa
