/- Rows of values that a call owns: made, copied, appended, overwritten; blocks by their cells. -/
import Derived.Test.YtiagegecnopfgaaDoorFit
import Derived.Laws.AppendOwn
import Derived.Laws.AppendOwnNone
import Derived.Laws.MakeOwn
import Derived.Laws.CopyOwn
import Derived.Deep.AppendLies
namespace Go.Proofs.YtiagegecnopfgaaDoor
set_option linter.all false
open Go.RowKit Go.Sort Go.Deep

def flat {α : Type} (en : α → List Value) (xs : List α) : List Value := xs.flatMap en
theorem flat_len {α : Type} {en : α → List Value} {n : Nat} (h : ∀ x, (en x).length = n) : ∀ xs : List α, (flat en xs).length = xs.length * n
  | [] => by simp [flat]
  | x :: xs => by
    have := flat_len h xs
    simp only [flat, List.flatMap_cons, List.length_append, List.length_cons, h] at this ⊢
    rw [this, Nat.add_mul]
    omega
theorem flat_at {α : Type} {en : α → List Value} {n : Nat} (h : ∀ x, (en x).length = n) : ∀ (xs : List α) (i : Nat) (x : α) (j : Nat) (u : Value), xs[i]? = some x → (en x)[j]? = some u → (flat en xs)[i * n + j]? = some u
  | a :: xs, 0, x, j, u, hx, hu => by
    simp only [List.getElem?_cons_zero, Option.some.injEq] at hx
    subst hx
    have hj := (List.getElem?_eq_some_iff.1 hu).1
    simp only [flat, List.flatMap_cons, Nat.zero_mul, Nat.zero_add]
    rw [List.getElem?_append_left hj]
    exact hu
  | a :: xs, i + 1, x, j, u, hx, hu => by
    simp only [List.getElem?_cons_succ] at hx
    have := flat_at h xs i x j u hx hu
    simp only [flat, List.flatMap_cons]
    rw [List.getElem?_append_right (by rw [h, Nat.add_mul]; omega), h, Nat.add_mul]
    rw [show i * n + 1 * n + j - n = i * n + j by omega]
    exact this
theorem cs_len (x : Val) : (Val.cs x).length = 3 := rfl
theorem crs_len (x : CellR) : (CellR.cs x).length = 6 := rfl

theorem ownsRow_low {w : World} {base b' : Nat} {e : TypeId} {size : Nat} {v : Value} {n : Nat} {xs : List Value} (h : w.ownsRow base e size v n xs) (hb : b' ≤ base) : w.ownsRow b' e size v n xs := by
  refine ⟨h.1, ?_⟩
  rcases h.2 with h0 | ⟨g, cap, cur, e1, e2, e3⟩
  · exact .inl h0
  · exact .inr ⟨g, cap, cur, e1, by omega, e3⟩
theorem ownsRow_slOf {α : Type} {en : α → List Value} {w : World} {base : Nat} {e : TypeId} {size : Nat} {v : Value} {xs : List α} (hen : ∀ x, (en x).length = size) (h : w.ownsRow base e size v xs.length (flat en xs)) : SlOf w size en v xs := by
  rcases h.2 with ⟨rfl, h0⟩ | ⟨g, cap, cur, rfl, hb, hg, hc, hm, hs, ht⟩
  · obtain rfl : xs = [] := List.eq_nil_of_length_eq_zero h0
    exact .nil_
  · have hlt : g < w.heap.size := (Array.getElem?_eq_some_iff.1 hg).1
    refine ⟨by omega, some ⟨g, 0, none⟩, cap, rfl, hc, fun _ => ⟨g, 0, rfl, hlt, fun i x hi j u hj => ?_⟩⟩
    have h1 := h.cells (g := g) rfl (i * size + j) u (flat_at hen xs i x j u hi hj)
    rw [add_off] at h1
    rw [show 0 + i * size + j = 0 + (i * size + j) by omega]
    exact h1
/-- one cell of an owned row is overwritten -/
theorem ownsRow_set {w : World} {base : Nat} {e : TypeId} {size : Nat} {v : Value} {n : Nat} {xs : List Value} (h : w.ownsRow base e size v n xs) {g j : Nat} (hg : v.ownBlock = some g) (hj : j < n * size) (u : Value) :
    (w.setCell ⟨g, j, none⟩ u).ownsRow base e size v n (xs.set j u) := by
  refine ⟨by rw [List.length_set, h.1], ?_⟩
  rcases h.2 with ⟨rfl, h0⟩ | ⟨g', cap, cur, rfl, hb, hgg, hc, hm, hs, ht⟩
  · simp [Value.ownBlock] at hg
  · simp [Value.ownBlock] at hg
    subst hg
    refine .inr ⟨g', cap, cur.setIfInBounds j u, rfl, hb, heap_setCell_same w g' j cur e u hgg, hc, hm, by simpa using hs, ?_⟩
    rw [Array.toList_setIfInBounds, List.take_set, ht]

/-- w' is w but for the blocks of F and new ones -/
structure Touch (F : Nat → Prop) (w w' : World) : Prop where
  os : w'.os = w.os
  tape : w'.tape = w.tape
  output : w'.output = w.output
  size : w.heap.size ≤ w'.heap.size
  block : ∀ k, k < w.heap.size → ¬ F k → w'.heap[k]? = w.heap[k]?
theorem Touch.refl (F : Nat → Prop) (w : World) : Touch F w w := ⟨rfl, rfl, rfl, Nat.le_refl _, fun _ _ _ => rfl⟩
theorem Touch.below {F : Nat → Prop} {w w' : World} {n : Nat} (h : Touch F w w') (hn : n ≤ w.heap.size) (hF : ∀ k, F k → n ≤ k) : Below n w w' :=
  ⟨h.os, h.tape, h.output, h.size, fun k hk => h.block k (by omega) fun hf => by have := hF k hf; omega⟩
theorem Touch.of_below {F : Nat → Prop} {w w' : World} (h : Below w.heap.size w w') : Touch F w w' := ⟨h.os, h.tape, h.output, h.size, fun k hk _ => h.block k hk⟩
theorem Touch.trans {F G : Nat → Prop} {a b c : World} (h : Touch F a b) (k : Touch G b c) (hG : ∀ i, i < a.heap.size → G i → F i) : Touch F a c :=
  ⟨k.os.trans h.os, k.tape.trans h.tape, k.output.trans h.output, Nat.le_trans h.size k.size, fun i hi hf => (k.block i (Nat.lt_of_lt_of_le hi h.size) fun g => hf (hG i hi g)).trans (h.block i hi hf)⟩
theorem Touch.mono {F G : Nat → Prop} {a b : World} (h : Touch F a b) (hG : ∀ i, i < a.heap.size → F i → G i) : Touch G a b := ⟨h.os, h.tape, h.output, h.size, fun i hi hf => h.block i hi fun g => hf (hG i hi g)⟩
theorem Touch.set {F : Nat → Prop} {w w' : World} (h : Touch F w w') {p : Addr} (hp : F p.block ∨ w.heap.size ≤ p.block) (v : Value) : Touch F w (w'.setCell p v) :=
  ⟨h.os, h.tape, h.output, by simpa [World.setCell] using h.size, fun k hk hf => (heap_setCell_other w' p k v (fun e => by subst e; rcases hp with hp | hp; exact hf hp; omega)).trans (h.block k hk hf)⟩
theorem Touch.drew {F : Nat → Prop} {w w' : World} (h : Touch F w w') : Touch F w w'.drew := ⟨h.os, h.tape, h.output, h.size, h.block⟩
theorem Touch.drewN {F : Nat → Prop} {w w' : World} (h : Touch F w w') (n : Nat) : Touch F w (w'.drewN n) := ⟨h.os, h.tape, h.output, h.size, h.block⟩
theorem Touch.alloc {F : Nat → Prop} {w w' : World} (h : Touch F w w') (o : Obj) : Touch F w (w'.alloc o) :=
  h.trans (G := fun _ => False) (Touch.of_below ((Below.refl _ w').alloc (Nat.le_refl _) o)) fun _ _ h => h.elim
theorem Touch.gr {F : Nat → Prop} {w w' : World} (h : Touch F w w') (p : Regrown) : Touch F w (gr w' p) :=
  h.trans (G := fun _ => False) (Touch.of_below (below_gr w' p)) fun _ _ h => h.elim
theorem Touch.cell {F : Nat → Prop} {w w' : World} (h : Touch F w w') {b o : Nat} (hb : b < w.heap.size) (hf : ¬ F b) : w'.cell? ⟨b, o, none⟩ = w.cell? ⟨b, o, none⟩ := World.cell?_of_block (a := ⟨b, o, none⟩) (h.block b hb hf)
theorem Touch.frozen {F : Nat → Prop} {w w' : World} (h : Touch F w w') {b o : Nat} (hb : b < w.heap.size) (hf : ¬ F b) : w'.frozen? ⟨b, o, none⟩ = w.frozen? ⟨b, o, none⟩ := World.frozen?_of_block (a := ⟨b, o, none⟩) (h.block b hb hf)
theorem Touch.grown {F : Nat → Prop} {w w' : World} (h : Touch F w w') : w.grownBy w' none → True := fun _ => trivial

/-- An owned row that was not touched. -/
theorem ownsRow_touch {F : Nat → Prop} {w w' : World} {base : Nat} {e : TypeId} {size : Nat} {v : Value} {n : Nat} {xs : List Value} (h : w.ownsRow base e size v n xs) (ht : Touch F w w') (hF : ∀ g, v.ownBlock = some g → ¬ F g) : w'.ownsRow base e size v n xs := by
  refine ⟨h.1, ?_⟩
  rcases h.2 with h0 | ⟨g, cap, cur, rfl, hb, hg, rest⟩
  · exact .inl h0
  · exact .inr ⟨g, cap, cur, rfl, hb, by rw [ht.block g (Array.getElem?_eq_some_iff.1 hg).1 (hF g rfl)]; exact hg, rest⟩
theorem ownsRow_below {w w' : World} {base : Nat} {e : TypeId} {size : Nat} {v : Value} {n : Nat} {xs : List Value} (h : w.ownsRow base e size v n xs) (hb : Below w.heap.size w w') : w'.ownsRow base e size v n xs :=
  ownsRow_touch (F := fun _ => False) h (Touch.of_below hb) fun _ _ h => h
/-- A slice that was not touched. -/
theorem SlOf.touch {F : Nat → Prop} {α : Type} {w w' : World} {n : Nat} {en : α → List Value} {v : Value} {xs : List α} (h : SlOf w n en v xs) (ht : Touch F w w') (hF : ∀ b off cap, v = .slice (some ⟨b, off, none⟩) xs.length cap → 0 < xs.length → ¬ F b) : SlOf w' n en v xs := by
  obtain ⟨hm, A, cap, hv, hc, h⟩ := h
  refine ⟨hm, A, cap, hv, hc, fun h0 => ?_⟩
  obtain ⟨b, off, hA, hb, hx⟩ := h h0
  subst hA
  exact ⟨b, off, rfl, Nat.lt_of_lt_of_le hb ht.size, fun i x hi j u hj => by rw [ht.cell hb (hF b off cap hv h0)]; exact hx i x hi j u hj⟩

/-! ### make and copy of values -/
abbrev zval : Array Value := #[.int .i64 0, .int .i64 0, .string ⟨#[]⟩]
theorem made_size (n : Nat) : (madeCells zval (n * 3)).size = n * 3 := by simp [madeCells]

theorem run_copyN (w : World) (dT sT ty elem : TypeId) (size g dLen dCap : Nat) (a : Addr) (sLen sCap : Nat) (cur : Array Value) (t : TypeId) (cs : List Value)
    (hu : Tryd.prog.underlying dT = some (.slice elem)) (hs : (Tryd.prog.info? elem).map (·.size) = some size)
    (hg : w.heap[g]? = some (.cells cur t (0, 0))) (hn : cs.length = Nat.min sLen dLen * size)
    (hsrc : ∀ j v, cs[j]? = some v → w.cell? (a.add j) = some v) (hfit : cs.length ≤ cur.size) (h1 : ∀ v ∈ cs, v.oneCell' = true) :
    (Builtin.copy_ #[dT, sT] ty #[.slice (some ⟨g, 0, none⟩) dLen dCap, .slice (some a) sLen sCap]).run Tryd.prog w = .ok (goInt (Nat.min sLen dLen)) (w.setRow g (cs ++ cur.toList.drop cs.length).toArray) := by
  have hst := run_storeCells_at Tryd.prog g 0 t cs 0 cur w hg (by simpa using hfit) h1
  simp only [Nat.add_zero, List.take_zero, List.nil_append, Nat.zero_add] at hst
  cases hq : Tryd.prog.info? elem with
  | none => simp [hq] at hs
  | some i =>
    have hi : i.size = size := by simpa [hq] using hs
    have hl := run_firstCells_some (P := Tryd.prog) w i.size (Nat.min sLen dLen) a sLen sCap cs (by rw [hi]; exact hn) hsrc
    simp [Builtin.copy_, run_underlying hu, Builtin.lenOf, sizeOf, typeInfo, hq, hl, hst]

theorem one_cs {xs : List Val} : ∀ u ∈ flat Val.cs xs, u.oneCell' = true := by
  intro u hu
  obtain ⟨x, _, h⟩ := List.mem_flatMap.1 hu
  simp only [Val.cs, List.mem_cons, List.not_mem_nil, or_false] at h
  rcases h with rfl | rfl | rfl <;> rfl
/-- the cells of a list in memory, one by one -/
theorem SlOf.src {α : Type} {w : World} {n : Nat} {en : α → List Value} {v : Value} {xs : List α} (hen : ∀ x, (en x).length = n) (h : SlOf w n en v xs) (h0 : 0 < xs.length) : ∃ a cap, v = .slice (some a) xs.length cap ∧ ∀ j u, (flat en xs)[j]? = some u → w.cell? (a.add j) = some u := by
  obtain ⟨b, off, cap, rfl, hc, hb, hx⟩ := h.at_ h0
  refine ⟨⟨b, off, none⟩, cap, rfl, fun j u hu => ?_⟩
  rw [add_off]
  have hj := (List.getElem?_eq_some_iff.1 hu).1
  rw [flat_len hen] at hj
  have hn : 0 < n := Nat.pos_of_ne_zero fun e => by subst e; omega
  have hi : j / n < xs.length := Nat.div_lt_of_lt_mul (by rw [Nat.mul_comm]; exact hj)
  have hr := Nat.mod_lt j hn
  have ej : j / n * n + j % n = j := by rw [Nat.mul_comm]; exact Nat.div_add_mod j n
  have hx0 : xs[j / n]? = some xs[j / n] := List.getElem?_eq_getElem hi
  have hl : j % n < (en xs[j / n]).length := by rw [hen]; exact hr
  have h2 := flat_at hen xs (j / n) _ (j % n) _ hx0 (List.getElem?_eq_getElem hl)
  rw [ej, hu] at h2
  have := hx (j / n) _ hx0 (j % n) _ (List.getElem?_eq_getElem hl)
  rw [← h2] at this
  rw [← ej, show off + (j / n * n + j % n) = off + j / n * n + j % n by omega]
  exact this

theorem sr_cell (w : World) (g b o : Nat) (cs : Array Value) (h : b ≠ g) : (w.setRow g cs).cell? ⟨b, o, none⟩ = w.cell? ⟨b, o, none⟩ := cell_setRow_other w g cs _ h
theorem sr_frozen (w : World) (g b o : Nat) (cs : Array Value) (h : b ≠ g) : (w.setRow g cs).frozen? ⟨b, o, none⟩ = w.frozen? ⟨b, o, none⟩ := World.frozen?_of_block (a := ⟨b, o, none⟩) (setRow_other w g b cs h)
theorem ne_02 (a : Nat) : (a = a + 1 + 1) = False := eq_false (by omega)
theorem ne_03 (a : Nat) : (a = a + 1 + 1 + 1) = False := eq_false (by omega)
theorem ne_12 (a : Nat) : (a + 1 = a + 1 + 1) = False := eq_false (by omega)
theorem ne_13 (a : Nat) : (a + 1 = a + 1 + 1 + 1) = False := eq_false (by omega)
attribute [go_sem] sr_cell sr_frozen size_setRow ne_02 ne_03 ne_12 ne_13
theorem hp_0 (w : World) (a b c d : Obj) : ((((w.alloc a).alloc b).alloc c).alloc d).drew.heap[w.heap.size]? = some a := by
  rw [heap_drew]
  exact (heap_alloc_old _ _ (by simp only [World.alloc, Array.size_push]; omega)).trans ((heap_alloc_old _ _ (by simp only [World.alloc, Array.size_push]; omega)).trans ((heap_alloc_old _ _ (by simp only [World.alloc, Array.size_push]; omega)).trans (heap_alloc_new _ _)))
theorem hp_1 (w : World) (a b c d : Obj) : ((((w.alloc a).alloc b).alloc c).alloc d).drew.heap[w.heap.size + 1]? = some b := by
  have e : (w.alloc a).heap.size = w.heap.size + 1 := by simp
  rw [← e, heap_drew]
  exact (heap_alloc_old _ _ (by simp only [World.alloc, Array.size_push]; omega)).trans ((heap_alloc_old _ _ (by simp only [World.alloc, Array.size_push]; omega)).trans (heap_alloc_new _ _))
theorem hp_2 (w : World) (a b c d : Obj) : ((((w.alloc a).alloc b).alloc c).alloc d).drew.heap[w.heap.size + 1 + 1]? = some c := by
  have e : ((w.alloc a).alloc b).heap.size = w.heap.size + 1 + 1 := by simp
  rw [← e, heap_drew]
  exact (heap_alloc_old _ _ (by simp)).trans (heap_alloc_new _ _)
theorem hp_3 (w : World) (a b c d : Obj) : ((((w.alloc a).alloc b).alloc c).alloc d).drew.heap[w.heap.size + 1 + 1 + 1]? = some d := by
  have e : (((w.alloc a).alloc b).alloc c).heap.size = w.heap.size + 1 + 1 + 1 := by simp
  rw [← e, heap_drew]
  exact heap_alloc_new _ _
theorem Touch.set1 {w w' : World} {b : Nat} (h : Touch (fun k => k = b) w w') (o : Nat) (v : Value) : Touch (fun k => k = b) w (w'.setCell ⟨b, o, none⟩ v) := Touch.set (p := ⟨b, o, none⟩) h (.inl rfl) v
theorem ownsRow_form {w : World} {lo : Nat} {e : TypeId} {size : Nat} {v : Value} {n : Nat} {xs : List Value} (h : w.ownsRow lo e size v n xs) : ∃ A cap, v = .slice A n cap := by
  rcases h.2 with ⟨rfl, rfl⟩ | ⟨g, cap, _, rfl, _⟩
  · exact ⟨_, _, rfl⟩
  · exact ⟨_, _, rfl⟩
theorem hq_0 (w : World) (a b c : Obj) : (((w.alloc a).alloc b).alloc c).heap[w.heap.size]? = some a :=
  (heap_alloc_old _ _ (by simp only [World.alloc, Array.size_push]; omega)).trans ((heap_alloc_old _ _ (by simp only [World.alloc, Array.size_push]; omega)).trans (heap_alloc_new _ _))
theorem hq_1 (w : World) (a b c : Obj) : (((w.alloc a).alloc b).alloc c).heap[w.heap.size + 1]? = some b := by
  have e : (w.alloc a).heap.size = w.heap.size + 1 := by simp
  rw [← e]
  exact (heap_alloc_old _ _ (by simp)).trans (heap_alloc_new _ _)
theorem hq_2 (w : World) (a b c : Obj) : (((w.alloc a).alloc b).alloc c).heap[w.heap.size + 1 + 1]? = some c := by
  have e : ((w.alloc a).alloc b).heap.size = w.heap.size + 1 + 1 := by simp
  rw [← e]
  exact heap_alloc_new _ _
theorem grownBy_below {w w' : World} {n g : Nat} (h : w.grownBy w' (some g)) (hn : n ≤ g) (hw : n ≤ w.heap.size) : Below n w w' :=
  ⟨h.os, h.tape, h.output, h.size, fun k hk => h.block k (by omega) (by simp; omega)⟩

theorem app_1 {w w1 : World} {a b c : Obj} (h : (((w.alloc a).alloc b).alloc c).grownBy w1 (some (w.heap.size + 1 + 1))) : w1.heap[w.heap.size]? = some a ∧ w1.heap[w.heap.size + 1]? = some b ∧ Below w.heap.size w w1 := by
  have hs : (((w.alloc a).alloc b).alloc c).heap.size = w.heap.size + 3 := by simp
  refine ⟨(h.block _ (by omega) (by simp only [ne_eq, Option.some.injEq]; omega)).trans (hq_0 _ _ _ _), (h.block _ (by omega) (by simp only [ne_eq, Option.some.injEq]; omega)).trans (hq_1 _ _ _ _), ?_⟩
  have h0 : Below w.heap.size w (((w.alloc a).alloc b).alloc c) := bl_al (bl_al (bl_al (Below.refl _ _) _) _) _
  exact h0.trans (grownBy_below h (by omega) (by omega))
theorem app_2 {w w1 : World} {c : Obj} {g : Nat} (hg : g = w.heap.size) (h : (w.alloc c).grownBy w1 (some g)) : Below w.heap.size w w1 :=
  (bl_al (Below.refl _ _) _).trans (grownBy_below h (by omega) (by simp))

theorem cells2 {w : World} {b : Nat} {T : TypeId} {x y : Value} (h : w.heap[b]? = some (.cells #[x, y] T)) : w.cell? ⟨b, 0, none⟩ = some x ∧ w.cell? ⟨b, 1, none⟩ = some y ∧ w.frozen? ⟨b, 0, none⟩ = false ∧ w.frozen? ⟨b, 1, none⟩ = false :=
  ⟨by rw [cell_of_row w b _ _ _ _ h]; rfl, by rw [cell_of_row w b _ _ _ _ h]; rfl, frozen_of_row w b _ _ _ h, frozen_of_row w b _ _ _ h⟩

theorem news_gr {W : World} {p : Regrown} {o : Array Value} {t : TypeId} {B : Nat} (hB : B = W.heap.size + p.os.size) : ∀ j u, o.toList[j]? = some u → ((gr W p).alloc (.cells o t)).cell? ((⟨B, 0, none⟩ : Addr).add j) = some u := by
  subst hB
  rw [← gr_size]
  exact World.news_of_block (heap_alloc_new _ _)
end Go.Proofs.YtiagegecnopfgaaDoor
