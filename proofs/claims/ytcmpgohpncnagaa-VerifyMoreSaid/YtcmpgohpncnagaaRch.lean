/- Plain: what is reachable from the first node of a graph, found by a worklist and by passes to a fixed point. -/
import Derived.Test.YtcmpgohpncnagaaBase
namespace Go.Proofs.Ytcmpgohpncnagaa
set_option linter.all false
open Go.Sort

/-- b is reachable from 0 along E -/
def Rch (E : Nat → Nat → Prop) (x : Nat) : Prop := ∀ S : Nat → Prop, S 0 → (∀ a b, S a → E a b → S b) → S x
section
variable {E : Nat → Nat → Prop} {n : Nat}
theorem Rch.zero : Rch E 0 := fun _ h _ => h
theorem Rch.step {a b : Nat} (h : Rch E a) (e : E a b) : Rch E b := fun S h0 hs => hs a b (h S h0 hs) e
theorem Rch.ind {S : Nat → Prop} {x : Nat} (h : Rch E x) (h0 : S 0) (hs : ∀ a b, Rch E a → S a → E a b → S b) : S x :=
  (h (fun y => Rch E y ∧ S y) ⟨Rch.zero, h0⟩ fun a b ⟨ha, sa⟩ e => ⟨ha.step e, hs a b ha sa e⟩).2
theorem Rch.mono {F : Nat → Nat → Prop} {x : Nat} (hm : ∀ a b, E a b → F a b) (h : Rch E x) : Rch F x := h.ind Rch.zero fun a b _ sa e => sa.step (hm a b e)
theorem Rch.lt {x : Nat} (h : Rch E x) (hn : 0 < n) (hE : ∀ a b, E a b → b < n) : x < n := h.ind hn fun a b _ _ e => hE a b e
open Classical in
/-- the marks of the reachable -/
noncomputable def rchL (E : Nat → Nat → Prop) (n : Nat) : List Bool := (List.range n).map fun x => decide (Rch E x)
theorem rchL_len : (rchL E n).length = n := by simp [rchL]
theorem rchL_at {x : Nat} (hx : x < n) : (rchL E n)[x]? = some true ↔ Rch E x := by
  unfold rchL
  simp [hx]
theorem rchL_off {x : Nat} (hx : x < n) : (rchL E n)[x]? = some false ↔ ¬ Rch E x := by
  unfold rchL
  simp [hx]
theorem rchL_eq {o : List Bool} (hl : o.length = n) (h : ∀ x, x < n → (o[x]? = some true ↔ Rch E x)) : o = rchL E n := by
  apply List.ext_getElem?
  intro i
  by_cases hi : i < n
  · have h1 := h i hi
    have h2 := rchL_at (E := E) hi
    rw [List.getElem?_eq_getElem (by omega)] at h1 ⊢
    rw [List.getElem?_eq_getElem (by rw [rchL_len]; exact hi)] at h2 ⊢
    simp only [Option.some.injEq] at h1 h2 ⊢
    rw [Bool.eq_iff_iff, h1, h2]
  · rw [List.getElem?_eq_none (by omega), List.getElem?_eq_none (by rw [rchL_len]; omega)]

/-! ### counting what is not yet marked -/
def cf (o : List Bool) : Nat := o.countP fun b => !b
theorem cf_set {o : List Bool} {t : Nat} (h : o[t]? = some false) : cf (o.set t true) + 1 = cf o := by
  unfold cf
  induction o generalizing t with
  | nil => simp at h
  | cons a o ih =>
    cases t with
    | zero =>
      simp only [List.getElem?_cons_zero, Option.some.injEq] at h
      subst h
      simp
    | succ t =>
      simp only [List.getElem?_cons_succ] at h
      have := ih h
      simp only [List.set_cons_succ, List.countP_cons]
      omega
theorem cf_le (o : List Bool) : cf o ≤ o.length := List.countP_le_length
theorem cf_all : ∀ n : Nat, cf (List.replicate n false) = n
  | 0 => rfl
  | n + 1 => by
    have := cf_all n
    unfold cf at this ⊢
    rw [List.replicate_succ, List.countP_cons, this]
    rfl

/-! ### the worklist -/
/-- a node is met -/
def vis (s : List Bool × List Nat) (t : Nat) : List Bool × List Nat := if s.1.getD t true then s else (s.1.set t true, s.2 ++ [t])
structure Bas (E : Nat → Nat → Prop) (n : Nat) (s : List Bool × List Nat) : Prop where
  len : s.1.length = n
  mks : ∀ x, s.1[x]? = some true ↔ x ∈ s.2
  cnt : s.2.length + cf s.1 = n
  rch : ∀ x ∈ s.2, Rch E x
theorem Bas.lt {s : List Bool × List Nat} (h : Bas E n s) {x : Nat} (hx : x ∈ s.2) : x < n := by
  have := (List.getElem?_eq_some_iff.1 ((h.mks x).2 hx)).1
  rw [h.len] at this
  exact this
theorem Bas.vis {s : List Bool × List Nat} (h : Bas E n s) {t : Nat} (ht : t < n) (hr : Rch E t) : Bas E n (vis s t) ∧ (∃ r, (Go.Proofs.Ytcmpgohpncnagaa.vis s t).2 = s.2 ++ r) ∧ t ∈ (Go.Proofs.Ytcmpgohpncnagaa.vis s t).2 := by
  obtain ⟨o, l⟩ := s
  obtain ⟨h1, h2, h3, h4⟩ := h
  dsimp only at h1 h2 h3 h4
  have ht' : t < o.length := by omega
  unfold Go.Proofs.Ytcmpgohpncnagaa.vis
  dsimp only
  rw [List.getD_eq_getElem?_getD, List.getElem?_eq_getElem ht', Option.getD_some]
  cases hb : o[t] with
  | true =>
    rw [if_pos rfl]
    exact ⟨⟨h1, h2, h3, h4⟩, ⟨[], by simp⟩, (h2 t).1 (by rw [List.getElem?_eq_getElem ht', hb])⟩
  | false =>
    rw [if_neg (by simp)]
    have hf : o[t]? = some false := by rw [List.getElem?_eq_getElem ht', hb]
    have hc := cf_set hf
    refine ⟨⟨by simpa using h1, fun x => ?_, ?_, fun x hx => ?_⟩, ⟨[t], rfl⟩, by simp⟩
    · dsimp only
      rw [List.getElem?_set, List.mem_append, List.mem_singleton]
      by_cases hx : t = x
      · subst hx
        simp [ht']
      · rw [if_neg hx, h2 x]
        exact ⟨.inl, fun h => h.elim id fun e => absurd e.symm hx⟩
    · simp only [List.length_append, List.length_singleton]
      omega
    · rcases List.mem_append.1 hx with hx | hx
      · exact h4 x hx
      · rw [List.mem_singleton.1 hx]
        exact hr
theorem Bas.fold {ts : List Nat} : ∀ {s : List Bool × List Nat}, Bas E n s → (∀ t ∈ ts, t < n ∧ Rch E t) → Bas E n (ts.foldl Go.Proofs.Ytcmpgohpncnagaa.vis s) ∧ (∃ r, (ts.foldl Go.Proofs.Ytcmpgohpncnagaa.vis s).2 = s.2 ++ r) ∧ ∀ t ∈ ts, t ∈ (ts.foldl Go.Proofs.Ytcmpgohpncnagaa.vis s).2 := by
  induction ts with
  | nil => intro s h _; exact ⟨h, ⟨[], by simp⟩, by simp⟩
  | cons t ts ih =>
    intro s h ht
    obtain ⟨b1, ⟨r1, e1⟩, m1⟩ := h.vis (ht t (List.mem_cons_self ..)).1 (ht t (List.mem_cons_self ..)).2
    obtain ⟨b2, ⟨r2, e2⟩, m2⟩ := ih b1 fun u hu => ht u (List.mem_cons_of_mem _ hu)
    refine ⟨b2, ⟨r1 ++ r2, by rw [List.foldl_cons, e2, e1, List.append_assoc]⟩, fun u hu => ?_⟩
    rw [List.foldl_cons]
    rcases List.mem_cons.1 hu with rfl | hu
    · rw [e2]
      exact List.mem_append_left _ m1
    · exact m2 u hu
/-- the worklist's state behind i of its nodes -/
structure WL (E : Nat → Nat → Prop) (n i : Nat) (s : List Bool × List Nat) : Prop where
  bas : Bas E n s
  fst : 0 ∈ s.2
  le : i ≤ s.2.length
  cl : ∀ j, j < i → ∀ a, s.2[j]? = some a → ∀ b, E a b → b ∈ s.2
theorem WL.start (hn : 0 < n) : WL E n 0 ((List.replicate n false).set 0 true, [0]) := by
  have h0 : (List.replicate n false)[0]? = some false := by simp [hn]
  have hc := cf_set h0
  rw [cf_all] at hc
  refine ⟨⟨by simp, fun x => ?_, by simp only [List.length_singleton]; omega, fun x hx => ?_⟩, by simp, by simp, fun j hj => absurd hj (Nat.not_lt_zero _)⟩
  · dsimp only
    rw [List.getElem?_set, List.mem_singleton]
    by_cases hx : 0 = x
    · subst hx
      simp [hn]
    · rw [if_neg hx]
      simp only [List.getElem?_replicate]
      constructor
      · intro h
        split at h <;> simp at h
      · intro e
        exact absurd e.symm hx
  · rw [List.mem_singleton.1 hx]
    exact Rch.zero
theorem WL.next {s : List Bool × List Nat} {i a : Nat} (h : WL E n i s) (ha : s.2[i]? = some a) {ts : List Nat} (hE : ∀ b, E a b ↔ b ∈ ts) (hlt : ∀ b ∈ ts, b < n) : WL E n (i + 1) (ts.foldl vis s) := by
  have ra := h.bas.rch a (List.mem_of_getElem? ha)
  obtain ⟨b, ⟨r, e⟩, m⟩ := h.bas.fold (ts := ts) fun t ht => ⟨hlt t ht, ra.step ((hE t).2 ht)⟩
  have hi := (List.getElem?_eq_some_iff.1 ha).1
  refine ⟨b, by rw [e]; exact List.mem_append_left _ h.fst, by rw [e, List.length_append]; omega, fun j hj x hx y hy => ?_⟩
  rw [e, List.getElem?_append_left (by omega)] at hx
  by_cases hji : j < i
  · rw [e]
    exact List.mem_append_left _ (h.cl j hji x hx y hy)
  · obtain rfl : j = i := by omega
    rw [ha] at hx
    cases hx
    exact m y ((hE y).1 hy)
theorem WL.len {s : List Bool × List Nat} {i : Nat} (h : WL E n i s) : s.2.length ≤ n := by
  have := h.bas.cnt
  omega
theorem WL.done {s : List Bool × List Nat} (h : WL E n s.2.length s) : s.1 = rchL E n :=
  rchL_eq h.bas.len fun x hx => by
    rw [h.bas.mks]
    constructor
    · exact h.bas.rch x
    · intro hr
      refine hr.ind h.fst fun a b _ ha e => ?_
      obtain ⟨j, hj, hja⟩ := List.getElem_of_mem ha
      exact h.cl j hj a (by rw [List.getElem?_eq_getElem hj, hja]) b e

/-! ### passes -/
/-- marks so far: sound -/
structure Snd (E : Nat → Nat → Prop) (n : Nat) (o : List Bool) : Prop where
  len : o.length = n
  rch : ∀ x : Nat, o[x]? = some true → Rch E x
/-- marks o behind marks p, m: has something been added -/
structure Adds (E : Nat → Nat → Prop) (n : Nat) (p o : List Bool) (m : Bool) : Prop where
  snd : Snd E n o
  le : ∀ x : Nat, p[x]? = some true → o[x]? = some true
  same : m = false → o = p
  more : m = true → cf o < cf p
theorem Snd.adds {o : List Bool} (h : Snd E n o) : Adds E n o o false := ⟨h, fun _ h => h, fun _ => rfl, by simp⟩
theorem Adds.set {p o : List Bool} {m : Bool} (h : Adds E n p o m) {t : Nat} (hf : o[t]? = some false) (hr : Rch E t) : Adds E n p (o.set t true) true := by
  have hl := (List.getElem?_eq_some_iff.1 hf).1
  have hc := cf_set hf
  have up : ∀ x : Nat, o[x]? = some true → (o.set t true)[x]? = some true := fun x hx => by
    rw [List.getElem?_set]
    split
    · rename_i e
      subst e
      exact absurd (hf.symm.trans hx) (by simp)
    · exact hx
  refine ⟨⟨by simpa using h.snd.len, fun x hx => ?_⟩, fun x hx => up x (h.le x hx), by simp, fun _ => ?_⟩
  · by_cases e : t = x
    · subst e
      exact hr
    · rw [List.getElem?_set, if_neg e] at hx
      exact h.snd.rch x hx
  · cases m with
    | false =>
      have := h.same rfl
      subst this
      omega
    | true =>
      have := h.more rfl
      omega
/-- nothing was added: the marks are closed under E -/
theorem Snd.done {o : List Bool} (h : Snd E n o) (h0 : o[0]? = some true) (hcl : ∀ a b, o[a]? = some true → E a b → o[b]? = some true) : o = rchL E n :=
  rchL_eq h.len fun x _ => ⟨h.rch x, fun hr => hr.ind h0 fun a b _ ha e => hcl a b ha e⟩
end
end Go.Proofs.Ytcmpgohpncnagaa
