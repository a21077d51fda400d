/- The plain law of the stable sort: what it is for a list of keys to be another one, sorted and with equals in their order. -/
import Derived.Test.YtippimonpdeioaaSrA
namespace Go.Proofs.Ytippimonpdeioaa
set_option linter.all false

def ltK (a b : Val) : Bool := decide (orderM a b < 0)
theorem cmpM_lt (a b : Int) : cmpM a b < 0 ↔ a < b := by
  unfold cmpM
  split
  · simp [*]
  · split <;> simp [*]
theorem ltK_iff (a b : Val) : ltK a b = true ↔ (a.k = 0 ∧ b.k = 0 ∧ a.n < b.n) ∨ (¬ (a.k = 0 ∧ b.k = 0) ∧ a.k < b.k) := by
  unfold ltK orderM
  rw [decide_eq_true_iff]
  split
  · rename_i h
    rw [cmpM_lt]
    constructor
    · exact fun hl => .inl ⟨h.1, h.2, hl⟩
    · rintro (hl | hl)
      · exact hl.2.2
      · exact absurd h hl.1
  · rename_i h
    rw [cmpM_lt]
    constructor
    · exact fun hl => .inr ⟨h, hl⟩
    · rintro (hl | hl)
      · exact absurd ⟨hl.1, hl.2.1⟩ h
      · exact hl.2
def leK (a b : Val) : Prop := ltK b a = false
theorem leK_iff (a b : Val) : leK a b ↔ ¬ ((b.k = 0 ∧ a.k = 0 ∧ b.n < a.n) ∨ (¬ (b.k = 0 ∧ a.k = 0) ∧ b.k < a.k)) := by
  unfold leK
  rw [← ltK_iff, Bool.not_eq_true]
theorem leK_trans {a b c : Val} (h1 : leK a b) (h2 : leK b c) : leK a c := by
  rw [leK_iff] at *
  omega
theorem leK_refl (a : Val) : leK a a := by
  rw [leK_iff]
  omega
theorem lt_leK {a b : Val} (h : ltK a b = true) : leK a b := by
  rw [ltK_iff] at h
  rw [leK_iff]
  omega
theorem lt_le_lt {a b c : Val} (h : ltK a b = true) (h2 : leK b c) : ltK a c = true := by
  rw [ltK_iff] at *
  rw [leK_iff] at h2
  omega
theorem le_lt_lt {a b c : Val} (h2 : leK a b) (h : ltK b c = true) : ltK a c = true := by
  rw [ltK_iff] at *
  rw [leK_iff] at h2
  omega

def eqK (c x : Val) : Bool := !ltK c x && !ltK x c
theorem eqK_self (c : Val) : eqK c c = true := by
  have := leK_refl c
  unfold leK at this
  simp [eqK, this]
theorem eqK_of_le {x y : Val} (h1 : leK x y) (h2 : leK y x) : eqK x y = true := by
  unfold leK at *
  simp [eqK, h1, h2]
/-- keys of one class: neither is less -/
theorem eqK_le {c x y : Val} (h1 : eqK c x = true) (h2 : eqK c y = true) : leK x y := by
  simp only [eqK, Bool.and_eq_true, Bool.not_eq_true'] at h1 h2
  exact leK_trans h1.1 h2.2

abbrev SoK (l : List Val) : Prop := l.Pairwise leK
/-- the same classes in the same order -/
def FlK (l l' : List Val) : Prop := ∀ c, l'.filter (eqK c) = l.filter (eqK c)
theorem FlK.refl (l : List Val) : FlK l l := fun _ => rfl
theorem FlK.trans {a b c : List Val} (h : FlK a b) (h2 : FlK b c) : FlK a c := fun k => (h2 k).trans (h k)
theorem FlK.app {a b c d : List Val} (h : FlK a b) (h2 : FlK c d) : FlK (a ++ c) (b ++ d) := fun k => by rw [List.filter_append, List.filter_append, h k, h2 k]
theorem FlK.comm {P Q : List Val} (h : ∀ x ∈ P, ∀ y ∈ Q, ltK y x = true) : FlK (P ++ Q) (Q ++ P) := fun c => by
  rw [List.filter_append, List.filter_append]
  by_cases hp : P.filter (eqK c) = []
  · rw [hp]
    simp
  · by_cases hq : Q.filter (eqK c) = []
    · rw [hq]
      simp
    · exfalso
      obtain ⟨x, hx⟩ := List.exists_mem_of_ne_nil _ hp
      obtain ⟨y, hy⟩ := List.exists_mem_of_ne_nil _ hq
      rw [List.mem_filter] at hx hy
      have h1 := h x hx.1 y hy.1
      have h2 := eqK_le hx.2 hy.2
      unfold leK at h2
      rw [h2] at h1
      cases h1
theorem FlK.mem {l l' : List Val} (h : FlK l l') (x : Val) : x ∈ l' ↔ x ∈ l := by
  have h1 : x ∈ l'.filter (eqK x) ↔ x ∈ l.filter (eqK x) := by rw [h x]
  rw [List.mem_filter, List.mem_filter] at h1
  simpa [eqK_self] using h1
theorem FlK.perm {l l' : List Val} (h : FlK l l') : l'.Perm l := by
  rw [List.perm_iff_count]
  intro a
  rw [← List.count_filter (l := l') (eqK_self a), ← List.count_filter (l := l) (eqK_self a), h a]
theorem FlK.len {l l' : List Val} (h : FlK l l') : l'.length = l.length := h.perm.length_eq
theorem FlK.cons {x : Val} {l l' : List Val} (h : FlK (x :: l) (x :: l')) : FlK l l' := fun c => by
  have := h c
  simp only [List.filter_cons] at this
  split at this
  · simpa using this
  · exact this

/-- l' is l, sorted, equals in their order -/
def StS (l l' : List Val) : Prop := SoK l' ∧ FlK l l'
theorem StS.self {l : List Val} (h : SoK l) : StS l l := ⟨h, FlK.refl _⟩
theorem StS.unique : ∀ {l1 l2 l : List Val}, StS l l1 → StS l l2 → l1 = l2 := by
  have key : ∀ (l1 l2 : List Val), SoK l1 → SoK l2 → FlK l1 l2 → l1 = l2 := by
    intro l1
    induction l1 with
    | nil =>
      intro l2 _ _ h
      have := h.len
      exact (List.eq_nil_of_length_eq_zero (by simpa using this)).symm
    | cons x t ih =>
      intro l2 h1 h2 h
      cases l2 with
      | nil =>
        have := h.len
        simp at this
      | cons y s =>
        have hy : y ∈ x :: t := (h.mem y).1 (List.mem_cons_self ..)
        have hx : x ∈ y :: s := (h.mem x).2 (List.mem_cons_self ..)
        have a1 : leK x y := by
          rcases List.mem_cons.1 hy with rfl | hy
          · exact leK_refl _
          · exact (List.pairwise_cons.1 h1).1 y hy
        have a2 : leK y x := by
          rcases List.mem_cons.1 hx with rfl | hx
          · exact leK_refl _
          · exact (List.pairwise_cons.1 h2).1 x hx
        have hf := h x
        rw [List.filter_cons, List.filter_cons, if_pos (eqK_of_le a1 a2), if_pos (eqK_self x)] at hf
        obtain ⟨rfl, -⟩ := List.cons.inj hf
        rw [ih s (List.pairwise_cons.1 h1).2 (List.pairwise_cons.1 h2).2 h.cons]
  intro l1 l2 l h1 h2
  exact key l1 l2 h1.1 h2.1 (fun c => (h2.2 c).trans (h1.2 c).symm)
theorem StS.fl {l0 l l' : List Val} (h : StS l l') (hf : FlK l0 l) : StS l0 l' := ⟨h.1, hf.trans h.2⟩
theorem StS.app {l1 u1 l2 u2 : List Val} (h1 : StS l1 u1) (h2 : StS l2 u2) (h : ∀ x ∈ l1, ∀ y ∈ l2, leK x y) : StS (l1 ++ l2) (u1 ++ u2) :=
  ⟨List.pairwise_append.2 ⟨h1.1, h2.1, fun x hx y hy => h x ((h1.2.mem x).1 hx) y ((h2.2.mem y).1 hy)⟩, h1.2.app h2.2⟩
/-- x laid into a sorted list behind all that are not greater -/
theorem StS.ins {S1 S2 : List Val} {x : Val} {S0 : List Val} (h : StS S0 (S1 ++ S2)) (h1 : ∀ s ∈ S1, leK s x) (h2 : ∀ s ∈ S2, ltK x s = true) : StS (S0 ++ [x]) (S1 ++ (x :: S2)) := by
  have hp := List.pairwise_append.1 h.1
  refine ⟨List.pairwise_append.2 ⟨hp.1, List.pairwise_cons.2 ⟨fun s hs => lt_leK (h2 s hs), hp.2.1⟩, fun a ha b hb => ?_⟩, ?_⟩
  · rcases List.mem_cons.1 hb with rfl | hb
    · exact h1 a ha
    · exact hp.2.2 a ha b hb
  · have e1 : FlK (S0 ++ [x]) ((S1 ++ S2) ++ [x]) := h.2.app (FlK.refl _)
    have e2 : FlK (S2 ++ [x]) ([x] ++ S2) := FlK.comm fun s hs y hy => by
      rw [List.mem_singleton.1 hy]
      exact h2 s hs
    have e3 := (FlK.refl S1).app e2
    rw [List.append_assoc] at e1
    exact e1.trans e3
/-- .. ahead of all that are not less, x standing first -/
theorem StS.ins0 {T1 T2 : List Val} {x : Val} (h : SoK (T1 ++ T2)) (h1 : ∀ s ∈ T1, ltK s x = true) (h2 : ∀ s ∈ T2, leK x s) : StS (x :: (T1 ++ T2)) (T1 ++ (x :: T2)) := by
  have hp := List.pairwise_append.1 h
  refine ⟨List.pairwise_append.2 ⟨hp.1, List.pairwise_cons.2 ⟨h2, hp.2.1⟩, fun a ha b hb => ?_⟩, ?_⟩
  · rcases List.mem_cons.1 hb with rfl | hb
    · exact lt_leK (h1 a ha)
    · exact hp.2.2 a ha b hb
  · have e2 : FlK ([x] ++ T1) (T1 ++ [x]) := FlK.comm fun s hs y hy => by
      rw [List.mem_singleton.1 hs]
      exact h1 y hy
    have e3 := e2.app (FlK.refl T2)
    simpa using e3
/-- two halves, S2 and T1 exchanged -/
theorem StS.halves {S1 S2 T1 T2 U1 U2 : List Val} (hS : SoK (S1 ++ S2)) (hT : SoK (T1 ++ T2)) (h1 : ∀ x ∈ S2, ∀ y ∈ T1, ltK y x = true) (h2 : ∀ x ∈ S1, ∀ y ∈ T2, leK x y) (k1 : StS (S1 ++ T1) U1) (k2 : StS (S2 ++ T2) U2) :
    StS ((S1 ++ S2) ++ (T1 ++ T2)) (U1 ++ U2) := by
  have pS := List.pairwise_append.1 hS
  have pT := List.pairwise_append.1 hT
  refine (k1.app k2 fun x hx y hy => ?_).fl ?_
  · rcases List.mem_append.1 hx with hx | hx <;> rcases List.mem_append.1 hy with hy | hy
    · exact pS.2.2 x hx y hy
    · exact h2 x hx y hy
    · exact lt_leK (h1 y hy x hx)
    · exact pT.2.2 x hx y hy
  · have e := ((FlK.refl S1).app (FlK.comm h1)).app (FlK.refl T2)
    simpa using e
theorem so_at {l : List Val} (h : SoK l) {i j : Nat} {x y : Val} (hi : l[i]? = some x) (hj : l[j]? = some y) (hij : i ≤ j) : leK x y := by
  rcases Nat.eq_or_lt_of_le hij with rfl | hlt
  · rw [hi] at hj
    cases hj
    exact leK_refl _
  · obtain ⟨hi', rfl⟩ := List.getElem?_eq_some_iff.1 hi
    obtain ⟨hj', rfl⟩ := List.getElem?_eq_some_iff.1 hj
    exact List.pairwise_iff_getElem.1 h i j hi' hj' hlt
end Go.Proofs.Ytippimonpdeioaa
