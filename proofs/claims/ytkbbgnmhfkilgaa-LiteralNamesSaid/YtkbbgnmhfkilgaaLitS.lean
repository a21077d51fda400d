/- Plain laws: identifiers, and words among space-separated words. -/
import Derived.Test.YtkbbgnmhfkilgaaLitO
namespace Go.Proofs.Ytkbbgnmhfkilgaa
set_option linter.all false

def letB (n : Int) : Bool := ((decide (97 ≤ n) && decide (n ≤ 122)) || (decide (65 ≤ n) && decide (n ≤ 90))) || n == 95 || n == 36
def digB (n : Int) : Bool := decide (48 ≤ n) && decide (n ≤ 57)
def contB (n : Int) : Bool := letB n || digB n
def runGo (s : ByteArray) : Nat → Nat → Nat
  | 0, i => i
  | f + 1, i => if i < s.size then (if contB (byI s i) then runGo s f (i + 1) else i) else i
/-- the end of the identifier at a place -/
def nameEnd (s : ByteArray) (a : Nat) : Nat := runGo s s.size (a + 1)
structure Nam where
  t : ByteArray
  n : Int
def nameM (s : ByteArray) (a : Int) : Nam :=
  if a < 0 ∨ s.size ≤ a then ⟨⟨#[]⟩, 0⟩ else if letB (byI s a.toNat) then ⟨s.extract a.toNat (nameEnd s a.toNat), nameEnd s a.toNat⟩ else ⟨⟨#[]⟩, 0⟩

theorem runGo_le (s : ByteArray) : ∀ (f i : Nat), i ≤ s.size → i ≤ runGo s f i ∧ runGo s f i ≤ s.size
  | 0, i, h => ⟨Nat.le_refl _, h⟩
  | f + 1, i, h => by
    unfold runGo
    split
    · split
      · have := runGo_le s f (i + 1) (by omega)
        omega
      · omega
    · omega
theorem nameEnd_le (s : ByteArray) (a : Nat) (h : a < s.size) : a < nameEnd s a ∧ nameEnd s a ≤ s.size := by
  have := runGo_le s s.size (a + 1) (by omega)
  unfold nameEnd
  omega
theorem runGo_end (s : ByteArray) (f i : Nat) (h : ¬ i < s.size) : runGo s f i = i := by
  cases f
  · rfl
  · rw [runGo, if_neg h]
theorem runGo_stop (s : ByteArray) (f i : Nat) (h : i < s.size) (k : contB (byI s i) = false) : runGo s (f + 1) i = i := by
  rw [runGo, if_pos h, k, if_neg (by simp)]
theorem runGo_go (s : ByteArray) (f i : Nat) (h : i < s.size) (k : contB (byI s i) = true) : runGo s (f + 1) i = runGo s f (i + 1) := by
  rw [runGo, if_pos h, k, if_pos rfl]

/-- is it an identifier? -/
def isIdL : List UInt8 → Bool
  | [] => false
  | c :: r => letB (c.toNat : Int) && r.all fun x => contB (x.toNat : Int)
theorem runGo_all (s : ByteArray) : ∀ (f i : Nat), s.size ≤ i + f → i ≤ s.size → (runGo s f i = s.size ↔ (s.data.toList.drop i).all (fun x => contB (x.toNat : Int)) = true)
  | 0, i, hf, hi => by
    have e : i = s.size := by omega
    subst e
    rw [List.drop_eq_nil_of_le (by simp)]
    simp [runGo]
  | f + 1, i, hf, hi => by
    by_cases h : i < s.size
    · rw [drop_cons s i h, List.all_cons]
      have e := byI_at s i h
      cases k : contB (byI s i)
      · rw [runGo_stop s f i h k, e, k]
        simp
        omega
      · rw [runGo_go s f i h k, e, k]
        simpa using runGo_all s f (i + 1) (by omega) (by omega)
    · rw [runGo_end s _ i h, List.drop_eq_nil_of_le (by simp; omega)]
      simp
      omega
theorem ba_ext {a b : ByteArray} (h : a.data.toList = b.data.toList) : a = b := by
  obtain ⟨⟨x⟩⟩ := a
  obtain ⟨⟨y⟩⟩ := b
  simp at h
  rw [h]
theorem name_id (s : ByteArray) : ((nameM s 0).t = s ∧ s ≠ ⟨#[]⟩) ↔ isIdL s.data.toList = true := by
  by_cases h0 : s.size = 0
  · have e : s.data.toList = [] := List.eq_nil_of_length_eq_zero (by simpa using h0)
    have es : s = ⟨#[]⟩ := ba_ext (by rw [e])
    rw [e]
    constructor
    · intro h
      exact absurd es h.2
    · intro h
      cases h
  · have hlt : 0 < s.size := by omega
    have hn : ¬ s = ⟨#[]⟩ := fun e => by rw [e] at h0; exact h0 rfl
    have hd := drop_cons s 0 hlt
    rw [List.drop_zero] at hd
    rw [hd, isIdL]
    rw [show ((s[0].toNat : Nat) : Int) = byI s 0 from byI_at s 0 hlt]
    unfold nameM
    rw [if_neg (by omega)]
    simp only [show (0 : Int).toNat = 0 from rfl]
    cases k : letB (byI s 0)
    · simp
      intro e
      exact absurd e.symm hn
    · simp only [if_true, Bool.true_and]
      have hr := runGo_all s s.size (0 + 1) (by omega) (by omega)
      have hb := nameEnd_le s 0 hlt
      rw [← hr]
      constructor
      · rintro ⟨h, _⟩
        have := congrArg ByteArray.size h
        rw [ByteArray.size_extract] at this
        unfold nameEnd at this hb
        omega
      · intro h
        refine ⟨?_, hn⟩
        rw [nameEnd, h]
        apply ba_ext
        rw [Lib.extract_to_end, List.drop_zero]

/-! ### words -/
def sp : List UInt8 → List (List UInt8)
  | [] => [[]]
  | c :: r => if c = 32 then [] :: sp r else match sp r with
    | [] => [[c]]
    | h :: t => (c :: h) :: t
theorem sp_ne : ∀ l, sp l ≠ []
  | [] => by simp [sp]
  | c :: r => by
    unfold sp
    split
    · simp
    · split <;> simp
theorem sp_none : ∀ u : List UInt8, 32 ∉ u → sp u = [u]
  | [], _ => rfl
  | c :: r, h => by
    simp only [List.mem_cons, not_or] at h
    rw [sp, if_neg (fun e => h.1 e.symm), sp_none r h.2]
theorem sp_cut : ∀ (u b : List UInt8), 32 ∉ u → sp (u ++ 32 :: b) = u :: sp b
  | [], b, _ => by rw [List.nil_append, sp, if_pos rfl]
  | c :: r, b, h => by
    simp only [List.mem_cons, not_or] at h
    rw [List.cons_append, sp, if_neg (fun e => h.1 e.symm), sp_cut r b h.2]
theorem split_first : ∀ l : List UInt8, 32 ∉ l ∨ ∃ u b, l = u ++ 32 :: b ∧ 32 ∉ u
  | [] => .inl (by simp)
  | c :: r => by
    by_cases hc : c = 32
    · exact .inr ⟨[], r, by rw [hc]; rfl, by simp⟩
    · rcases split_first r with h | ⟨u, b, e, h⟩
      · exact .inl (by simp only [List.mem_cons, not_or]; exact ⟨fun e => hc e.symm, h⟩)
      · exact .inr ⟨c :: u, b, by rw [e]; rfl, by simp only [List.mem_cons, not_or]; exact ⟨fun e => hc e.symm, h⟩⟩

theorem first_eq : ∀ (s u : List UInt8) (q : List UInt8), 32 ∉ s → 32 ∉ u → (s ++ [32] <+: u ++ 32 :: q ↔ s = u)
  | [], [], q, _, _ => by simp
  | [], c :: u, q, _, h => by
    simp only [List.mem_cons, not_or] at h
    constructor
    · rintro ⟨t, ht⟩
      simp at ht
      exact absurd ht.1 h.1
    · intro e
      cases e
  | c :: s, [], q, h, _ => by
    simp only [List.mem_cons, not_or] at h
    constructor
    · rintro ⟨t, ht⟩
      simp at ht
      exact absurd ht.1.symm h.1
    · intro e
      cases e
  | c :: s, d :: u, q, h, k => by
    simp only [List.mem_cons, not_or] at h k
    rw [List.cons_append, List.cons_append, List.cons_prefix_cons, first_eq s u q h.2 k.2, List.cons.injEq]
theorem infix_skip (s : List UInt8) : ∀ (u q : List UInt8), 32 ∉ u → (32 :: s ++ [32] <:+: u ++ 32 :: q ↔ 32 :: s ++ [32] <:+: 32 :: q)
  | [], q, _ => Iff.rfl
  | c :: u, q, h => by
    simp only [List.mem_cons, not_or] at h
    rw [List.cons_append (a := c), List.infix_cons_iff, infix_skip s u q h.2]
    constructor
    · rintro (⟨t, ht⟩ | h')
      · simp at ht
        exact absurd ht.1 h.1
      · exact h'
    · exact .inr
theorem infix_words (s : List UInt8) (hs : 32 ∉ s) : ∀ (n : Nat) (A : List UInt8), A.length ≤ n → (32 :: s ++ [32] <:+: 32 :: A ++ [32] ↔ s ∈ sp A)
  | n, A, hn => by
    rcases split_first A with h | ⟨u, b, rfl, h⟩
    · rw [sp_none A h, List.mem_singleton, List.cons_append, List.cons_append, List.infix_cons_iff, List.cons_prefix_cons]
      have e := first_eq s A [] hs h
      have e2 := infix_skip s A [] h
      rw [List.cons_append] at e2
      rw [e2, e]
      constructor
      · rintro (⟨_, h1⟩ | h1)
        · exact h1
        · have := h1.length_le
          simp at this
      · intro h1
        exact .inl ⟨rfl, h1⟩
    · match n, hn with
      | 0, hn => simp at hn
      | n + 1, hn =>
        rw [sp_cut u b h, List.mem_cons, ← infix_words s hs n b (by simp at hn; omega)]
        have e0 : 32 :: (u ++ 32 :: b) ++ [32] = 32 :: (u ++ 32 :: (b ++ [32])) := by simp
        have e2 := infix_skip s u (b ++ [32]) h
        rw [List.cons_append] at e2
        rw [e0]
        show (32 :: (s ++ [32]) <:+: 32 :: (u ++ 32 :: (b ++ [32]))) ↔ (s = u ∨ 32 :: (s ++ [32]) <:+: 32 :: (b ++ [32]))
        rw [List.infix_cons_iff, List.cons_prefix_cons, first_eq s u (b ++ [32]) hs h, e2]
        simp
theorem occ_infix (s sub : List UInt8) : Lib.contains s sub = true ↔ sub <:+: s := by
  unfold Lib.contains
  rw [decide_eq_true_iff]
  rcases Lib.index_spec s sub with ⟨h, hn⟩ | ⟨i, h, hi, ho, _⟩
  · rw [h]
    constructor
    · intro h; omega
    · rintro ⟨p, q, e⟩
      have := hn p.length (by rw [← e]; simp)
      rw [← e] at this
      have h2 : sub.isPrefixOf (sub ++ q) = true := by simp
      simp only [Lib.occAt, List.append_assoc, List.drop_left, h2] at this
      cases this
  · rw [h]
    constructor
    · intro _
      unfold Lib.occAt at ho
      have ho' : sub <+: s.drop i := by simpa using ho
      exact ho'.isInfix.trans (List.drop_suffix i s).isInfix
    · intro _; omega
theorem contains_word (A s : List UInt8) (hs : 32 ∉ s) : Lib.contains (32 :: A ++ [32]) (32 :: s ++ [32]) = decide (s ∈ sp A) := by
  rw [Bool.eq_iff_iff, occ_infix, decide_eq_true_iff]
  exact infix_words s hs A.length A (Nat.le_refl _)
end Go.Proofs.Ytkbbgnmhfkilgaa
