/- Inline caches: plain laws for CacheTold. -/
import Derived.Test.YtbgcjgnhblhohaaCaH
namespace Go.Proofs.Ytbgcjgnhblhohaa
set_option linter.all false
open Go.RowKit

/-- what the entries of a site are, when one of them was noted and others not of its kind -/
def Told (x : Ent) (c : CacheD) : Prop := ∃ s0 s : SiteD, c.sites = [s0, s] ∧ s0.l = [] ∧ s0.many = false ∧ 1 ≤ c.most ∧ c.most ≤ 4 ∧
  ((s.many = true ∧ s.l = []) ∨ (s.many = false ∧ s.l.length ≤ c.most ∧ ∃ r, s.l = x :: r ∧ ∀ y ∈ r, ofB y x.k x.sh = false))
theorem ofB_self (x : Ent) : ofB x x.k x.sh = true := by simp [ofB, Val.eq_self]
theorem ofB_comm {x y : Ent} (h : ofB y x.k x.sh = false) : ofB x y.k y.sh = false := by
  unfold ofB at h ⊢
  rw [Bool.and_eq_false_iff] at h ⊢
  rcases h with h | h
  · exact .inl (Val.eq_false.2 fun e => Val.eq_false.1 h e.symm)
  · exact .inr (beq_eq_false_iff_ne.2 fun e => beq_eq_false_iff_ne.1 h e.symm)
theorem fitB_self (x : Ent) : fitB x x.k x.sh x.ep = true := by simp [fitB, ofB_self]
theorem fitB_of {x y : Ent} (h : ofB y x.k x.sh = false) : fitB y x.k x.sh x.ep = false := by simp [fitB, h]
theorem site1 {c : CacheD} {s0 s : SiteD} (h : c.sites = [s0, s]) : siteD c 1 = some s := by simp [siteD, h]
theorem told_start (x : Ent) (m : Nat) (h1 : 1 ≤ m) (h4 : m ≤ 4) : ∃ c, noteC (newD 2 m) 1 x = (c, true) ∧ Told x c ∧ c.hits = 0 ∧ c.miss = 0 := by
  refine ⟨putS (newD 2 m) 1 ⟨[x], false⟩, ?_, ⟨⟨[], false⟩, ⟨[x], false⟩, ?_, rfl, rfl, h1, h4, .inr ⟨rfl, h1, [], rfl, by simp⟩⟩, rfl, rfl⟩
  · have e : siteD (newD 2 m) 1 = some ⟨[], false⟩ := by simp [siteD, newD]
    rw [note_new e (by simp [newD]; omega) rfl rfl (by simp [newD]; omega)]
    rfl
  · simp [putS, newD, List.replicate]
theorem putS_1 {c : CacheD} {s0 s s' : SiteD} (h : c.sites = [s0, s]) : (putS c 1 s').sites = [s0, s'] := by simp [putS, h]
theorem told_note {x y : Ent} {c : CacheD} (h : Told x c) (hy : ofB y x.k x.sh = false) : Told x (noteC c 1 y).1 ∧ (noteC c 1 y).1.hits = c.hits ∧ (noteC c 1 y).1.miss = c.miss := by
  obtain ⟨s0, s, hs, h0, h0m, h1, h4, hh⟩ := h
  have hs1 := site1 hs
  rcases hh with ⟨hm, hl⟩ | ⟨hm, hle, r, hl, hr⟩
  · rw [note_shut hs1 (.inr hm)]
    exact ⟨⟨s0, s, hs, h0, h0m, h1, h4, .inl ⟨hm, hl⟩⟩, rfl, rfl⟩
  · cases hf : s.l.findIdx? (fun z => ofB z y.k y.sh) with
    | some i =>
      rw [note_some hs1 (by omega) hm hf]
      refine ⟨⟨s0, _, putS_1 hs, h0, h0m, h1, h4, .inr ⟨rfl, by simpa [putS] using hle, ?_⟩⟩, rfl, rfl⟩
      rw [List.findIdx?_eq_some_iff_getElem] at hf
      obtain ⟨hi, hfi, _⟩ := hf
      cases i with
      | zero =>
        simp only [hl, List.getElem_cons_zero] at hfi
        rw [ofB_comm hy] at hfi
        cases hfi
      | succ i =>
        refine ⟨r.set i y, by rw [hl]; rfl, fun z hz => ?_⟩
        rcases List.mem_or_eq_of_mem_set hz with h | h
        · exact hr z h
        · rw [h]; exact hy
    | none =>
      by_cases hlt : s.l.length < c.most
      · rw [note_new hs1 (by omega) hm hf hlt]
        refine ⟨⟨s0, _, putS_1 hs, h0, h0m, h1, h4, .inr ⟨rfl, by simp [putS]; omega, r ++ [y], by rw [hl]; rfl, fun z hz => ?_⟩⟩, rfl, rfl⟩
        rcases List.mem_append.1 hz with h | h
        · exact hr z h
        · simp at h
          rw [h]; exact hy
      · rw [note_gone hs1 (by omega) hm hf hlt]
        exact ⟨⟨s0, _, putS_1 hs, h0, h0m, h1, h4, .inl ⟨rfl, rfl⟩⟩, rfl, rfl⟩
/-- a look, and the state -/
theorem told_look {x : Ent} {c : CacheD} (h : Told x c) : Told x (lookC c 1 x.k x.sh x.ep) ∧ (lookC c 1 x.k x.sh x.ep).hits ≤ c.hits + 1 ∧ c.hits ≤ (lookC c 1 x.k x.sh x.ep).hits ∧ (lookC c 1 x.k x.sh x.ep).miss ≤ c.miss + 1 ∧ c.miss ≤ (lookC c 1 x.k x.sh x.ep).miss ∧
    ((stateD (lookC c 1 x.k x.sh x.ep) 1 = 3 ∧ lookS c 1 x.k x.sh x.ep = none) ∨ ((stateD (lookC c 1 x.k x.sh x.ep) 1 != 3) = true ∧ lookS c 1 x.k x.sh x.ep = some x)) := by
  obtain ⟨s0, s, hs, h0, h0m, h1, h4, hh⟩ := h
  have hs1 := site1 hs
  rcases hh with ⟨hm, hl⟩ | ⟨hm, hle, r, hl, hr⟩
  · have e : lookC c 1 x.k x.sh x.ep = { c with miss := c.miss + 1 } := by simp [lookC, hs1, hl]
    rw [e]
    refine ⟨⟨s0, s, hs, h0, h0m, h1, h4, .inl ⟨hm, hl⟩⟩, by simp only; omega, by simp only; omega, by simp only; omega, by simp only; omega, .inl ⟨?_, by simp [lookS, hs1, hl]⟩⟩
    simp [stateD, siteD, hs, hm]
  · have e : lookC c 1 x.k x.sh x.ep = { c with hits := c.hits + 1 } := by simp [lookC, hs1, hl, fitB_self]
    rw [e]
    refine ⟨⟨s0, s, hs, h0, h0m, h1, h4, .inr ⟨hm, hle, r, hl, hr⟩⟩, by simp only; omega, by simp only; omega, by simp only; omega, by simp only; omega, .inr ⟨?_, by simp [lookS, hs1, hl, fitB_self]⟩⟩
    rw [bne_iff_ne]
    simp [stateD, siteD, hs, hm]
    omega
theorem told_drop {x : Ent} {c : CacheD} (h : Told x c) : ∃ c', dropC c 1 = (c', true) ∧ stateD c' 1 = 0 ∧ stateD c' 0 = 0 ∧ lookS c' 1 x.k x.sh x.ep = none ∧ c'.hits = c.hits ∧ c'.miss = c.miss := by
  obtain ⟨s0, s, hs, h0, h0m, h1, h4, hh⟩ := h
  refine ⟨putS c 1 ⟨[], false⟩, by simp [dropC, site1 hs], ?_, ?_, ?_, rfl, rfl⟩
  · simp [stateD, siteD, putS_1 hs]; rfl
  · simp [stateD, siteD, putS_1 hs, h0, h0m]; rfl
  · simp [lookS, siteD, putS_1 hs]
/-- the other shape -/
def xor1 (n : Int) : Int := bits BinOp.xor IntKind.i64 n 1
theorem xor1_eq (n : Int) : xor1 n = IntKind.i64.wrap ((BitVec.ofInt 64 n ^^^ BitVec.ofInt 64 1).toNat : Nat) := rfl
theorem xor_ne (n : Int) (h : i64ok n) : xor1 n ≠ n := by
  intro e
  have h1 : BitVec.ofInt 64 (xor1 n) = BitVec.ofInt 64 n ^^^ BitVec.ofInt 64 1 := by
    generalize hr : BitVec.ofInt 64 n ^^^ BitVec.ofInt 64 1 = r
    rw [xor1_eq, hr, IntKind.wrap_i64]
    apply BitVec.eq_of_toNat_eq
    rw [BitVec.toNat_ofInt]
    have := r.isLt
    omega
  rw [e] at h1
  have h2 : BitVec.ofInt 64 n ^^^ BitVec.ofInt 64 n = BitVec.ofInt 64 n ^^^ (BitVec.ofInt 64 n ^^^ BitVec.ofInt 64 1) := by rw [← h1]
  rw [← BitVec.xor_assoc, BitVec.xor_self, BitVec.zero_xor] at h2
  exact absurd h2 (by decide)
theorem xor_ok (n : Int) : i64ok (xor1 n) := by
  unfold i64ok
  rw [xor1_eq, IntKind.wrap_i64]
  omega
end Go.Proofs.Ytbgcjgnhblhohaa
