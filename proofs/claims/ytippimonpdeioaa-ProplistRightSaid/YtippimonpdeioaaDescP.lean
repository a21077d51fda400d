/- The plain laws of descriptors: what package desc computes is what the reference computes. -/
import Derived.Test.YtippimonpdeioaaDescDef
namespace Go.Proofs.Ytippimonpdeioaa
set_option linter.all false
open Go.RowKit Go.Sort

theorem bits_andNot_zero (h m : Int) : bits .andNot .i64 h m = 0 ↔ BitVec.ofInt 64 h &&& ~~~(BitVec.ofInt 64 m) = 0#64 := by
  show IntKind.wrap .i64 ((BitVec.ofInt 64 h &&& ~~~(BitVec.ofInt 64 m)).toNat : Int) = 0 ↔ _
  generalize BitVec.ofInt 64 h &&& ~~~(BitVec.ofInt 64 m) = x
  have hx := x.isLt
  rw [← BitVec.toNat_inj]
  simp only [IntKind.wrap, IntKind.bits, IntKind.signed]
  constructor
  · intro h
    show x.toNat = 0
    simp at h
    split at h <;> omega
  · intro h
    have h' : x.toNat = 0 := h
    simp [h']

theorem small_of_andNot {h m : Int} (hh : i64ok h) (n : Nat) (hn : n ≤ 62) (hm0 : 0 ≤ m) (hm : m < 2 ^ n) (he : bits .andNot .i64 h m = 0) : 0 ≤ h ∧ h < 2 ^ n := by
  rw [bits_andNot_zero] at he
  have key : (BitVec.ofInt 64 h).toNat < 2 ^ n := by
    refine Nat.lt_pow_two_of_testBit _ fun i hi => ?_
    by_cases h64 : i < 64
    · have e := congrArg (fun y => y.getLsbD i) he
      simp only [BitVec.getLsbD_and, BitVec.getLsbD_not, h64, decide_true, Bool.true_and, BitVec.getLsbD_zero] at e
      have hmi : (BitVec.ofInt 64 m).getLsbD i = false := by
        have e2 : (BitVec.ofInt 64 m).toNat = m.toNat := by
          rw [BitVec.toNat_ofInt]
          have : (2 : Int) ^ n ≤ 2 ^ 62 := by exact_mod_cast Nat.pow_le_pow_right (by omega) hn
          have : m % (2 ^ 64 : Nat) = m := Int.emod_eq_of_lt hm0 (by omega)
          rw [this]
        rw [BitVec.getLsbD, e2]
        refine Nat.testBit_lt_two_pow (Nat.lt_of_lt_of_le (m := 2 ^ n) ?_ (Nat.pow_le_pow_right (by omega) hi))
        have : (m.toNat : Int) < ((2 ^ n : Nat) : Int) := by rw [Int.toNat_of_nonneg hm0]; exact_mod_cast hm
        exact_mod_cast this
      rw [hmi] at e
      simpa [BitVec.getLsbD] using e
    · exact Nat.testBit_lt_two_pow (Nat.lt_of_lt_of_le (BitVec.ofInt 64 h).isLt (Nat.pow_le_pow_right (by omega) (by omega)))
  rw [BitVec.toNat_ofInt] at key
  unfold i64ok at hh
  have h2 : (2 : Nat) ^ n ≤ 2 ^ 62 := Nat.pow_le_pow_right (by omega) hn
  have h3 : ((h % ((2 ^ 64 : Nat) : Int)).toNat : Int) < ((2 ^ n : Nat) : Int) := by exact_mod_cast key
  have h4 : 0 ≤ h % ((2 ^ 64 : Nat) : Int) := Int.emod_nonneg _ (by decide)
  rw [Int.toNat_of_nonneg h4] at h3
  have h5 : ((2 ^ n : Nat) : Int) = (2 : Int) ^ n := by push_cast; rfl
  have h6 : (2 : Int) ^ n ≤ 2 ^ 62 := by rw [← h5]; exact_mod_cast h2
  rw [h5] at h3
  generalize (2 : Int) ^ n = N at *
  omega

/-! the finite facts -/
theorem nat_of {h : Int} {n : Nat} (h0 : 0 ≤ h) (h1 : h < n) : ∃ m : Nat, m < n ∧ h = m := ⟨h.toNat, by omega, by omega⟩
theorem fin_h : ∀ h, h < 64 → hs (h : Nat) 1 = bt h 1 ∧ hs h 2 = bt h 2 ∧ hs h 4 = bt h 4 ∧ hs h 8 = bt h 8 ∧ hs h 16 = bt h 16 ∧ hs h 32 = bt h 32 ∧ hs h 3 = dataR h ∧ hs h 12 = accR h ∧ bits .andNot .i64 h 63 = 0 ∧ 0 ≤ askedM h ∧ askedM h < 8 := by decide +kernel
theorem fin_a : ∀ h, h < 64 → ∀ a, a < 8 → (bits .andNot .i64 (a : Nat) (askedM (h : Nat)) == 0) = !((bt a 1 && !bt h 2) || (bt a 2 && !bt h 16) || (bt a 4 && !bt h 32)) := by decide +kernel
theorem fin_aq : ∀ a, a < 8 → ∀ q, q < 16 → (bits .and .i64 (a : Nat) 4 != 0) = bt a 4 ∧ (bits .and .i64 (a : Nat) 1 != 0) = bt a 1 ∧ (bits .and .i64 (bits .xor .i64 (a : Nat) (q : Nat)) 2 != 0) = (!bt a 2 == bt q 2) ∧ (bits .and .i64 (q : Nat) 8 != 0) = bt q 8 ∧ (bits .and .i64 (q : Nat) 1 == 0) = !bt q 1 ∧ (bits .and .i64 (q : Nat) 4 == 0) = !bt q 4 := by decide +kernel
end Go.Proofs.Ytippimonpdeioaa
