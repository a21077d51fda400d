/- Plain definitions: what the functions of package key and of its reference compute. -/
import Derived.Test.YtcmpgohpncnagaaVals
import Derived.Test.YtcmpgohpncnagaaGrow
namespace Go.Proofs.Ytcmpgohpncnagaa
set_option linter.all false

def digB (n : Int) : Bool := decide (48 ≤ n) && decide (n ≤ 57)
def allDig (l : List UInt8) : Bool := l.all fun b => digB (b.toNat : Int)
def valL (l : List UInt8) : Int := l.foldl (fun a b => 10 * a + ((b.toNat : Int) - 48)) 0
theorem valL_snoc (l : List UInt8) (b : UInt8) : valL (l ++ [b]) = 10 * valL l + ((b.toNat : Int) - 48) := by simp [valL]
theorem allDig_snoc (l : List UInt8) (b : UInt8) : allDig (l ++ [b]) = (allDig l && digB (b.toNat : Int)) := by simp [allDig]
theorem digB_iff (n : Int) : digB n = true ↔ 48 ≤ n ∧ n ≤ 57 := by simp [digB]
theorem snoc_of (l : List UInt8) : l = [] ∨ ∃ r b, l = r ++ [b] := by
  rcases List.eq_nil_or_concat l with h | ⟨r, b, h⟩
  · exact .inl h
  · exact .inr ⟨r, b, by simpa using h⟩
theorem valL_bd : ∀ (n : Nat) (l : List UInt8), l.length = n → allDig l = true → 0 ≤ valL l ∧ valL l < 10 ^ n
  | 0, l, h, _ => by
    obtain rfl : l = [] := List.eq_nil_of_length_eq_zero h
    simp [valL]
  | n + 1, l, h, hd => by
    rcases snoc_of l with rfl | ⟨r, b, rfl⟩
    · simp at h
    · rw [allDig_snoc, Bool.and_eq_true, digB_iff] at hd
      have ih := valL_bd n r (by simpa using h) hd.1
      rw [valL_snoc, Int.pow_succ]
      omega
theorem pow_le10 (n : Nat) (h : n ≤ 10) : (10 : Int) ^ n ≤ 10000000000 := by
  have : (10 : Nat) ^ n ≤ 10 ^ 10 := Nat.pow_le_pow_right (by omega) h
  have e : ((10 : Nat) ^ n : Nat) = ((10 : Int) ^ n) := by simp
  rw [← e]
  have h2 : (10 : Nat) ^ 10 = 10000000000 := rfl
  omega
theorem valL_bd10 (l : List UInt8) (h : l.length ≤ 10) (hd : allDig l = true) : 0 ≤ valL l ∧ valL l < 10000000000 := by
  have h1 := valL_bd l.length l rfl hd
  have h2 := pow_le10 l.length h
  omega

structure Idx where
  n : Int
  ok : Bool
deriving DecidableEq
def badL (l : List UInt8) : Bool := l.isEmpty || decide (10 < l.length) || (l.head? == some 48 && decide (1 < l.length))
def indexM (l : List UInt8) : Idx := if badL l then ⟨0, false⟩ else if allDig l then (if 4294967294 < valL l then ⟨0, false⟩ else ⟨valL l, true⟩) else ⟨0, false⟩
def i53 (n : Int) : Bool := decide (-9007199254740992 ≤ n) && decide (n ≤ 9007199254740992)
/-- Right of a key -/
def keyM (k : Val) : Bool :=
  if k.k = 0 then k.s.toList.isEmpty && (decide (0 ≤ k.n) && decide (k.n ≤ 4294967294))
  else if k.k = 1 then k.n == 0 && (decide (k.s.size ≤ 65536) && !(indexM k.s.data.toList).ok)
  else if k.k = 2 then k.s.toList.isEmpty && decide (1 ≤ k.n) else false
def wordM (s : ByteArray) : Val := if (indexM s.data.toList).ok then ⟨0, (indexM s.data.toList).n, ⟨#[]⟩⟩ else ⟨1, 0, s⟩
def wholeM (v : Val) : Bool := v.k == 3 && (v.s.toList.isEmpty && i53 v.n)
abbrev nanV : Val := ⟨4, 0, ⟨#[]⟩⟩
def isNumM (v : Val) : Bool := wholeM v || v.eq nanV
end Go.Proofs.Ytcmpgohpncnagaa
