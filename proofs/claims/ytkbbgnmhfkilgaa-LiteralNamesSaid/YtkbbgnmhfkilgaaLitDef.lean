/- Plain definitions: what the functions of package literal and of its reference compute. -/
import Derived.Test.YtkbbgnmhfkilgaaGrow
namespace Go.Proofs.Ytkbbgnmhfkilgaa
set_option linter.all false

/-- the byte at a place, as a number -/
def byI (s : ByteArray) (i : Nat) : Int := ((s.data.toList.getD i 0).toNat : Int)
theorem byI_at (s : ByteArray) (i : Nat) (h : i < s.size) : ((s[i].toNat : Nat) : Int) = byI s i := by
  unfold byI
  have h' : i < s.data.toList.length := by simpa using h
  rw [List.getD_eq_getElem?_getD, List.getElem?_eq_getElem h']
  rfl
theorem byI_lo (s : ByteArray) (i : Nat) : 0 ≤ byI s i := by unfold byI; omega
theorem byI_hi (s : ByteArray) (i : Nat) : byI s i < 256 := by
  unfold byI
  have := (s.data.toList.getD i 0).toNat_lt
  omega

def digI (n : Int) : Int := if 48 ≤ n ∧ n ≤ 57 then n - 48 else if 97 ≤ n ∧ n ≤ 102 then n - 87 else if 65 ≤ n ∧ n ≤ 70 then n - 55 else -1
theorem digI_hi (n : Int) : digI n < 16 := by unfold digI; split <;> (try split) <;> (try split) <;> omega
theorem digI_lo (n : Int) : -1 ≤ digI n := by unfold digI; split <;> (try split) <;> (try split) <;> omega

/-- value, length, error -/
structure One where
  v : Int
  n : Int
  e : Int
deriving DecidableEq
def hexM (s : ByteArray) (j : Nat) : One :=
  if s.size ≤ j then ⟨0, 0, 8⟩ else if digI (byI s j) < 0 then ⟨0, 0, 21⟩ else if s.size ≤ j + 1 then ⟨0, 0, 8⟩ else if digI (byI s (j + 1)) < 0 then ⟨0, 0, 21⟩ else ⟨16 * digI (byI s j) + digI (byI s (j + 1)), 4, 0⟩
def escC (s : ByteArray) (i : Nat) (c : Int) : One :=
  if c == 110 then ⟨10, 2, 0⟩ else if c == 116 then ⟨9, 2, 0⟩ else if c == 114 then ⟨13, 2, 0⟩ else if c == 48 then ⟨0, 2, 0⟩ else if c == 92 || c == 39 || c == 34 || c == 96 || c == 36 then ⟨c, 2, 0⟩ else if c == 120 then hexM s (i + 2) else ⟨0, 0, 21⟩
def escM (s : ByteArray) (i : Nat) : One := if s.size ≤ i + 1 then ⟨0, 0, 8⟩ else escC s i (byI s (i + 1))
def oneM (s : ByteArray) (i : Nat) : One := if byI s i == 92 then escM s i else ⟨byI s i, 1, 0⟩

theorem hexM_ok (s : ByteArray) (j : Nat) : 0 ≤ (hexM s j).v ∧ (hexM s j).v < 256 ∧ ((hexM s j).e = 0 → (hexM s j).n = 4 ∧ j + 2 ≤ s.size) ∧ ((hexM s j).e ≠ 0 → (hexM s j).v = 0 ∧ (hexM s j).n = 0) := by
  have h1 := digI_hi (byI s j)
  have h2 := digI_hi (byI s (j + 1))
  unfold hexM
  repeat' split
  all_goals simp
  all_goals omega
theorem escM_ok (s : ByteArray) (i : Nat) : 0 ≤ (escM s i).v ∧ (escM s i).v < 256 ∧ ((escM s i).e = 0 → 2 ≤ (escM s i).n ∧ i + (escM s i).n ≤ s.size) ∧ ((escM s i).e ≠ 0 → (escM s i).v = 0 ∧ (escM s i).n = 0) := by
  have h1 := hexM_ok s (i + 2)
  have h2 := byI_hi s (i + 1)
  have h3 := byI_lo s (i + 1)
  unfold escM escC
  repeat' split
  all_goals simp
  all_goals (try omega)
theorem oneM_ok (s : ByteArray) (i : Nat) (hi : i < s.size) : 0 ≤ (oneM s i).v ∧ (oneM s i).v < 256 ∧ ((oneM s i).e = 0 → 1 ≤ (oneM s i).n ∧ i + (oneM s i).n ≤ s.size) ∧ ((oneM s i).e ≠ 0 → (oneM s i).v = 0 ∧ (oneM s i).n = 0) := by
  have h1 := escM_ok s i
  have h2 := byI_hi s i
  have h3 := byI_lo s i
  unfold oneM
  split
  · obtain ⟨a, b, c, d⟩ := h1
    refine ⟨a, b, fun h => ?_, d⟩
    have := c h
    omega
  · simp
    omega

/-- text, next, open, error -/
structure Red where
  t : List UInt8
  n : Int
  o : Bool
  e : Int
deriving DecidableEq
abbrev redE (e : Int) : Red := ⟨[], 0, false, e⟩
def push (out : List UInt8) (o : One) : List UInt8 := out ++ [UInt8.ofNat o.v.toNat]
def readGo (s : ByteArray) (q : Int) : Nat → Nat → List UInt8 → Red
  | 0, _, _ => redE 8
  | f + 1, i, out =>
    if s.size ≤ i then redE 8
    else if byI s i == q then ⟨out, i + 1, false, 0⟩
    else if byI s i == 10 || byI s i == 13 then redE 22
    else if (oneM s i).e ≠ 0 then redE (oneM s i).e
    else if 65536 ≤ out.length then redE 9
    else readGo s q f (i + (oneM s i).n.toNat) (push out (oneM s i))
def readM (s : ByteArray) (at_ : Int) : Red :=
  if at_ < 0 ∨ s.size ≤ at_ then redE 1 else if byI s at_.toNat != 34 && byI s at_.toNat != 39 then redE 1 else readGo s (byI s at_.toNat) s.size (at_.toNat + 1) []
def pieceGo (s : ByteArray) : Nat → Nat → List UInt8 → Red
  | 0, _, _ => redE 8
  | f + 1, i, out =>
    if s.size ≤ i then redE 8
    else if byI s i == 96 then ⟨out, i + 1, false, 0⟩
    else if byI s i == 36 && (decide (i + 1 < s.size) && byI s (i + 1) == 123) then ⟨out, i + 2, true, 0⟩
    else if (oneM s i).e ≠ 0 then redE (oneM s i).e
    else if 65536 ≤ out.length then redE 9
    else pieceGo s f (i + (oneM s i).n.toNat) (push out (oneM s i))
def pieceM (s : ByteArray) (at_ : Int) : Red :=
  if at_ < 0 ∨ s.size ≤ at_ then redE 1 else if byI s at_.toNat != 96 && byI s at_.toNat != 125 then redE 1 else pieceGo s s.size (at_.toNat + 1) []

/-- the quoted form of a byte -/
def hexB (n : Nat) : UInt8 := if n < 10 then UInt8.ofNat (48 + n) else UInt8.ofNat (87 + n)
def qb (c : UInt8) : List UInt8 :=
  if c = 10 then [92, 110] else if c = 9 then [92, 116] else if c = 13 then [92, 114] else if c = 0 then [92, 48] else if c = 34 ∨ c = 92 then [92, c]
  else if c < 32 ∨ 126 < c then [92, 120, hexB (c.toNat / 16), hexB (c.toNat % 16)] else [c]
def qbs (l : List UInt8) : List UInt8 := l.flatMap qb
def quoteM (l : List UInt8) : List UInt8 := 34 :: (qbs l ++ [34])
end Go.Proofs.Ytkbbgnmhfkilgaa
