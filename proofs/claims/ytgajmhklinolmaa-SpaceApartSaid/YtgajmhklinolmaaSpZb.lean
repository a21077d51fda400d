/- At, inside and outside, as one contract. -/
import Derived.Test.YtgajmhklinolmaaSpZa
namespace Go.Proofs.Ytgajmhklinolmaa
set_option linter.all false
open Go.RowKit Go.Sort Go.Deep

def zeroD : CellD := ⟨0, 0, 0, 0, [], []⟩
def atD (l : List CellD) (i : Int) : CellD × Bool := if i < 0 then (zeroD, false) else match l[i.toNat]? with
  | some c => (c, true)
  | none => (zeroD, false)
theorem atD_cases (l : List CellD) (i : Int) : (∃ (n : Nat) (c : CellD), i = n ∧ l[n]? = some c ∧ atD l i = (c, true)) ∨ ((i < 0 ∨ l.length ≤ i) ∧ atD l i = (zeroD, false)) := by
  unfold atD
  by_cases h : i < 0
  · exact .inr ⟨.inl h, by rw [if_pos h]⟩
  · rw [if_neg h]
    cases hc : l[i.toNat]? with
    | none =>
      refine .inr ⟨.inr ?_, rfl⟩
      have := List.getElem?_eq_none_iff.1 hc
      omega
    | some c => exact .inl ⟨i.toNat, c, by omega, hc, rfl⟩
theorem at_any (F : Nat → Prop) (s : Nat) (room : Int) (l : List CellD) (i : Int) (w : World) (h : Arena w F s room l) :
    Calls Try.prog 18 #[.pointer (some ⟨s, 0, none⟩), .int .i64 i] w fun e w' => ∃ sv mv, e = .returned (.tuple #[cellV (atD l i).1.k (atD l i).1.sh (atD l i).1.fl (atD l i).1.ag sv mv, .bool (atD l i).2]) ∧ OwnV w' w.heap.size sv (atD l i).1.sl ∧ OwnV w' w.heap.size mv (atD l i).1.mo ∧ Below w.heap.size w w' := by
  rcases atD_cases l i with ⟨n, c, rfl, hc, e⟩ | ⟨hi, e⟩
  · rw [e]
    exact (at_in F s room l n c w h hc).mono fun _ _ ⟨sv, mv, a, b, c, _, d⟩ => ⟨sv, mv, a, b, c, d⟩
  · rw [e]
    exact (at_out F s room l i w h hi).mono fun _ _ ⟨a, b⟩ => ⟨_, _, a, World.ownsRow_nil _ _ _ _, World.ownsRow_nil _ _ _ _, b⟩
theorem rat_any (room : Int) (lv : Value) (l : List CellD) (i : Int) (w : World) (h : IsC w lv l) :
    Calls Try.prog 28 #[spV room lv, .int .i64 i] w fun e w' => ∃ sv mv, e = .returned (.tuple #[cellV (atD l i).1.k (atD l i).1.sh (atD l i).1.fl (atD l i).1.ag sv mv, .bool (atD l i).2]) ∧ IsV w' sv (atD l i).1.sl ∧ IsV w' mv (atD l i).1.mo ∧ Below w.heap.size w w' := by
  rcases atD_cases l i with ⟨n, c, rfl, hc, e⟩ | ⟨hi, e⟩
  · rw [e]
    exact rat_in room lv l n c w h hc
  · rw [e]
    exact (rat_out room lv l i w h hi).mono fun _ _ ⟨a, b⟩ => ⟨_, _, a, .nil_, .nil_, b⟩
end Go.Proofs.Ytgajmhklinolmaa
