/- Cells: Leads, Weakly, Size and lists of addresses. -/
import Derived.Test.YtdikdkllbhanfaaCelL
namespace Go.Proofs.Ytdikdkllbhanfaa
set_option linter.all false
open Go.RowKit Go.Sort Go.Deep

abbrev intCs (n : Int) : List Value := [.int .i64 n]
/-- a slice of integers that reads as xs -/
abbrev IsI (w : World) (v : Value) (xs : List Int) : Prop := SlOf w 1 intCs v xs
theorem flat_int (xs : List Int) : flat intCs xs = xs.map (Value.int .i64) := by
  unfold flat
  induction xs with
  | nil => rfl
  | cons x xs ih => simp only [List.flatMap_cons, List.map_cons, ih]; rfl
theorem OwnI.isI {w : World} {lo : Nat} {v : Value} {xs : List Int} (h : OwnI w lo v xs) : IsI w v xs := ownsRow_slOf (fun _ => rfl) (by rw [flat_int]; exact h)

/-! the reference's weak -/
theorem weak_holds (i : Nat) (h : 0 < i) : (((i : Int) - 1) % 2 == 0) = !((i : Int) % 2 == 0) := by
  rw [Bool.eq_iff_iff]
  simp only [Bool.not_eq_true', beq_iff_eq, beq_eq_false_iff_ne]
  omega
end Go.Proofs.Ytdikdkllbhanfaa
