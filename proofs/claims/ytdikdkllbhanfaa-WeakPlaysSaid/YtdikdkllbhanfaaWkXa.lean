/- Weak maps: small facts for the laws WeakMoves and WeakTells. -/
import Derived.Test.YtdikdkllbhanfaaWkW
namespace Go.Proofs.Ytdikdkllbhanfaa
set_option linter.all false
open Go.RowKit Go.Sort Go.Deep Go.Shelf

theorem eq_comm_val {a b : Val} (h : a.eq b = false) : b.eq a = false := Val.eq_false.2 fun e => Val.eq_false.1 h e.symm
theorem eq_cols (a : Val) : (Val.mk a.k a.n a.s).eq ⟨a.k, a.n, a.s⟩ = true := Val.eq_self _
/-- a set entry: what the refusals say -/
theorem setE_zero {c : CellD} {key v : Val} (h : setE c key v = 0) : isW c = true ∧ okSet key v = true := by
  unfold setE at h
  cases hb : isW c
  · rw [hb] at h; cases h
  · cases ho : okSet key v
    · rw [hb, ho] at h; cases h
    · exact ⟨rfl, rfl⟩
theorem del_isW {c : CellD} {key : Val} (h : delB c key = true) : isW c = true := by
  unfold delB at h
  rw [Bool.and_eq_true] at h
  exact h.1
theorem wrap_small {x : Int} (h0 : 0 ≤ x) (h : x < 1000) : IntKind.i64.wrap x = x := IntWalk.i64_in _ (by omega)
/-- an int, as uint64, by a small number: what remains -/
theorem uint_rem (i : Int) (n : Nat) (h0 : 0 < n) (h : n ≤ 100) : ∃ k : Nat, k < n ∧ (k : Int) = (i % 18446744073709551616) % (n : Int) ∧ wrap64 ((IntKind.u64.wrap i).tmod n) = (k : Int) := by
  have e : IntKind.u64.wrap i = i % 18446744073709551616 := by rfl
  have h1 : 0 ≤ i % 18446744073709551616 := Int.emod_nonneg _ (by omega)
  rw [e, Int.tmod_eq_emod_of_nonneg h1]
  have h2 : 0 ≤ (i % 18446744073709551616) % (n : Int) := Int.emod_nonneg _ (by omega)
  have h3 : (i % 18446744073709551616) % (n : Int) < n := Int.emod_lt_of_pos _ (by omega)
  generalize (i % 18446744073709551616) % (n : Int) = j at h2 h3
  refine ⟨j.toNat, by omega, by omega, ?_⟩
  rw [IntWalk.wrap64_in _ (by omega)]
  omega
end Go.Proofs.Ytdikdkllbhanfaa
