/- Cells: counts, and lists put together. -/
import Derived.Test.YtdikdkllbhanfaaCelV
import Derived.Test.YtdikdkllbhanfaaCelM
namespace Go.Proofs.Ytdikdkllbhanfaa
set_option linter.all false
open Go.RowKit Go.Sort Go.Deep

theorem count_step {xs : List Int} {k : Nat} {x n : Int} (h : xs[k]? = some x) : (xs.take (k + 1)).count n = (xs.take k).count n + if x == n then 1 else 0 := by
  rw [List.take_add_one, h, List.count_append, Option.toList_some, List.count_singleton]

theorem run_appV {w : World} {lo : Nat} {ty : TypeId} {yv sv : Value} {ys xs : List Val} (hown : OwnV w lo yv ys) (hlo : lo ≤ w.heap.size) (hsv : IsV w sv xs) (hf : fitV (ys ++ xs)) :
    ∃ A n w', (Builtin.append_ #[22, 22] ty #[yv, sv]).run Try.prog w = .ok (.slice A (ys ++ xs).length n) w' ∧ OwnV w' lo (.slice A (ys ++ xs).length n) (ys ++ xs) ∧ w.grownBy w' yv.ownBlock := by
  obtain ⟨i, hi, hz, hsz, hby⟩ := val_info
  have hle := hf.le
  unfold fitV at hf
  rw [List.length_append] at hle hf
  by_cases h0 : xs.length = 0
  · obtain rfl : xs = [] := List.eq_nil_of_length_eq_zero h0
    rw [List.append_nil]
    obtain ⟨A, c, rfl, _⟩ := hsv.form
    cases A with
    | none =>
      rcases hown.2 with ⟨rfl, hn⟩ | ⟨g, cap, cur, rfl, hb, hg, hnc, hcm, hcs, _⟩
      · refine ⟨none, 0, w, ?_, ?_, ⟨rfl, rfl, rfl, Nat.le_refl _, fun _ _ _ => rfl⟩⟩
        · rw [hn]
          simp [Builtin.append_, run_underlying Try.underlying22, sizeOf, typeInfo, hi, Builtin.lenOf, Builtin.firstCells, loadCells, loadCellsFrom]
        · rw [hn]
          exact hown
      · refine ⟨_, cap, w, ?_, hown, ⟨rfl, rfl, rfl, Nat.le_refl _, fun _ _ _ => rfl⟩⟩
        simp [Builtin.append_, run_underlying Try.underlying22, sizeOf, typeInfo, hi, Builtin.lenOf, Builtin.firstCells, storeCells, hnc]
    | some ad =>
      obtain ⟨v', w', hr, h2, h3, _⟩ := run_append_own (P := Try.prog) w lo 22 ty 34 i (.agg zval) 3 32 Try.underlying22 hi hz hsz hby rfl (by omega) yv ys.length (flat Val.cs ys) hown ad 0 c [] rfl (by simp) (by simp) (by unfold maxLen; omega) (by omega) hlo
      obtain ⟨A, n, rfl⟩ := ownsRow_form h2
      rw [List.append_nil] at h2
      exact ⟨A, n, w', hr, h2, h3⟩
  · obtain ⟨ad, c, rfl, hsrc⟩ := hsv.src cs_len (by omega)
    have hlen := flat_len cs_len xs
    obtain ⟨v', w', hr, h2, h3, _⟩ := run_append_own (P := Try.prog) w lo 22 ty 34 i (.agg zval) 3 32 Try.underlying22 hi hz hsz hby rfl (by omega) yv ys.length (flat Val.cs ys) hown ad xs.length c (flat Val.cs xs) hlen hsrc one_cs (by unfold maxLen; omega) (by omega) hlo
    obtain ⟨A, n, rfl⟩ := ownsRow_form h2
    refine ⟨A, n, w', ?_, ?_, h3⟩
    · rw [List.length_append]; exact hr
    · rw [List.length_append]
      have e : flat Val.cs (ys ++ xs) = flat Val.cs ys ++ flat Val.cs xs := by unfold flat; rw [List.flatMap_append]
      show w'.ownsRow _ _ _ _ _ (flat Val.cs (ys ++ xs))
      rw [e, List.length_append]
      exact h2

/-- an append as one step of a region that draws its order -/
theorem step_appV {ops : Array Oper} {o : Oper} {a : Act} {w : World} {K : Act → World → Prop} {Q : Exit → Act → World → Prop} {E : Prop} (W : World)
    (hg : o.guard = none) (s x : Operand) (hop : o.op = Op.call { callee := Callee.builtin Builtin.append, args := #[s, x], argTypes := #[22, 22] })
    (ys xs : List Val) {yv sv : Value} (hs : a.eval s = yv) (hx : a.eval x = sv) (hB : Below W.heap.size W w) (hown : OwnV w W.heap.size yv ys) (hsv : IsV W sv xs) (hf : fitV (ys ++ xs))
    (hK : ∀ A n w', OwnV w' W.heap.size (.slice A (ys ++ xs).length n) (ys ++ xs) → Below W.heap.size W w' → K (a.put o.dst (.slice A (ys ++ xs).length n)) w') :
    if Region.wanted o (yielded ops a.tmps) = true then Oper.wp Try.prog o a w K Q else E := by
  have hw : Region.wanted o (yielded ops a.tmps) = true := by simp [Region.wanted, hg]
  rw [if_pos hw]
  obtain ⟨A, n, w', hr, h2, h3⟩ := run_appV (ty := o.type) hown hB.size (hsv.below hB) hf
  have hb : Below W.heap.size W w' := by
    refine hB.trans ⟨h3.os, h3.tape, h3.output, h3.size, fun k hk => h3.block k (Nat.lt_of_lt_of_le hk hB.size) fun e => ?_⟩
    have := (hown.lt _ e.symm).1
    omega
  unfold Oper.wp
  simp [execOp, hop, resolve, invoke, builtin, hs, hx, hr, Result.andThen]
  have := hK A n w' h2 hb
  rw [List.length_append] at this
  exact this
end Go.Proofs.Ytdikdkllbhanfaa
