/- Cells: counts, and lists put together. -/
import Derived.Test.YteifcgffeplkkaaCelV
import Derived.Test.YteifcgffeplkkaaCelM
namespace Go.Proofs.Yteifcgffeplkkaa
set_option linter.all false
open Go.RowKit Go.Sort Go.Deep

theorem count_step {xs : List Int} {k : Nat} {x n : Int} (h : xs[k]? = some x) : (xs.take (k + 1)).count n = (xs.take k).count n + if x == n then 1 else 0 := by
  rw [List.take_add_one, h, List.count_append, Option.toList_some, List.count_singleton]

set_option maxHeartbeats 1000000 in
theorem counts_any (v : Value) (xs : List Int) (n : Int) (w : World) (ha : IsI w v xs) :
    Calls Try.prog 17 #[v, .int .i64 n] w fun e w' => e = .returned (.int .i64 (xs.count n : Nat)) ∧ Below w.heap.size w w' := by
  have H := Lib.hid ha
  obtain ⟨A, ca, rfl, hca, hma⟩ := ha.form
  clear ha
  unfold maxLen at hma
  go_enter Try.func17, Try.ntmps17
  go_wp2
  go_loopw [5, 6] (fun s i wr => ∃ k m : Nat, k ≤ xs.length ∧ i = .int .i64 k ∧ s = .int .i64 m ∧ m ≤ k ∧ Hid ((xs.take k).count n = m) ∧ Below w.heap.size w wr) (fun _ i _ => xs.length - (intOf i).toNat)
  case atStart => exact ⟨0, 0, by omega, rfl, rfl, by omega, Lib.hid (by simp), Below.refl _ _⟩
  case round =>
    obtain ⟨k, m, hk, rfl, rfl, hmk, hc, hbw⟩ := hrel
    by_cases hlt : k < xs.length
    · obtain ⟨b1, o1, _, e1, _, hb1, hx⟩ := (H.out.below hbw).at_ (by omega)
      simp only [Value.slice.injEq] at e1
      obtain ⟨rfl, _, rfl⟩ := e1
      obtain ⟨x, ex⟩ : ∃ x, xs[k]? = some x := ⟨_, List.getElem?_eq_getElem hlt⟩
      have cx0 : wr.cell? ⟨b1, o1 + k, none⟩ = some (.int .i64 x) := by have := hx k x ex 0 _ rfl; simpa using this
      have EX := Lib.hid (count_step (n := n) ex)
      have BW := Lib.hid hbw
      clear hx ex hbw
      cases hq : (x == n)
      · go_wp2
        go_roundw
        case rel => exact ⟨k + 1, m, by omega, by go_num, rfl, by omega, Lib.hid (by rw [EX.out, hc.out, hq]; rfl), BW.out⟩
        case measure => simp [intOf]; omega
      · go_wp2
        go_roundw
        case rel => exact ⟨k + 1, m + 1, by omega, by go_num, by go_num, by omega, Lib.hid (by rw [EX.out, hc.out, hq]; rfl), BW.out⟩
        case measure => simp [intOf]; omega
    · go_wp2
      go_ret
      have := hc.out
      rw [List.take_of_length_le (by omega)] at this
      exact ⟨by rw [this]; rfl, hbw⟩

theorem run_appV {w : World} {lo : Nat} {ty : TypeId} {yv sv : Value} {ys xs : List Val} (hown : OwnV w lo yv ys) (hlo : lo ≤ w.heap.size) (hsv : IsV w sv xs) (hf : fitV (ys ++ xs)) :
    ∃ A n w', (Builtin.append_ #[22, 22] ty #[yv, sv]).run Try.prog w = .ok (.slice A (ys ++ xs).length n) w' ∧ OwnV w' lo (.slice A (ys ++ xs).length n) (ys ++ xs) ∧ w.grownBy w' yv.ownBlock := by
  obtain ⟨i, hi, hz, hsz, hby⟩ := val_info
  have hle := hf.le
  unfold fitV at hf
  rw [List.length_append] at hle hf
  by_cases h0 : xs.length = 0
  · obtain rfl : xs = [] := List.eq_nil_of_length_eq_zero h0
    rw [List.append_nil]
    obtain ⟨A, c, rfl, _⟩ := hsv.form
    cases A with
    | none =>
      rcases hown.2 with ⟨rfl, hn⟩ | ⟨g, cap, cur, rfl, hb, hg, hnc, hcm, hcs, _⟩
      · refine ⟨none, 0, w, ?_, ?_, ⟨rfl, rfl, rfl, Nat.le_refl _, fun _ _ _ => rfl⟩⟩
        · rw [hn]
          simp [Builtin.append_, run_underlying Try.underlying22, sizeOf, typeInfo, hi, Builtin.lenOf, Builtin.firstCells, loadCells, loadCellsFrom]
        · rw [hn]
          exact hown
      · refine ⟨_, cap, w, ?_, hown, ⟨rfl, rfl, rfl, Nat.le_refl _, fun _ _ _ => rfl⟩⟩
        simp [Builtin.append_, run_underlying Try.underlying22, sizeOf, typeInfo, hi, Builtin.lenOf, Builtin.firstCells, storeCells, hnc]
    | some ad =>
      obtain ⟨v', w', hr, h2, h3, _⟩ := run_append_own (P := Try.prog) w lo 22 ty 32 i (.agg zval) 3 32 Try.underlying22 hi hz hsz hby rfl (by omega) yv ys.length (flat Val.cs ys) hown ad 0 c [] rfl (by simp) (by simp) (by unfold maxLen; omega) (by omega) hlo
      obtain ⟨A, n, rfl⟩ := ownsRow_form h2
      rw [List.append_nil] at h2
      exact ⟨A, n, w', hr, h2, h3⟩
  · obtain ⟨ad, c, rfl, hsrc⟩ := hsv.src cs_len (by omega)
    have hlen := flat_len cs_len xs
    obtain ⟨v', w', hr, h2, h3, _⟩ := run_append_own (P := Try.prog) w lo 22 ty 32 i (.agg zval) 3 32 Try.underlying22 hi hz hsz hby rfl (by omega) yv ys.length (flat Val.cs ys) hown ad xs.length c (flat Val.cs xs) hlen hsrc one_cs (by unfold maxLen; omega) (by omega) hlo
    obtain ⟨A, n, rfl⟩ := ownsRow_form h2
    refine ⟨A, n, w', ?_, ?_, h3⟩
    · rw [List.length_append]; exact hr
    · rw [List.length_append]
      have e : flat Val.cs (ys ++ xs) = flat Val.cs ys ++ flat Val.cs xs := by unfold flat; rw [List.flatMap_append]
      show w'.ownsRow _ _ _ _ _ (flat Val.cs (ys ++ xs))
      rw [e, List.length_append]
      exact h2

/-- an append as one step of a region that draws its order -/
theorem step_appV {ops : Array Oper} {o : Oper} {a : Act} {w : World} {K : Act → World → Prop} {Q : Exit → Act → World → Prop} {E : Prop} (W : World)
    (hg : o.guard = none) (s x : Operand) (hop : o.op = Op.call { callee := Callee.builtin Builtin.append, args := #[s, x], argTypes := #[22, 22] })
    (ys xs : List Val) {yv sv : Value} (hs : a.eval s = yv) (hx : a.eval x = sv) (hB : Below W.heap.size W w) (hown : OwnV w W.heap.size yv ys) (hsv : IsV W sv xs) (hf : fitV (ys ++ xs))
    (hK : ∀ A n w', OwnV w' W.heap.size (.slice A (ys ++ xs).length n) (ys ++ xs) → Below W.heap.size W w' → K (a.put o.dst (.slice A (ys ++ xs).length n)) w') :
    if Region.wanted o (yielded ops a.tmps) = true then Oper.wp Try.prog o a w K Q else E := by
  have hw : Region.wanted o (yielded ops a.tmps) = true := by simp [Region.wanted, hg]
  rw [if_pos hw]
  obtain ⟨A, n, w', hr, h2, h3⟩ := run_appV (ty := o.type) hown hB.size (hsv.below hB) hf
  have hb : Below W.heap.size W w' := by
    refine hB.trans ⟨h3.os, h3.tape, h3.output, h3.size, fun k hk => h3.block k (Nat.lt_of_lt_of_le hk hB.size) fun e => ?_⟩
    have := (hown.lt _ e.symm).1
    omega
  unfold Oper.wp
  simp [execOp, hop, resolve, invoke, builtin, hs, hx, hr, Result.andThen]
  have := hK A n w' h2 hb
  rw [List.length_append] at this
  exact this
end Go.Proofs.Yteifcgffeplkkaa
