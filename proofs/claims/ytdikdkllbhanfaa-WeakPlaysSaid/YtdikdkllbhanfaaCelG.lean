/- The library's iterator over chunks of a slice of values. -/
import Derived.Test.YtdikdkllbhanfaaCelE
import Derived.Test.YtdikdkllbhanfaaIt
namespace Go.Proofs.Ytdikdkllbhanfaa
set_option linter.all false
open Go.RowKit Go.Sort Go.Deep Go.Shelf
attribute [local go_sem] Oper.semAt_some

theorem grown_below {w w' : World} (h : Below w.heap.size w w') : w.grownBy w' none := ⟨h.os, h.tape, h.output, h.size, fun k hk _ => h.block k hk⟩
theorem finRange_take (m k : Nat) (hk : k < m) : (List.finRange m).take (k + 1) = (List.finRange m).take k ++ [⟨k, hk⟩] := by
  rw [List.take_succ_eq_append_getElem (by simpa using hk)]
  simp

set_option maxRecDepth 100000 in
set_option maxHeartbeats 4000000 in
theorem chunk1_in (l Bs Bn n₀ m each b off cap : Nat) (A : Option Addr) (hA : 0 < m → A = some ⟨b, off, none⟩) (h1 : 1 ≤ each) (h4 : each ≤ 4) (hcap : m * each ≤ cap) (hm : m * each ≤ maxLen) (J Jx : List (Fin m) → World → Prop)
    (Bq : Nat) (hJ : AbidesFrom Bq J) (hJx : AbidesFrom Bq Jx)
    (hY : ∀ pre x W, J pre W → pre.length < m → YieldAt Fence.wide 7 Try.prog l #[.slice (some ⟨b, off + x.val * each * 3, none⟩) each each] W fun e W' =>
      (e = .returned (.bool true) ∧ J (pre ++ [x]) W' ∧ Below n₀ W W') ∨ (e = .returned (.bool false) ∧ Jx (pre ++ [x]) W'))
    (W : World) (hBs : W.heap[Bs]? = some (.cells #[.slice A (m * each) cap] 22)) (hBn : W.heap[Bn]? = some (.cells #[.int .i64 each] 3)) (hs0 : Bs < n₀) (hn0 : Bn < n₀) (hn : n₀ ≤ W.heap.size) (h0 : J [] W) :
    CallsIn Fence.wide 8 Try.prog 61 #[.func (.yield l) #[] #[], .pointer (some ⟨Bs, 0, none⟩), .pointer (some ⟨Bn, 0, none⟩)] W fun e W' => (∃ v, e = .returned v) ∧
      ((∃ ys, ys = List.finRange m ∧ J ys W') ∨ (∃ pre, pre <+: List.finRange m ∧ Jx pre W')) := by
  have HJ := Lib.hid hJ
  have HX := Lib.hid hJx
  have HY := Lib.hid hY
  have HS := Lib.hid hBs
  have HN := Lib.hid hBn
  have H0 := Lib.hid h0
  have HA := Lib.hid hA
  unfold maxLen at hm
  clear hJ hJx hY hBs hBn h0 hA
  refine callsIn_of_wp Try.func61 rfl trivial ?_ rfl
  simp only [Try.ntmps61, List.size_toArray, List.length_cons, List.length_nil, Nat.reduceAdd, Nat.reduceSub, Array.replicate_succ, Array.replicate_zero, List.push_toArray, List.append_toArray, List.nil_append, List.cons_append]
  gi_wp2
  gi_loopw [4] (fun i wr => ∃ k : Nat, k ≤ m ∧ i = .int .i64 ((k * each : Nat) : Int) ∧ J ((List.finRange m).take k) wr ∧ Below n₀ W wr) (fun i _ => m * each - (intOf i).toNat)
  case atStart => exact ⟨0, by omega, by simp, H0.out, Below.refl _ _⟩
  case round =>
    obtain ⟨k, hk, rfl, hj, hB⟩ := hrel
    obtain ⟨p0, _⟩ := cells1 ((hB.block Bs hs0).trans HS.out)
    obtain ⟨q0, _⟩ := cells1 ((hB.block Bn hn0).trans HN.out)
    have hke : k * each ≤ m * each := Nat.mul_le_mul_right _ hk
    generalize hL : m * each = L at *
    generalize hq : k * each = q at *
    by_cases hlt : k < m
    · have hq2 : q + each ≤ L := by
        rw [← hq, ← hL, ← Nat.succ_mul]
        exact Nat.mul_le_mul_right _ hlt
      obtain rfl := HA.out (by omega)
      have HBW := Lib.hid (And.intro hB hj)
      have HQ := Lib.hid (And.intro hL hq)
      have e1 : ¬ (q : Int) < 0 := by omega
      have e2 : (q : Int) < L := by omega
      have l1 : Bs < wr.heap.size := by have := hB.size; omega
      have l2 : Bn < wr.heap.size := by have := hB.size; omega
      clear hB hj hL hq
      have e3 : ¬ L - q < each := by omega
      have e4 : ¬ cap = q := by omega
      have e5 : q + each ≤ cap := by omega
      gi_wp2
      refine wpIn_wide.2 ?_
      ((first | (with_reducible refine wp_quiet_gr Try.mixed ?_ ?_) | (with_reducible refine wp_quiet_any Try.mixed ?_ ?_)); (next => kernel_rfl); (repeat (with_reducible refine wpQuiet_step (fun K hK => ?_); go_simp; first | (refine hK _ ?_; clear hK K) | (apply Exists.intro; refine ⟨fun _ => ?_, hK _ ?_⟩; (fail); clear hK K))); refine wpQuiet_nil ?_; intro pq)
      have hj' : J ((List.finRange m).take k) (gr wr pq) := HJ.out _ _ _ none HBW.out.2 (grown_below (below_gr wr pq)) (fun r e => by cases e)
      obtain ⟨fn, tmps, assign, body, hy, hR⟩ := HY.out _ ⟨k, hlt⟩ _ hj' (by rw [List.length_take]; omega)
      change (Instr.yield l #[.slice (some ⟨b, off + k * each * 3, none⟩) each each]).run Try.prog _ = _ at hy
      rw [HQ.out.2] at hy
      have HR := Lib.hid hR
      clear hR hj'
      gi_wp2
      refine HR.out.mono ?_
      rintro e W3 (⟨rfl, hJ3, hk3⟩ | ⟨rfl, hJx3⟩)
      · have J3 := Lib.hid (And.intro hJ3 ((HBW.out.1.trans ((below_gr wr pq).mono (Nat.le_trans hn HBW.out.1.size))).trans hk3))
        obtain ⟨p0, _⟩ := cells1 ((J3.out.2.block Bs hs0).trans HS.out)
        obtain ⟨q0, _⟩ := cells1 ((J3.out.2.block Bn hn0).trans HN.out)
        clear hJ3 hk3
        gi_wp2
        go_roundw
        case rel => exact ⟨k + 1, by omega, by rw [Nat.succ_mul, HQ.out.2]; go_num, by rw [finRange_take m k hlt]; exact J3.out.1, J3.out.2⟩
        case measure => simp [intOf]; omega
      · have J3 := Lib.hid hJx3
        clear hJx3
        gi_wp2
        refine bodyPost_ret (results_none rfl _ _ _) rfl ?_
        refine ⟨⟨_, rfl⟩, .inr ⟨_, ?_, J3.out⟩⟩
        rw [← finRange_take m k hlt]
        exact List.take_prefix _ _
    · have hkm : k = m := by omega
      have JE := Lib.hid (And.intro hj hkm)
      have hle : ¬ (q : Int) < L := by rw [← hq, ← hL, hkm]; omega
      clear hj hkm hL hq
      gi_wp2
      go_end0
      refine ⟨⟨_, rfl⟩, .inl ?_⟩
      try refine ⟨_, rfl, ?_⟩
      have := JE.out.1
      rwa [JE.out.2, List.take_of_length_le (by simp)] at this
end Go.Proofs.Ytdikdkllbhanfaa
