/- Registries: the iterator over the entries; bare. -/
import Derived.Test.YtokoigjcakgpdaaFinB
import Derived.Test.YtokoigjcakgpdaaCelG
namespace Go.Proofs.Ytokoigjcakgpdaa
set_option linter.all false
open Go.RowKit Go.Sort Go.Deep Go.Shelf
attribute [local go_sem] Oper.semAt_some

set_option maxRecDepth 100000 in
set_option maxHeartbeats 4000000 in
theorem entries1_in (l Bn n₀ m b off cap : Nat) (kd sh fl ag : Int) (sv : Value) (hcap : 1 + 4 * m ≤ cap) (hm : m ≤ 1000000) (J Jx : List (Fin m) → World → Prop)
    (Bq : Nat) (hJ : AbidesFrom Bq J) (hJx : AbidesFrom Bq Jx)
    (hY : ∀ pre x W, J pre W → pre.length < m → YieldAt Fence.wide 7 Try.prog l #[.int .i64 ((1 + 4 * x.val : Nat) : Int), .slice (some ⟨b, off + (1 + 4 * x.val) * 3, none⟩) 4 4] W fun e W' =>
      (e = .returned (.bool true) ∧ J (pre ++ [x]) W' ∧ KpB n₀ Bn W W') ∨ (e = .returned (.bool false) ∧ Jx (pre ++ [x]) W'))
    (W : World) (hB : W.heap[Bn]? = some (.cells #[.int .i64 kd, .int .i64 sh, .int .i64 fl, .int .i64 ag, sv, .slice (some ⟨b, off, none⟩) (1 + 4 * m) cap] 24)) (hn : n₀ ≤ W.heap.size) (h0 : J [] W) :
    CallsIn Fence.wide 8 Try.prog 40 #[.func (.yield l) #[] #[], .pointer (some ⟨Bn, 0, none⟩)] W fun e W' => (∃ v, e = .returned v) ∧
      ((∃ ys, ys = List.finRange m ∧ J ys W') ∨ (∃ pre, pre <+: List.finRange m ∧ Jx pre W')) := by
  have HJ := Lib.hid hJ
  have HX := Lib.hid hJx
  have HY := Lib.hid hY
  have HB := Lib.hid hB
  have H0 := Lib.hid h0
  clear hJ hJx hY h0
  refine callsIn_of_wp Try.func40 rfl trivial ?_ rfl
  simp only [Try.ntmps40, List.size_toArray, List.length_cons, List.length_nil, Nat.reduceAdd, Nat.reduceSub, Array.replicate_succ, Array.replicate_zero, List.push_toArray, List.append_toArray, List.nil_append, List.cons_append]
  gi_wp2
  clear hB
  gi_loopw [3] (fun i wr => ∃ k : Nat, k ≤ m ∧ i = .int .i64 ((1 + 4 * k : Nat) : Int) ∧ J ((List.finRange m).take k) wr ∧ KpB n₀ Bn W wr) (fun i _ => 1 + 4 * m - (intOf i).toNat)
  case atStart => exact ⟨0, by omega, by simp, H0.out, KpB.refl _ _ _⟩
  case round =>
    obtain ⟨k, hk, rfl, hj, hB⟩ := hrel
    obtain ⟨⟨p0, p1, p2, p3, p4, p5⟩, _⟩ := cells6 (hB.2.trans HB.out)
    generalize hL : 1 + 4 * m = L at *
    generalize hq : 1 + 4 * k = q at *
    by_cases hlt : k < m
    · have HBW := Lib.hid (And.intro hB hj)
      have HQ := Lib.hid (And.intro hL hq)
      have e1 : ¬ (q : Int) < 0 := by omega
      have e2 : (q : Int) + 4 ≤ L := by omega
      have e5 : q + 4 ≤ cap := by omega
      have e6 : q ≤ 4000001 := by omega
      obtain ⟨fn, tmps, assign, body, hy, hR⟩ := HY.out _ ⟨k, hlt⟩ _ hj (by rw [List.length_take]; omega)
      change (Instr.yield l #[.int .i64 ((1 + 4 * k : Nat) : Int), .slice (some ⟨b, off + (1 + 4 * k) * 3, none⟩) 4 4]).run Try.prog _ = _ at hy
      rw [hq] at hy
      have HR := Lib.hid hR
      clear hR hB hj hL hq
      gi_wp2
      trace_state
      refine HR.out.mono ?_
      rintro e W3 (⟨rfl, hJ3, hk3⟩ | ⟨rfl, hJx3⟩)
      · have J3 := Lib.hid (And.intro hJ3 (HBW.out.1.trans hk3))
        clear hJ3 hk3
        gi_wp2
        go_roundw
        case rel => exact ⟨k + 1, by omega, by have := HQ.out.2; rw [show 1 + 4 * (k + 1) = q + 4 by omega]; go_num, by rw [finRange_take m k hlt]; exact J3.out.1, J3.out.2⟩
        case measure => simp [intOf]; omega
      · have J3 := Lib.hid hJx3
        clear hJx3
        gi_wp2
        refine bodyPost_ret (results_none rfl _ _ _) rfl ?_
        refine ⟨⟨_, rfl⟩, .inr ⟨_, ?_, J3.out⟩⟩
        rw [← finRange_take m k hlt]
        exact List.take_prefix _ _
    · have hkm : k = m := by omega
      have JE := Lib.hid (And.intro hj hkm)
      have hle : ¬ (q : Int) + 4 ≤ L := by omega
      have e6 : q ≤ 4000001 := by omega
      clear hj hkm hL hq hB
      gi_wp2
      go_end0
      refine ⟨⟨_, rfl⟩, .inl ?_⟩
      try refine ⟨_, rfl, ?_⟩
      have := JE.out.1
      rwa [JE.out.2, List.take_of_length_le (by simp)] at this
theorem entries_stops (m b off cap : Nat) (kd sh fl ag : Int) (sv : Value) (hcap : 1 + 4 * m ≤ cap) (hm : m ≤ 1000000) (Bn : Nat) (w0 w : World) (h0 : Below w0.heap.size w0 w)
    (hB : w.heap[Bn]? = some (.cells #[.int .i64 kd, .int .i64 sh, .int .i64 fl, .int .i64 ag, sv, .slice (some ⟨b, off, none⟩) (1 + 4 * m) cap] 24)) :
    SeqStopsK Fence.wide 8 Try.prog 40 #[.pointer (some ⟨Bn, 0, none⟩)] (fun x : Fin m => #[.int .i64 ((1 + 4 * x.val : Nat) : Int), .slice (some ⟨b, off + (1 + 4 * x.val) * 3, none⟩) 4 4]) (KpB w0.heap.size Bn) (fun ys => ys = List.finRange m) (fun pre => pre <+: List.finRange m) m w := fun l J Jx W hW hJ hJx hY hh0 =>
  entries1_in l Bn w0.heap.size m b off cap kd sh fl ag sv hcap hm J Jx W.heap.size hJ hJx hY W ((hW.block Bn (Array.getElem?_eq_some_iff.1 hB).1).trans hB) (Nat.le_trans h0.size hW.size) hh0
set_option maxHeartbeats 1000000 in
theorem entries_any (k sh fl ag : Int) (A B : Option Addr) (n ca m cb : Nat) (w : World) :
    Calls Try.prog 27 #[cellV k sh fl ag (.slice A n ca) (.slice B m cb)] w fun e w' => e = .returned (.func (.func 40) #[] #[.pointer (some ⟨w.heap.size, 0, none⟩)]) ∧ w' = w.alloc (cellO k sh fl ag (.slice A n ca) (.slice B m cb)) := by
  go_enter Try.func27, Try.ntmps27
  go_wp2
  go_ret
  exact ⟨rfl, rfl⟩
end Go.Proofs.Ytokoigjcakgpdaa
