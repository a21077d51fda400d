/- Weak maps: the iterator over the entries. -/
import Derived.Test.YtdikdkllbhanfaaWkB
import Derived.Test.YtdikdkllbhanfaaInTail
import Derived.Test.YtdikdkllbhanfaaCelG
import Derived.Sort.CutIn
namespace Go.Proofs.Ytdikdkllbhanfaa
set_option linter.all false
open Go.RowKit Go.Sort Go.Deep Go.Shelf
attribute [local go_sem] Oper.semAt_some

abbrev encE (mo : List Val) {m : Nat} (x : Fin m) : Array Value := #[(vAt mo (2 * x.val)).agg, (vAt mo (2 * x.val + 1)).agg]
set_option maxRecDepth 100000 in
set_option maxHeartbeats 4000000 in
theorem entries1_in (l Bn n₀ m : Nat) (kd sh fl ag : Int) (sv mv : Value) (mo : List Val) (hml : mo.length = 2 * m) (J Jx : List (Fin m) → World → Prop)
    (Bq : Nat) (hJ : AbidesFrom Bq J) (hJx : AbidesFrom Bq Jx)
    (hY : ∀ pre x W, J pre W → pre.length < m → YieldAt Fence.wide 7 Try.prog l (encE mo x) W fun e W' =>
      (e = .returned (.bool true) ∧ J (pre ++ [x]) W' ∧ KpB n₀ Bn W W') ∨ (e = .returned (.bool false) ∧ Jx (pre ++ [x]) W'))
    (W : World) (hB : W.heap[Bn]? = some (cellO kd sh fl ag sv mv)) (hn : n₀ ≤ W.heap.size) (w0 : World) (hw0 : w0.heap.size ≤ n₀) (h0b : Below w0.heap.size w0 W) (h2 : IsV w0 mv mo) (h0 : J [] W) :
    CallsIn Fence.wide 8 Try.prog 45 #[.func (.yield l) #[] #[], .pointer (some ⟨Bn, 0, none⟩)] W fun e W' => (∃ v, e = .returned v) ∧
      ((∃ ys, ys = List.finRange m ∧ J ys W') ∨ (∃ pre, pre <+: List.finRange m ∧ Jx pre W')) := by
  obtain ⟨A2, n2, rfl, _, hm2⟩ := h2.form
  have H2 := Lib.hid h2
  have HJ := Lib.hid hJ
  have HX := Lib.hid hJx
  have HY := Lib.hid hY
  have HB := Lib.hid hB
  have H0 := Lib.hid h0
  have HM := Lib.hid hml
  unfold maxLen at hm2
  clear h2 hJ hJx hY h0
  refine callsIn_of_wp Try.func45 rfl trivial ?_ rfl
  simp only [Try.ntmps45, List.size_toArray, List.length_cons, List.length_nil, Nat.reduceAdd, Nat.reduceSub, Array.replicate_succ, Array.replicate_zero, List.push_toArray, List.append_toArray, List.nil_append, List.cons_append]
  gi_wp2
  clear hB hml
  gi_loopw [3] (fun i wr => ∃ k : Nat, k ≤ m ∧ i = .int .i64 ((2 * k : Nat) : Int) ∧ J ((List.finRange m).take k) wr ∧ KpB n₀ Bn W wr) (fun i _ => 2 * m - (intOf i).toNat)
  case atStart => exact ⟨0, by omega, by simp, H0.out, KpB.refl _ _ _⟩
  case round =>
    obtain ⟨k, hk, rfl, hj, hB⟩ := hrel
    obtain ⟨⟨p0, p1, p2, p3, p4, p5⟩, _⟩ := cells6 (hB.2.trans HB.out)
    by_cases hlt : k < m
    · have hml := HM.out
      obtain ⟨b, off, rfl⟩ := isV_addr H2.out (by omega)
      have hbw := h0b.trans (hB.1.mono hw0)
      obtain ⟨lb, x0, x1, x2⟩ := (H2.out.below hbw).v3 (2 * k) (by omega)
      obtain ⟨_, y0, y1, y2⟩ := (H2.out.below hbw).v3 (2 * k + 1) (by omega)
      have hj' : J ((List.finRange m).take k) wr.drew := HJ.out _ _ _ none hj (⟨rfl, rfl, rfl, Nat.le_refl _, fun _ _ _ => rfl⟩) (fun r e => by cases e)
      obtain ⟨fn, tmps, assign, body, hy, hR⟩ := HY.out _ ⟨k, hlt⟩ _ hj' (by rw [List.length_take]; omega)
      have HBW := Lib.hid hB
      change (Instr.yield l #[(vAt mo (2 * k)).agg, (vAt mo (2 * k + 1)).agg]).run Try.prog _ = _ at hy
      generalize hL : mo.length = L at *
      generalize hq : 2 * k = q at *
      generalize vAt mo q = u at *
      generalize vAt mo (q + 1) = v at *
      have HR := Lib.hid hR
      have HQ := Lib.hid (And.intro hL hq)
      have e1 : ¬ (q : Int) < 0 := by omega
      have e2 : (q : Int) + 1 < L := by omega
      have e3 : (q : Int) < L := by omega
      have e6 : q ≤ 9223372036854775805 := by omega
      have e7 : IntKind.i64.wrap ((q : Int) + 1) = (q : Int) + 1 := IntWalk.i64_in _ (by omega)
      have e8 : ((q : Int) + 1).toNat = q + 1 := by omega
      have e9 : 0 ≤ (q : Int) + 1 := by omega
      clear hR hB hj hj' hL hq hbw hml
      gi_upto_region 3 with fail
      refine wpWide_tail 12 Try.mixed ?_ ?_
      · kernel_rfl
      simp only [List.take_succ_cons, List.take_zero, List.drop_succ_cons, List.drop_zero]
      (repeat (with_reducible refine wpQuiet_step (fun K hK => ?_); go_simp; refine hK _ ?_; clear hK K))
      refine wpQuiet_nil ?_
      gi_wp2
      refine HR.out.mono ?_
      rintro e W3 (⟨rfl, hJ3, hk3⟩ | ⟨rfl, hJx3⟩)
      · have J3 := Lib.hid (And.intro hJ3 (HBW.out.trans ((show KpB n₀ Bn wr wr.drew from ⟨(Below.refl _ _).drew, rfl⟩).trans hk3)))
        clear hJ3 hk3
        gi_wp2
        go_roundw
        case rel => exact ⟨k + 1, by omega, by have := HQ.out.2; rw [show 2 * (k + 1) = q + 2 by omega]; go_num, by rw [finRange_take m k hlt]; exact J3.out.1, J3.out.2⟩
        case measure => have := HQ.out.2; simp [intOf]; omega
      · have J3 := Lib.hid hJx3
        clear hJx3
        gi_wp2
        refine bodyPost_ret (results_none rfl _ _ _) rfl ?_
        refine ⟨⟨_, rfl⟩, .inr ⟨_, ?_, J3.out⟩⟩
        rw [← finRange_take m k hlt]
        exact List.take_prefix _ _
    · have hkm : k = m := by omega
      have JE := Lib.hid (And.intro hj hkm)
      have hml := HM.out
      generalize hL : mo.length = L at *
      generalize hq : 2 * k = q at *
      have hle : ¬ (q : Int) + 1 < L := by omega
      have e6 : q ≤ 9223372036854775806 := by omega
      clear hj hkm hL hq hB hml
      gi_wp2
      go_end0
      refine ⟨⟨_, rfl⟩, .inl ?_⟩
      try refine ⟨_, rfl, ?_⟩
      have := JE.out.1
      rwa [JE.out.2, List.take_of_length_le (by simp)] at this
theorem entries_stops (m : Nat) (kd sh fl ag : Int) (sv mv : Value) (mo : List Val) (hml : mo.length = 2 * m) (Bn : Nat) (w0 w : World) (h0 : Below w0.heap.size w0 w)
    (hB : w.heap[Bn]? = some (cellO kd sh fl ag sv mv)) (h2 : IsV w0 mv mo) :
    SeqStopsK Fence.wide 8 Try.prog 45 #[.pointer (some ⟨Bn, 0, none⟩)] (fun x : Fin m => encE mo x) (KpB w0.heap.size Bn) (fun ys => ys = List.finRange m) (fun pre => pre <+: List.finRange m) m w := fun l J Jx W hW hJ hJx hY hh0 =>
  entries1_in l Bn w0.heap.size m kd sh fl ag sv mv mo hml J Jx W.heap.size hJ hJx hY W ((hW.block Bn (Array.getElem?_eq_some_iff.1 hB).1).trans hB) (Nat.le_trans h0.size hW.size) w0 (Nat.le_refl _) (bl_tr h0 hW) h2 hh0
set_option maxHeartbeats 1000000 in
theorem entries_any (k sh fl ag : Int) (A B : Option Addr) (n ca m cb : Nat) (w : World) :
    Calls Try.prog 30 #[cellV k sh fl ag (.slice A n ca) (.slice B m cb)] w fun e w' => e = .returned (.func (.func 45) #[] #[.pointer (some ⟨w.heap.size, 0, none⟩)]) ∧ w' = w.alloc (cellO k sh fl ag (.slice A n ca) (.slice B m cb)) := by
  go_enter Try.func30, Try.ntmps30
  go_wp2
  go_ret
  exact ⟨rfl, rfl⟩
end Go.Proofs.Ytdikdkllbhanfaa
