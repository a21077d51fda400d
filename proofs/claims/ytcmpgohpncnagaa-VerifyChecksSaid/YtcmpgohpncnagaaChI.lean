/- Right of a code object cut down to one guard. -/
import Derived.Test.YtcmpgohpncnagaaChG
namespace Go.Proofs.Ytcmpgohpncnagaa
set_option linter.all false
open Go.ChangeShapes Go.WideShapes Go.ChangeAt Go.RowKit Go.Sort Go.Deep Go.Shelf

abbrev insZ : InsD := ⟨0, 0, 0, 0⟩
abbrev codeG (c : CodeD) (x : GrdD) : CodeD := ⟨⟨#[]⟩, c.kd, 0, c.rg, List.replicate c.ins.length insZ, [], [], [x]⟩
theorem insZ_ok : insZ.ok := ⟨i64_0, i64_0, i64_0, i64_0⟩
theorem codeG_ok {c : CodeD} {x : GrdD} (hc : c.ok) (hx : x.ok) : (codeG c x).ok := ⟨Nat.zero_le _, hc.2.1, i64_0, hc.2.2.2.1, fun y hy => by rw [List.eq_of_mem_replicate hy]; exact insZ_ok, by simp, by simp, fun y hy => by rw [List.mem_singleton.1 hy]; exact hx⟩
theorem sgn_0 : sgn 0 0 = 45 ∧ sgn 0 1 = 45 ∧ sgn 0 2 = 45 := by decide +kernel
theorem insC_Z (c : CodeD) : insC c insZ = true := by
  unfold insC
  rw [sgn_0.1, sgn_0.2.1, sgn_0.2.2]
  simp [prtC]
theorem rightC_G {c : CodeD} (x : GrdD) (hh : headC c = true) : rightC (codeG c x) = gdM (codeG c x) x := by
  obtain ⟨h1, h2, h3, -, -, -⟩ := headC_ok hh
  have e1 : hdC (codeG c x) = true := by
    simp [hdC, inB, h1, h2]
    exact Nat.zero_le _
  have e2 : (List.replicate c.ins.length insZ).all (insC (codeG c x)) = true := by
    rw [List.all_eq_true]
    intro y hy
    rw [List.eq_of_mem_replicate hy]
    exact insC_Z _
  unfold rightC
  rw [e1]
  simp only [e2, List.length_replicate, h3, List.length_nil, List.all_nil, List.length_singleton, List.all_cons, decide_true, Bool.and_true, Bool.true_and, Nat.zero_le]
  simp
theorem gdV_G {c : CodeD} (x : GrdD) (hh : headC c = true) : gdV c x = (rightC (codeG c x) && !decide (x.g < x.t)) := by
  rw [rightC_G x hh, Bool.eq_iff_iff]
  simp [gdV, gdM, prtC, inB]
  omega
abbrev zins : Array Value := #[.int .i64 0, .int .i64 0, .int .i64 0, .int .i64 0]
theorem info_ins : (Try.prog.info? 45).map (fun i => (i.zero, i.size, i.bytes)) = some (some (.agg zins), 4, 32) := by kernel_rfl
theorem make_inss (n : Nat) (hn : n ≤ 65536) (w : World) : (Instr.makeSlice 22 (.int .i64 (n : Int)) (.int .i64 (n : Int))).run Try.prog w = .ok (.slice (some ⟨w.heap.size, 0, none⟩) n n) (w.alloc (.cells (madeCells zins (n * 4)) 45)) := by
  obtain ⟨i, hi, hzz⟩ := Option.map_eq_some_iff.1 info_ins
  simp only [Prod.mk.injEq] at hzz
  obtain ⟨hz, hs, hb⟩ := hzz
  have := run_make (P := Try.prog) w 22 45 i _ Try.underlying22 hi hz .i64 .i64 n n (by omega) (Int.le_refl _) (by rw [hb]; omega) (by omega)
  simpa [hs, Value.cells] using this
theorem zins_at (z n k : Nat) (hk : k < n * 4) : (madeCells zins (n * 4))[k]? = some (.int .i64 0) := by
  unfold madeCells
  simp [hk]
  rcases (by omega : k % 4 = 0 ∨ k % 4 = 1 ∨ k % 4 = 2 ∨ k % 4 = 3) with e | e | e | e <;> rw [e] <;> rfl
theorem sl_made {w : World} {n b : Nat} (hn : n ≤ 65536) (h : w.heap[b]? = some (.cells (madeCells zins (n * 4)) 45)) : SlOf w 4 InsD.cs (.slice (some ⟨b, 0, none⟩) n n) (List.replicate n insZ) := by
  refine ⟨by unfold maxLen; simp; omega, some ⟨b, 0, none⟩, n, by simp, by simp, fun _ => ⟨b, 0, rfl, (Array.getElem?_eq_some_iff.1 h).1, fun i y hi j u hj => ?_⟩⟩
  simp only [List.getElem?_replicate] at hi
  split at hi
  · rename_i hlt
    cases hi
    have hj4 : j < 4 := (List.getElem?_eq_some_iff.1 hj).1
    have hu : u = .int .i64 0 := by
      rcases (by omega : j = 0 ∨ j = 1 ∨ j = 2 ∨ j = 3) with rfl | rfl | rfl | rfl <;> (simp at hj; exact hj.symm)
    rw [cell_of_row w b _ _ _ _ h, hu, zins_at 0 n _ (by omega)]
  · cases hi
end Go.Proofs.Ytcmpgohpncnagaa
