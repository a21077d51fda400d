/- Walk of the arena Clear. -/
import Derived.Test.YtgajmhklinolmaaSpQ
import Derived.Lib.SliceRun
namespace Go.Proofs.Ytgajmhklinolmaa
set_option linter.all false
open Go.RowKit Go.Sort Go.Deep

theorem zeros_len (n : Nat) : (Builtin.zeroCells zcell n).toList.length = n * 6 := by simp [Builtin.zeroCells]
theorem zeros_one (n : Nat) : ∀ u ∈ (Builtin.zeroCells zcell n).toList, u.oneCell' = true := by
  intro u hu
  simp only [Builtin.zeroCells, Array.mem_toList_iff, Array.mem_map] at hu
  obtain ⟨i, _, rfl⟩ := hu
  have : ∀ j, j < 6 → (zcell[j]!).oneCell' = true := by decide
  exact this _ (Nat.mod_lt _ (by decide))
theorem run_clearC {w : World} {ty : TypeId} {g n cap : Nat} {cur : Array Value} (hg : w.heap[g]? = some (.cells cur 38 (0, 0))) (h0 : 0 < n) (hn : n * 6 ≤ cur.size) :
    (Builtin.clear_ #[29] ty #[.slice (some ⟨g, 0, none⟩) n cap]).run Try.prog w = .ok (.tuple #[]) (w.setRow g ((Builtin.zeroCells zcell n).toList ++ cur.toList.drop (n * 6)).toArray) := by
  obtain ⟨i, hi, hz, _, _⟩ := cell_info
  have hv : ∀ w, (zeroValue 38).run Try.prog w = .ok (.agg zcell) w := fun w => by simp [zeroValue, typeInfo, hi, hz]
  have hst := run_storeCells_at Try.prog g 0 38 (Builtin.zeroCells zcell n).toList 0 cur w hg (by rw [zeros_len]; omega) (zeros_one n)
  simp only [Nat.add_zero, List.take_zero, List.nil_append, Nat.zero_add, zeros_len] at hst
  obtain ⟨m, rfl⟩ : ∃ m, n = m + 1 := ⟨n - 1, by omega⟩
  have hc : (Value.agg zcell).cells = zcell := rfl
  simp [Builtin.clear_, run_underlying Try.underlying29, hv, hc, hst]
theorem run_clear0 {w : World} {ty : TypeId} {A : Option Addr} {cap : Nat} :
    (Builtin.clear_ #[29] ty #[.slice A 0 cap]).run Try.prog w = .ok (.tuple #[]) w := by
  cases A <;> simp [Builtin.clear_, run_underlying Try.underlying29]

theorem ArenaR.clear {w W1 : World} {F : Nat → Prop} {s : Nat} {room : Int} {l : List CellD} {rs : List CellR} {A : Option Addr} {cap : Nat} (hA : ArenaR w F s room l rs (.slice A l.length cap))
    (hr : ∃ xs, W1.ownsRow 0 38 6 (.slice A l.length cap) l.length xs) (ht : Touch (fun b => (Value.slice A l.length cap).ownBlock = some b) w W1) :
    Arena (W1.setCell ⟨s, 1, none⟩ (.slice A 0 cap)) F s room [] ∧ Touch F w (W1.setCell ⟨s, 1, none⟩ (.slice A 0 cap)) := by
  have hs : s < w.heap.size := hA.low s hA.ins
  have hst : W1.heap[s]? = some (.cells #[.int .i64 room, .slice A l.length cap] 57) := (ht.block s hs fun e => (hA.blk s e).2 rfl).trans hA.st
  have ts : Touch (fun b => b = s) W1 (W1.setCell ⟨s, 1, none⟩ (.slice A 0 cap)) := (Touch.refl _ _).set1 _ _
  have t0 : Touch F w (W1.setCell ⟨s, 1, none⟩ (.slice A 0 cap)) := (ht.mono fun b _ h => (hA.blk b h).1).trans ts fun b _ h => (by subst h; exact hA.ins)
  refine ⟨⟨[], .slice A 0 cap, hA.ins, heap_setCell_same W1 s 1 _ _ _ hst, ?_, rfl, ?_, fun i r c h => by simp at h, fun i r h => by simp at h, fun b h => Nat.lt_of_lt_of_le (hA.low b h) t0.size⟩, t0⟩
  · obtain ⟨xs, hr⟩ := hr
    have h2 : W1.ownsRow 0 38 6 (.slice A 0 cap) 0 [] := by
      refine ⟨rfl, ?_⟩
      rcases hr.2 with ⟨e, h0⟩ | ⟨g, cap', cur, e, hb, hg, hc, hm, hs', _⟩
      · simp only [Value.slice.injEq] at e
        obtain ⟨rfl, _, rfl⟩ := e
        exact .inl ⟨rfl, rfl⟩
      · simp only [Value.slice.injEq, true_and] at e
        obtain ⟨rfl, rfl⟩ := e
        exact .inr ⟨g, cap, cur, rfl, hb, hg, Nat.zero_le _, hm, hs', by simp⟩
    exact ownsRow_touch h2 ts fun g hg e => by
      cases A with
      | none => simp [Value.ownBlock] at hg
      | some a =>
        have e1 : (Value.slice (some a) l.length cap).ownBlock = some g := hg
        exact (hA.blk g e1).2 e
  · intro b hb
    cases A with
    | none => simp [Value.ownBlock] at hb
    | some a =>
      have e1 : (Value.slice (some a) l.length cap).ownBlock = some b := hb
      exact hA.blk b e1
end Go.Proofs.Ytgajmhklinolmaa
