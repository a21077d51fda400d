/- Walk of the arena Clear, whole. -/
import Derived.Test.YtgajmhklinolmaaSpR
namespace Go.Proofs.Ytgajmhklinolmaa
set_option linter.all false
open Go.RowKit Go.Sort Go.Deep

theorem ArenaR.zeroed {w : World} {F : Nat → Prop} {s : Nat} {room : Int} {l : List CellD} {rs : List CellR} {A : Option Addr} {cap : Nat} (hA : ArenaR w F s room l rs (.slice A l.length cap)) :
    ∃ W1, (∀ ty, (Builtin.clear_ #[29] ty #[.slice A l.length cap]).run Try.prog w = .ok (.tuple #[]) W1) ∧ (∃ xs, W1.ownsRow 0 38 6 (.slice A l.length cap) l.length xs) ∧ Touch (fun b => (Value.slice A l.length cap).ownBlock = some b) w W1 := by
  by_cases h0 : l.length = 0
  · exact ⟨w, fun ty => by rw [h0]; exact run_clear0, ⟨_, hA.row⟩, Touch.refl _ _⟩
  · rcases hA.row.2 with ⟨_, h⟩ | ⟨g, cap', cur, e, hb, hg, hc, hm, hs, ht⟩
    · omega
    · simp only [Value.slice.injEq, true_and] at e
      obtain ⟨rfl, rfl⟩ := e
      have hn : l.length * 6 ≤ cur.size := by rw [hs]; omega
      refine ⟨_, fun ty => run_clearC hg (by omega) hn, ⟨(Builtin.zeroCells zcell l.length).toList, zeros_len _, .inr ⟨g, cap, _, rfl, hb, setRow_heap w g _ _ _ _ hg, hc, hm, ?_, ?_⟩⟩, ?_⟩
      · simp [Builtin.zeroCells]
        omega
      · have e := zeros_len l.length
        rw [show ((Builtin.zeroCells zcell l.length).toList ++ cur.toList.drop (l.length * 6)).toArray.toList = (Builtin.zeroCells zcell l.length).toList ++ cur.toList.drop (l.length * 6) by simp, ← e, List.take_left]
      · exact ⟨rfl, rfl, rfl, by simp [World.setRow], fun k hk hn => setRow_other w g k _ fun e => hn (by subst e; rfl)⟩

set_option maxRecDepth 100000 in
set_option maxHeartbeats 1000000 in
theorem clear_any (F : Nat → Prop) (s : Nat) (room : Int) (l : List CellD) (w : World) (h : Arena w F s room l) :
    Calls Try.prog 21 #[.pointer (some ⟨s, 0, none⟩)] w fun e w' => e = .returned (.tuple #[]) ∧ Arena w' F s room [] ∧ Touch F w w' := by
  obtain ⟨rs, A, cap, hA⟩ := h.rowed
  have hs : s < w.heap.size := hA.low s hA.ins
  obtain ⟨r0, r1, _, z1⟩ := cells2 hA.st
  obtain ⟨W1, hcl, hr, ht⟩ := hA.zeroed
  have hk := ht.block s hs fun e => (hA.blk s e).2 rfl
  have s1 := (World.cell?_of_block (a := ⟨s, 1, none⟩) hk).trans r1
  have s2 := (World.frozen?_of_block (a := ⟨s, 1, none⟩) hk).trans z1
  have RR := Lib.hid (hA.clear hr ht)
  clear hk hr ht hA h
  go_enter Try.func21, Try.ntmps21
  go_wp2
  go_end0
  exact ⟨rfl, RR.out.1, RR.out.2⟩
end Go.Proofs.Ytgajmhklinolmaa
