/- Walks: an escape; a character (package literal). -/
import Derived.Test.YtkbbgnmhfkilgaaLitB
namespace Go.Proofs.Ytkbbgnmhfkilgaa
set_option linter.all false
open Go.RowKit Go.Sort

theorem escM_end {s : ByteArray} {i : Nat} (h : ¬ i + 1 < s.size) : escM s i = ⟨0, 0, 8⟩ := by rw [escM, if_pos (by omega)]
theorem escM_in {s : ByteArray} {i : Nat} (h : i + 1 < s.size) : escM s i = escC s i (byI s (i + 1)) := by rw [escM, if_neg (by omega)]

set_option maxRecDepth 100000 in
set_option maxHeartbeats 400000 in
theorem escape_any (s : ByteArray) (i : Int) (w : World) (hs : s.size ≤ 1000000000) (hj : 0 ≤ i) (hjs : i < s.size) :
    Calls Try.prog 34 #[.string s, .int .i64 i] w fun e w' => e = .returned (oneV i (escM s i.toNat)) ∧ w = w' := by
  obtain ⟨j, rfl⟩ := Int.eq_ofNat_of_zero_le hj
  simp only [Int.toNat_natCast] at *
  have hjb : (j : Int) ≤ 1000000000 := by omega
  by_cases hlt : j + 1 < s.size
  · rw [escM_in hlt, ← byI_at s (j + 1) hlt]
    have hx := Lib.hid (@byByte_any s (j + 2) w hs (by omega) (by omega))
    go_enter Try.func34, Try.ntmps34
    go_wp2_with (go_at_call 39; refine hx.out.mono ?_; rintro e w' ⟨rfl, rfl⟩; unfold oneV)
    all_goals go_ret3
    all_goals exact ⟨by simp [oneV, escC, *], rfl⟩
  · go_enter Try.func34, Try.ntmps34
    go_wp2_with fail
    go_ret3
    exact ⟨oneV_of (escM_end hlt) rfl rfl rfl, rfl⟩

set_option maxRecDepth 100000 in
set_option maxHeartbeats 400000 in
theorem one_any (s : ByteArray) (i : Int) (w : World) (hs : s.size ≤ 1000000000) (hj : 0 ≤ i) (hjs : i < s.size) :
    Calls Try.prog 25 #[.string s, .int .i64 i] w fun e w' => e = .returned (oneV i (oneM s i.toNat)) ∧ w = w' := by
  obtain ⟨j, rfl⟩ := Int.eq_ofNat_of_zero_le hj
  simp only [Int.toNat_natCast] at *
  have hjb : (j : Int) ≤ 1000000000 := by omega
  have hlt : j < s.size := by omega
  have hx := Lib.hid (escape_any s j w hs (by omega) hjs)
  rw [oneM, ← byI_at s j hlt]
  go_enter Try.func25, Try.ntmps25
  go_wp2_with (go_at_call 34; refine hx.out.mono ?_; rintro e w' ⟨rfl, rfl⟩; unfold oneV)
  all_goals go_ret3
  all_goals exact ⟨by simp [oneV, *], rfl⟩
end Go.Proofs.Ytkbbgnmhfkilgaa
