/- Walks of the small functions of package literal and of its reference. -/
import Derived.Test.YtkbbgnmhfkilgaaLitDef
namespace Go.Proofs.Ytkbbgnmhfkilgaa
set_option linter.all false
open Go.RowKit Go.Sort


set_option maxHeartbeats 400000 in
theorem digit_yes (n : Int) (w : World) (h0 : 0 ≤ n) (h1 : n < 256) (hd : 0 ≤ digI n) :
    Calls Try.prog 41 #[.int .u8 n] w fun e w' => e = .returned (.tuple #[.int .u8 (digI n), .bool true]) ∧ w = w' := by
  unfold digI at *
  split at hd
  · rename_i h
    obtain ⟨a, b⟩ := h
    go_enter Try.func41, Try.ntmps41
    go_wp2
    go_ret2
    simp [*]
  split at hd
  · rename_i h' h
    obtain ⟨a, b⟩ := h
    have : ¬ n ≤ 57 := by omega
    go_enter Try.func41, Try.ntmps41
    go_wp2
    go_ret2
    simp [*]
    omega
  split at hd
  · rename_i h'' h' h
    obtain ⟨a, b⟩ := h
    have : ¬ 97 ≤ n := by omega
    have : ¬ n ≤ 57 := by omega
    go_enter Try.func41, Try.ntmps41
    go_wp2
    go_ret2
    simp [*]
    omega
  · omega

set_option maxHeartbeats 400000 in
theorem digit_no (n : Int) (w : World) (h0 : 0 ≤ n) (h1 : n < 256) (hd : digI n < 0) :
    Calls Try.prog 41 #[.int .u8 n] w fun e w' => e = .returned (.tuple #[.int .u8 0, .bool false]) ∧ w = w' := by
  unfold digI at *
  split at hd
  · omega
  split at hd
  · omega
  split at hd
  · omega
  go_enter Try.func41, Try.ntmps41
  go_wp2
  all_goals first | omega | (go_ret2; simp; done)

set_option maxHeartbeats 400000 in
theorem hex_any (n : Int) (w : World) (h0 : 0 ≤ n) (h1 : n < 256) :
    Calls Try.prog 35 #[.int .u8 n] w fun e w' => e = .returned (.int .i64 (digI n)) ∧ w = w' := by
  go_enter Try.func35, Try.ntmps35
  go_wp2
  all_goals go_ret
  all_goals exact ⟨ret_int (by unfold digI; (repeat' split) <;> first | rfl | omega), rfl⟩
end Go.Proofs.Ytkbbgnmhfkilgaa
