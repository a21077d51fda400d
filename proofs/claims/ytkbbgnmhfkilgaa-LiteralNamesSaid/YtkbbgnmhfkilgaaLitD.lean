/- Walks of the reference of package literal: one. -/
import Derived.Test.YtkbbgnmhfkilgaaLitC
namespace Go.Proofs.Ytkbbgnmhfkilgaa
set_option linter.all false
open Go.RowKit Go.Sort

/-- what the reference's parser of an escape answers: value, length, error -/
def refV (o : One) : Value := .tuple #[.int .u8 o.v, .int .i64 o.n, .int .i64 o.e]
theorem refV_of {o : One} {v n e : Int} {o' : One} (h : o = o') (hv : v = o'.v) (hn : n = o'.n) (he : e = o'.e) : Ending.returned (.tuple #[.int .u8 v, .int .i64 n, .int .i64 e]) = Ending.returned (refV o) := by
  subst h hv hn he
  rfl
theorem escC_x (s : ByteArray) (i : Nat) (c : Int) (h : (c == 120) = true) : escC s i c = hexM s (i + 2) := by
  have h' : c = 120 := by simpa using h
  subst h'
  rfl

set_option maxRecDepth 100000 in
set_option maxHeartbeats 400000 in
theorem rone_x (s : ByteArray) (j : Nat) (w : World) (hs : s.size ≤ 1000000000) (hjs : j + 1 < s.size) (hc : ((s[j + 1].toNat : Int) == 120) = true) :
    Calls Try.prog 26 #[.string s, .int .i64 j] w fun e w' => e = .returned (refV (hexM s (j + 2))) ∧ w = w' := by
  have hjb : (j : Int) ≤ 1000000000 := by omega
  have hc' : (s[j + 1].toNat : Int) = 120 := by simpa using hc
  go_enter Try.func26, Try.ntmps26
  go_wp2
  clear hc hc'
  go_loop [8, 9, 10] (fun o i d => ∃ k : Nat, k ≤ 2 ∧ i = .int .i64 ((2 + k : Nat) : Int) ∧ o = .int .i64 (hx s (j + 2) k) ∧ (1 ≤ k → j + 2 < s.size ∧ 0 ≤ digI (byI s (j + 2))) ∧ (2 ≤ k → j + 2 + 1 < s.size ∧ 0 ≤ digI (byI s (j + 2 + 1)))) (fun _ i _ => 4 - (intOf i).toNat)
  case atStart => exact ⟨0, by omega, by simp, rfl, by omega, by omega⟩
  case round =>
    obtain ⟨k, hk, rfl, rfl, h1, h2⟩ := hrel
    have hk' : k = 0 ∨ k = 1 ∨ k = 2 := by omega
    have d1 := digI_hi (byI s (j + 2))
    have d2 := digI_hi (byI s (j + 2 + 1))
    have b1 := byI_lo s (j + 2)
    have b2 := byI_hi s (j + 2)
    have c1 := byI_lo s (j + 2 + 1)
    have c2 := byI_hi s (j + 2 + 1)
    rcases hk' with rfl | rfl | rfl
    · clear h1 h2 hk
      by_cases hlt : j + 2 < s.size
      · have e0 := Lib.hid (byI_at s (j + 2) hlt)
        by_cases hd : digI (byI s (j + 2)) < 0
        · go_wp2_with (go_at_call 35; rw [e0.out]; refine (hex_any _ _ b1 b2).mono ?_; rintro e w' ⟨rfl, rfl⟩)
          go_ret3
          exact ⟨refV_of (hexM_2 hlt hd) rfl rfl rfl, rfl⟩
        · have hd' : 0 ≤ digI (byI s (j + 2)) := by omega
          go_wp2_with (go_at_call 35; rw [e0.out]; refine (hex_any _ _ b1 b2).mono ?_; rintro e w' ⟨rfl, rfl⟩)
          go_round
          case rel => exact ⟨1, by omega, by go_num, by simp [hx, wrap64]; omega, fun _ => ⟨hlt, hd'⟩, by omega⟩
          case measure => first | (simp [intOf]; done) | (simp [intOf]; omega)
      · go_wp2
        go_ret3
        exact ⟨refV_of (hexM_1 hlt) rfl rfl rfl, rfl⟩
    · obtain ⟨hlt0, hd0⟩ := h1 (by omega)
      clear h1 h2 hk
      simp only [hx]
      by_cases hlt : j + 2 + 1 < s.size
      · have e0 := Lib.hid (byI_at s (j + 2 + 1) hlt)
        by_cases hd : digI (byI s (j + 2 + 1)) < 0
        · go_wp2_with (go_at_call 35; rw [e0.out]; refine (hex_any _ _ c1 c2).mono ?_; rintro e w' ⟨rfl, rfl⟩)
          go_ret3
          exact ⟨refV_of (hexM_4 hlt0 hd0 hlt hd) rfl rfl rfl, rfl⟩
        · have hd' : 0 ≤ digI (byI s (j + 2 + 1)) := by omega
          go_wp2_with (go_at_call 35; rw [e0.out]; refine (hex_any _ _ c1 c2).mono ?_; rintro e w' ⟨rfl, rfl⟩)
          go_round
          case rel => exact ⟨2, by omega, by go_num, by simp [hx], fun _ => ⟨hlt0, hd0⟩, fun _ => ⟨hlt, hd'⟩⟩
          case measure => first | (simp [intOf]; done) | (simp [intOf]; omega)
      · go_wp2
        go_ret3
        exact ⟨refV_of (hexM_3 hlt0 hd0 hlt) rfl rfl rfl, rfl⟩
    · obtain ⟨hlt0, hd0⟩ := h1 (by omega)
      obtain ⟨hlt1, hd1⟩ := h2 (by omega)
      clear h1 h2 hk
      simp only [hx]
      go_wp2
      go_ret3
      exact ⟨refV_of (hexM_5 hlt0 hd0 hlt1 hd1) rfl rfl rfl, rfl⟩

set_option maxRecDepth 100000 in
set_option maxHeartbeats 400000 in
theorem rone_any (s : ByteArray) (i : Int) (w : World) (hs : s.size ≤ 1000000000) (hj : 0 ≤ i) (hjs : i < s.size) :
    Calls Try.prog 26 #[.string s, .int .i64 i] w fun e w' => e = .returned (refV (escM s i.toNat)) ∧ w = w' := by
  obtain ⟨j, rfl⟩ := Int.eq_ofNat_of_zero_le hj
  simp only [Int.toNat_natCast] at *
  have hjb : (j : Int) ≤ 1000000000 := by omega
  by_cases hlt : j + 1 < s.size
  · rw [escM_in hlt, ← byI_at s (j + 1) hlt]
    cases hc : ((s[j + 1].toNat : Int) == 120)
    · have hc' : ((s[j + 1].toNat : Int) != 120) = true := by simp [bne, hc]
      go_enter Try.func26, Try.ntmps26
      go_wp2
      all_goals go_ret3
      all_goals refine ⟨?_, rfl⟩
      all_goals first | (simp [refV, escC, *]; done) | (rename_i hg; simp only [beq_iff_eq] at hg; simp [refV, escC, *]; (repeat' split) <;> first | (simp; done) | omega)
    · rw [escC_x _ _ _ hc]
      exact rone_x s j w hs hlt hc
  · go_enter Try.func26, Try.ntmps26
    go_wp2
    go_ret3
    exact ⟨refV_of (escM_end hlt) rfl rfl rfl, rfl⟩
end Go.Proofs.Ytkbbgnmhfkilgaa
