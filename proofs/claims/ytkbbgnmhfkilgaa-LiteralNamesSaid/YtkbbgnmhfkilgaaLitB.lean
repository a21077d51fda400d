/- Walks: the two hexadecimal digits of an escape; an escape; a character (package literal). -/
import Derived.Test.YtkbbgnmhfkilgaaLitA
namespace Go.Proofs.Ytkbbgnmhfkilgaa
set_option linter.all false
open Go.RowKit Go.Sort

def hx (s : ByteArray) (j : Nat) : Nat → Int
  | 0 => 0
  | 1 => digI (byI s j)
  | _ => 16 * digI (byI s j) + digI (byI s (j + 1))
/-- what a parser of one character answers: value, next place, error -/
def oneV (base : Int) (o : One) : Value := .tuple #[.int .u8 o.v, .int .i64 (if o.e = 0 then base + o.n else 0), .int .i64 o.e]
theorem oneV_of {o : One} {base v n e : Int} {o' : One} (h : o = o') (hv : v = o'.v) (hn : n = if o'.e = 0 then base + o'.n else 0) (he : e = o'.e) :
    Ending.returned (.tuple #[.int .u8 v, .int .i64 n, .int .i64 e]) = Ending.returned (oneV base o) := by
  subst h hv he
  rw [oneV, hn]
theorem or0 (d : Int) (h : 0 ≤ d) (h' : d < 16) : bits .or .u8 0 d = d := by
  obtain ⟨d, rfl⟩ := Int.eq_ofNat_of_zero_le h
  have : ∀ a : Fin 16, bits .or .u8 0 ((a.val : Nat) : Int) = ((a.val : Nat) : Int) := by decide +kernel
  exact this ⟨d, by omega⟩
theorem or16 (c d : Int) (h : 0 ≤ d) (h' : d < 16) (k : 0 ≤ c) (k' : c < 16) : bits .or .u8 (c * 16) d = 16 * c + d := by
  obtain ⟨d, rfl⟩ := Int.eq_ofNat_of_zero_le h
  obtain ⟨c, rfl⟩ := Int.eq_ofNat_of_zero_le k
  have : ∀ b a : Fin 16, bits .or .u8 (((b.val : Nat) : Int) * 16) ((a.val : Nat) : Int) = 16 * ((b.val : Nat) : Int) + ((a.val : Nat) : Int) := by decide +kernel
  exact this ⟨c, by omega⟩ ⟨d, by omega⟩

theorem hexM_1 {s : ByteArray} {j : Nat} (h : ¬ j < s.size) : hexM s j = ⟨0, 0, 8⟩ := by rw [hexM, if_pos (by omega)]
theorem hexM_2 {s : ByteArray} {j : Nat} (h : j < s.size) (k : digI (byI s j) < 0) : hexM s j = ⟨0, 0, 21⟩ := by rw [hexM, if_neg (by omega), if_pos k]
theorem hexM_3 {s : ByteArray} {j : Nat} (h : j < s.size) (k : 0 ≤ digI (byI s j)) (h' : ¬ j + 1 < s.size) : hexM s j = ⟨0, 0, 8⟩ := by rw [hexM, if_neg (by omega), if_neg (by omega), if_pos (by omega)]
theorem hexM_4 {s : ByteArray} {j : Nat} (h : j < s.size) (k : 0 ≤ digI (byI s j)) (h' : j + 1 < s.size) (k' : digI (byI s (j + 1)) < 0) : hexM s j = ⟨0, 0, 21⟩ := by rw [hexM, if_neg (by omega), if_neg (by omega), if_neg (by omega), if_pos k']
theorem hexM_5 {s : ByteArray} {j : Nat} (h : j < s.size) (k : 0 ≤ digI (byI s j)) (h' : j + 1 < s.size) (k' : 0 ≤ digI (byI s (j + 1))) : hexM s j = ⟨16 * digI (byI s j) + digI (byI s (j + 1)), 4, 0⟩ := by
  rw [hexM, if_neg (by omega), if_neg (by omega), if_neg (by omega), if_neg (by omega)]
set_option maxRecDepth 100000 in
set_option maxHeartbeats 400000 in
theorem byByte_any (s : ByteArray) (j : Int) (w : World) (hs : s.size ≤ 1000000000) (hj : 0 ≤ j) (hjs : j ≤ s.size) :
    Calls Try.prog 39 #[.string s, .int .i64 j] w fun e w' => e = .returned (oneV (j - 2) (hexM s j.toNat)) ∧ w = w' := by
  obtain ⟨j, rfl⟩ := Int.eq_ofNat_of_zero_le hj
  simp only [Int.toNat_natCast] at *
  have hjb : (j : Int) ≤ 1000000000 := by omega
  go_enter Try.func39, Try.ntmps39
  go_wp2
  go_loop [7, 8] (fun o i => ∃ k : Nat, k ≤ 2 ∧ i = .int .i64 ((j + k : Nat) : Int) ∧ o = .int .u8 (hx s j k) ∧ (1 ≤ k → j < s.size ∧ 0 ≤ digI (byI s j)) ∧ (2 ≤ k → j + 1 < s.size ∧ 0 ≤ digI (byI s (j + 1)))) (fun _ i => j + 2 - (intOf i).toNat)
  case atStart => exact ⟨0, by omega, by simp, rfl, by omega, by omega⟩
  case round =>
    obtain ⟨k, hk, rfl, rfl, h1, h2⟩ := hrel
    have hk' : k = 0 ∨ k = 1 ∨ k = 2 := by omega
    have d1 := digI_hi (byI s j)
    have d2 := digI_hi (byI s (j + 1))
    have b1 := byI_lo s j
    have b2 := byI_hi s j
    have c1 := byI_lo s (j + 1)
    have c2 := byI_hi s (j + 1)
    rcases hk' with rfl | rfl | rfl
    · clear h1 h2 hk
      by_cases hlt : j < s.size
      · have e0 := Lib.hid (byI_at s j hlt)
        by_cases hd : digI (byI s j) < 0
        · go_wp2_with (go_at_call 41; rw [e0.out]; refine (digit_no _ _ b1 b2 hd).mono ?_; rintro e w' ⟨rfl, rfl⟩)
          go_ret3
          exact ⟨oneV_of (hexM_2 hlt hd) rfl rfl rfl, rfl⟩
        · have hd' : 0 ≤ digI (byI s j) := by omega
          go_wp2_with (go_at_call 41; rw [e0.out]; refine (digit_yes _ _ b1 b2 hd').mono ?_; rintro e w' ⟨rfl, rfl⟩)
          go_round
          case rel => exact ⟨1, by omega, by go_num, by simp [hx, or0 _ hd' d1], fun _ => ⟨hlt, hd'⟩, by omega⟩
          case measure => first | (simp [intOf]; done) | (simp [intOf]; omega)
      · go_wp2
        go_ret3
        exact ⟨oneV_of (hexM_1 hlt) rfl rfl rfl, rfl⟩
    · obtain ⟨hlt0, hd0⟩ := h1 (by omega)
      clear h1 h2 hk
      have hnd : ¬ digI (byI s j) < 0 := by omega
      have hns : ¬ s.size ≤ j := by omega
      simp only [hx]
      by_cases hlt : j + 1 < s.size
      · have e0 := Lib.hid (byI_at s (j + 1) hlt)
        have hns1 : ¬ s.size ≤ j + 1 := by omega
        by_cases hd : digI (byI s (j + 1)) < 0
        · go_wp2_with (go_at_call 41; rw [e0.out]; refine (digit_no _ _ c1 c2 hd).mono ?_; rintro e w' ⟨rfl, rfl⟩)
          go_ret3
          exact ⟨oneV_of (hexM_4 hlt0 hd0 hlt hd) rfl rfl rfl, rfl⟩
        · have hd' : 0 ≤ digI (byI s (j + 1)) := by omega
          go_wp2_with (go_at_call 41; rw [e0.out]; refine (digit_yes _ _ c1 c2 hd').mono ?_; rintro e w' ⟨rfl, rfl⟩)
          go_round
          case rel => exact ⟨2, by omega, by go_num, by simp [hx]; exact or16 _ _ hd' d2 hd0 d1, fun _ => ⟨hlt0, hd0⟩, fun _ => ⟨hlt, hd'⟩⟩
          case measure => first | (simp [intOf]; done) | (simp [intOf]; omega)
      · go_wp2
        go_ret3
        exact ⟨oneV_of (hexM_3 hlt0 hd0 hlt) rfl rfl rfl, rfl⟩
    · obtain ⟨hlt0, hd0⟩ := h1 (by omega)
      obtain ⟨hlt1, hd1⟩ := h2 (by omega)
      clear h1 h2 hk
      have hnd : ¬ digI (byI s j) < 0 := by omega
      have hns : ¬ s.size ≤ j := by omega
      have hnd' : ¬ digI (byI s (j + 1)) < 0 := by omega
      have hns' : ¬ s.size ≤ j + 1 := by omega
      go_wp2
      go_ret3
      exact ⟨oneV_of (hexM_5 hlt0 hd0 hlt1 hd1) rfl (by simp; omega) rfl, rfl⟩
end Go.Proofs.Ytkbbgnmhfkilgaa
