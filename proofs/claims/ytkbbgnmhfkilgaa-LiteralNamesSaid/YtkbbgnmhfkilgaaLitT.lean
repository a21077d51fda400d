/- Walks: identifiers of package literal and of its reference. -/
import Derived.Test.YtkbbgnmhfkilgaaLitS
import Derived.Deep.RegionWith
import Derived.Deep.DeepCutAuto
import Derived.Deep.DeepMust
namespace Go.Proofs.Ytkbbgnmhfkilgaa
set_option linter.all false
open Go.RowKit Go.Sort

set_option maxRecDepth 100000 in
set_option maxHeartbeats 4000000 in
theorem letter_any (n : Int) (w : World) (h0 : 0 ≤ n) (h1 : n < 256) :
    Calls Try.prog 28 #[.int .u8 n] w fun e w' => e = .returned (.bool (letB n)) ∧ w = w' := by
  go_enter Try.func28, Try.ntmps28
  go_wp2
  all_goals go_ret
  all_goals exact ⟨ret_bool (by rw [Bool.eq_iff_iff]; first | (simp [letB]; done) | (simp [letB]; omega)), rfl⟩
set_option maxRecDepth 100000 in
set_option maxHeartbeats 4000000 in
theorem rletter_any (n : Int) (w : World) (h0 : 0 ≤ n) (h1 : n < 256) :
    Calls Try.prog 29 #[.int .u8 n] w fun e w' => e = .returned (.bool (letB n)) ∧ w = w' := by
  go_enter Try.func29, Try.ntmps29
  go_wp2
  all_goals go_ret
  all_goals exact ⟨ret_bool (by rw [Bool.eq_iff_iff]; first | (simp [letB]; done) | (simp [letB]; omega)), rfl⟩

def namV (r : Nam) : Value := .tuple #[.string r.t, .int .i64 r.n]
theorem namV_of {r : Nam} {t t' : ByteArray} {n n' : Int} (h : r = ⟨t', n'⟩) (ht : t = t') (hn : n = n') : Ending.returned (.tuple #[.string t, .int .i64 n]) = Ending.returned (namV r) := by
  subst h ht hn
  rfl
theorem nameM_lo {s : ByteArray} {a : Int} (h : a < 0) : nameM s a = ⟨⟨#[]⟩, 0⟩ := by rw [nameM, if_pos (.inl h)]
theorem nameM_hi {s : ByteArray} {a : Int} (h : (s.size : Int) ≤ a) : nameM s a = ⟨⟨#[]⟩, 0⟩ := by rw [nameM, if_pos (.inr h)]
theorem nameM_no {s : ByteArray} {a : Nat} (h : a < s.size) (k : letB (byI s a) = false) : nameM s a = ⟨⟨#[]⟩, 0⟩ := by rw [nameM, if_neg (by omega), Int.toNat_natCast, k, if_neg (by simp)]
theorem nameM_in {s : ByteArray} {a : Nat} (h : a < s.size) (k : letB (byI s a) = true) : nameM s a = ⟨s.extract a (nameEnd s a), nameEnd s a⟩ := by rw [nameM, if_neg (by omega), Int.toNat_natCast, k, if_pos rfl]
theorem dig_cases (n : Int) : 48 ≤ n ∧ n ≤ 57 ∧ digB n = true ∨ n < 48 ∧ digB n = false ∨ 48 ≤ n ∧ 57 < n ∧ digB n = false := by
  unfold digB
  simp
  omega

set_option maxRecDepth 100000 in
set_option maxHeartbeats 4000000 in
theorem name_any (s : ByteArray) (a : Int) (w : World) (hs : s.size ≤ 1000000000) :
    Calls Try.prog 16 #[.string s, .int .i64 a] w fun e w' => e = .returned (namV (nameM s a)) ∧ w = w' := by
  by_cases h0 : a < 0
  · have RES := Lib.hid (nameM_lo (s := s) h0)
    go_enter Try.func16, Try.ntmps16
    go_wp2_with fail
    go_ret2
    exact ⟨namV_of RES.out rfl rfl, rfl⟩
  obtain ⟨a, rfl⟩ := Int.eq_ofNat_of_zero_le (show 0 ≤ a by omega)
  clear h0
  by_cases ha : a < s.size
  · have hab : (a : Int) ≤ 1000000000 := by omega
    have ea := Lib.hid (byI_at s a ha)
    cases hq : letB (byI s a)
    · have RES := Lib.hid (nameM_no ha hq)
      have HL := Lib.hid (show letB ((s[a].toNat : Nat) : Int) = false by rw [ea.out]; exact hq)
      clear hq
      go_enter Try.func16, Try.ntmps16
      go_wp2_with (go_at_call 28; refine (letter_any _ _ (by omega) (by have := s[a].toNat_lt; omega)).mono ?_; rintro e w' ⟨rfl, rfl⟩; rw [HL.out])
      go_ret2
      exact ⟨namV_of RES.out rfl rfl, rfl⟩
    · have RES := Lib.hid (nameM_in ha hq)
      have HN := nameEnd_le s a ha
      have HL := Lib.hid (show letB ((s[a].toNat : Nat) : Int) = true by rw [ea.out]; exact hq)
      have HQ := Lib.hid hq
      clear hq
      have hd1 : decide (s.size ≤ a) = false := decide_eq_false (by omega)
      have hd2 : decide ((a : Int) < 0) = false := decide_eq_false (by omega)
      go_enter Try.func16, Try.ntmps16
      go_wp2_with (go_at_call 28; refine (letter_any _ _ (by omega) (by have := s[a].toNat_lt; omega)).mono ?_; rintro e w' ⟨rfl, rfl⟩; rw [HL.out])
      go_loop [6] (fun i => ∃ k f : Nat, k ≤ s.size ∧ a ≤ k ∧ s.size ≤ k + f ∧ i = .int .i64 (k : Int) ∧ runGo s f k = nameEnd s a) (fun i => s.size - (intOf i).toNat)
      case atStart => exact ⟨a + 1, s.size, by omega, by omega, by omega, by go_num, rfl⟩
      case round =>
        obtain ⟨k, f, hk, hak, hf, rfl, hr⟩ := hrel
        have HR := Lib.hid hr
        clear hr
        by_cases hlt : k < s.size
        · obtain ⟨f, rfl⟩ : ∃ g, f = g + 1 := ⟨f - 1, by omega⟩
          have hkb : (k : Int) ≤ 1000000000 := by omega
          have ek := Lib.hid (byI_at s k hlt)
          have hkn := s[k].toNat_lt
          cases hl : letB (byI s k)
          · have HLk := Lib.hid (show letB ((s[k].toNat : Nat) : Int) = false by rw [ek.out]; exact hl)
            rcases dig_cases (byI s k) with ⟨d1, d2, d3⟩ | ⟨d1, d3⟩ | ⟨d1, d2, d3⟩
            · have HC := Lib.hid (HR.out.symm.trans (runGo_go s f k hlt (by rw [contB, hl, d3]; rfl)))
              rw [← ek.out] at d1 d2
              clear hl d3
              go_wp2_with (go_at_call 28; refine (letter_any _ _ (by omega) (by omega)).mono ?_; rintro e w' ⟨rfl, rfl⟩; rw [HLk.out])
              go_round
              case rel => exact ⟨k + 1, f, by omega, by omega, by omega, by go_num, HC.out.symm⟩
              case measure => simp [intOf]; omega
            all_goals
              have HC := Lib.hid (HR.out.symm.trans (runGo_stop s f k hlt (by rw [contB, hl, d3]; rfl)))
              rw [← ek.out] at d1
              try rw [← ek.out] at d2
              clear hl d3
              go_wp2_with (go_at_call 28; refine (letter_any _ _ (by omega) (by omega)).mono ?_; rintro e w' ⟨rfl, rfl⟩; rw [HLk.out])
              go_ret2
              exact ⟨namV_of RES.out (by rw [HC.out]) (by rw [HC.out]), rfl⟩
          · have HLk := Lib.hid (show letB ((s[k].toNat : Nat) : Int) = true by rw [ek.out]; exact hl)
            have HC := Lib.hid (HR.out.symm.trans (runGo_go s f k hlt (by rw [contB, hl]; rfl)))
            clear hl
            go_wp2_with (go_at_call 28; refine (letter_any _ _ (by omega) (by omega)).mono ?_; rintro e w' ⟨rfl, rfl⟩; rw [HLk.out])
            go_round
            case rel => exact ⟨k + 1, f, by omega, by omega, by omega, by go_num, HC.out.symm⟩
            case measure => simp [intOf]; omega
        · have HC := Lib.hid (HR.out.symm.trans (runGo_end s f k hlt))
          go_wp2_with fail
          go_ret2
          exact ⟨namV_of RES.out (by rw [HC.out]) (by rw [HC.out]), rfl⟩
  · have RES := Lib.hid (nameM_hi (s := s) (a := (a : Int)) (by omega))
    go_enter Try.func16, Try.ntmps16
    go_wp2_with fail
    go_ret2
    exact ⟨namV_of RES.out rfl rfl, rfl⟩

set_option maxRecDepth 100000 in
set_option maxHeartbeats 4000000 in
theorem rname_any (s : ByteArray) (a : Int) (w : World) (hs : s.size ≤ 1000000000) :
    Calls Try.prog 17 #[.string s, .int .i64 a] w fun e w' => e = .returned (namV (nameM s a)) ∧ w = w' := by
  by_cases h0 : a < 0
  · have RES := Lib.hid (nameM_lo (s := s) h0)
    go_enter Try.func17, Try.ntmps17
    go_wp2_with fail
    go_ret2
    exact ⟨namV_of RES.out rfl rfl, rfl⟩
  obtain ⟨a, rfl⟩ := Int.eq_ofNat_of_zero_le (show 0 ≤ a by omega)
  clear h0
  by_cases ha : a < s.size
  · have hab : (a : Int) ≤ 1000000000 := by omega
    have ea := Lib.hid (byI_at s a ha)
    cases hq : letB (byI s a)
    · have RES := Lib.hid (nameM_no ha hq)
      have HL := Lib.hid (show letB ((s[a].toNat : Nat) : Int) = false by rw [ea.out]; exact hq)
      clear hq
      go_enter Try.func17, Try.ntmps17
      go_wp2_with (go_at_call 29; refine (rletter_any _ _ (by omega) (by have := s[a].toNat_lt; omega)).mono ?_; rintro e w' ⟨rfl, rfl⟩; rw [HL.out])
      go_ret2
      exact ⟨namV_of RES.out rfl rfl, rfl⟩
    · have RES := Lib.hid (nameM_in ha hq)
      have HN := nameEnd_le s a ha
      have HL := Lib.hid (show letB ((s[a].toNat : Nat) : Int) = true by rw [ea.out]; exact hq)
      have HQ := Lib.hid hq
      clear hq
      have hd1 : decide (s.size ≤ a) = false := decide_eq_false (by omega)
      have hd2 : decide ((a : Int) < 0) = false := decide_eq_false (by omega)
      go_enter Try.func17, Try.ntmps17
      go_wp2_with (go_at_call 29; refine (rletter_any _ _ (by omega) (by have := s[a].toNat_lt; omega)).mono ?_; rintro e w' ⟨rfl, rfl⟩; rw [HL.out])
      go_loop [6] (fun i => ∃ k f : Nat, k ≤ s.size ∧ a ≤ k ∧ s.size ≤ k + f ∧ i = .int .i64 (k : Int) ∧ runGo s f k = nameEnd s a) (fun i => s.size - (intOf i).toNat)
      case atStart => exact ⟨a, s.size + 1, by omega, by omega, by omega, rfl, by rw [runGo_go s s.size a ha (by rw [contB, HQ.out]; rfl)]; rfl⟩
      case round =>
        obtain ⟨k, f, hk, hak, hf, rfl, hr⟩ := hrel
        have HR := Lib.hid hr
        clear hr
        by_cases hlt : k < s.size
        · obtain ⟨f, rfl⟩ : ∃ g, f = g + 1 := ⟨f - 1, by omega⟩
          have hkb : (k : Int) ≤ 1000000000 := by omega
          have ek := Lib.hid (byI_at s k hlt)
          have hkn := s[k].toNat_lt
          cases hl : letB (byI s k)
          · have HLk := Lib.hid (show letB ((s[k].toNat : Nat) : Int) = false by rw [ek.out]; exact hl)
            rcases dig_cases (byI s k) with ⟨d1, d2, d3⟩ | ⟨d1, d3⟩ | ⟨d1, d2, d3⟩
            · have HC := Lib.hid (HR.out.symm.trans (runGo_go s f k hlt (by rw [contB, hl, d3]; rfl)))
              rw [← ek.out] at d1 d2
              clear hl d3
              go_wp2_with (go_at_call 29; refine (rletter_any _ _ (by omega) (by omega)).mono ?_; rintro e w' ⟨rfl, rfl⟩; rw [HLk.out])
              go_round
              case rel => exact ⟨k + 1, f, by omega, by omega, by omega, by go_num, HC.out.symm⟩
              case measure => simp [intOf]; omega
            all_goals
              have HC := Lib.hid (HR.out.symm.trans (runGo_stop s f k hlt (by rw [contB, hl, d3]; rfl)))
              rw [← ek.out] at d1
              try rw [← ek.out] at d2
              clear hl d3
              go_wp2_with (go_at_call 29; refine (rletter_any _ _ (by omega) (by omega)).mono ?_; rintro e w' ⟨rfl, rfl⟩; rw [HLk.out])
              go_ret2
              exact ⟨namV_of RES.out (by rw [HC.out]) (by rw [HC.out]), rfl⟩
          · have HLk := Lib.hid (show letB ((s[k].toNat : Nat) : Int) = true by rw [ek.out]; exact hl)
            have HC := Lib.hid (HR.out.symm.trans (runGo_go s f k hlt (by rw [contB, hl]; rfl)))
            clear hl
            go_wp2_with (go_at_call 29; refine (rletter_any _ _ (by omega) (by omega)).mono ?_; rintro e w' ⟨rfl, rfl⟩; rw [HLk.out])
            go_round
            case rel => exact ⟨k + 1, f, by omega, by omega, by omega, by go_num, HC.out.symm⟩
            case measure => simp [intOf]; omega
        · have HC := Lib.hid (HR.out.symm.trans (runGo_end s f k hlt))
          go_wp2_with fail
          go_ret2
          exact ⟨namV_of RES.out (by rw [HC.out]) (by rw [HC.out]), rfl⟩
  · have RES := Lib.hid (nameM_hi (s := s) (a := (a : Int)) (by omega))
    go_enter Try.func17, Try.ntmps17
    go_wp2_with fail
    go_ret2
    exact ⟨namV_of RES.out rfl rfl, rfl⟩
end Go.Proofs.Ytkbbgnmhfkilgaa
