/- Walks: Count and worth of the reference of package num; Index of the reference of package key. -/
import Derived.Test.YtcmpgohpncnagaaKeyA
namespace Go.Proofs.Ytcmpgohpncnagaa
set_option linter.all false
open Go.RowKit Go.Sort

set_option maxRecDepth 100000 in
set_option maxHeartbeats 4000000 in
theorem worth_yes (n : Int) (w : World) (d1 : 48 ≤ n) (d2 : n ≤ 57) :
    Calls Try.prog 86 #[.int .u8 n, .int .i64 10] w fun e w' => e = .returned (.int .i64 (n - 48)) ∧ w = w' := by
  go_enter Try.func86, Try.ntmps86
  go_wp2_with fail
  all_goals first | (exfalso; omega) | (go_ret; exact ⟨rfl, rfl⟩)
set_option maxRecDepth 100000 in
set_option maxHeartbeats 4000000 in
theorem worth_no (n : Int) (w : World) (h0 : 0 ≤ n) (h1 : n < 256) (hd : digB n = false) :
    Calls Try.prog 86 #[.int .u8 n, .int .i64 10] w fun e w' => e = .returned (.int .i64 (-1)) ∧ w = w' := by
  have hd' : n < 48 ∨ 57 < n := by
    unfold digB at hd
    simp at hd
    omega
  clear hd
  rcases hd' with d1 | d1
  all_goals
    go_enter Try.func86, Try.ntmps86
    go_wp2_with fail
    all_goals first | (exfalso; omega) | (go_ret; exact ⟨rfl, rfl⟩)

/-- what Count answers at a short string -/
def countM (l : List UInt8) : Idx := if allDig l then ⟨valL l, true⟩ else ⟨0, false⟩
set_option maxRecDepth 100000 in
set_option maxHeartbeats 4000000 in
theorem count_any (s : ByteArray) (w : World) (hs : s.size ≤ 10) (hne : s.toList.isEmpty = false) :
    Calls Try.prog 82 #[.string s, .int .i64 10] w fun e w' => e = .returned (idxV (countM s.data.toList)) ∧ w = w' := by
  have hsI : (s.size : Int) ≤ 10 := by omega
  go_enter Try.func82, Try.ntmps82
  go_wp2_with fail
  go_loop [6, 7, 8] (fun n c d => ∃ k : Nat, k ≤ s.size ∧ c = .int .i64 (k : Int) ∧ n = .int .i64 (valL (s.data.toList.take k)) ∧ allDig (s.data.toList.take k) = true) (fun _ c _ => s.size - (intOf c).toNat)
  case atStart => exact ⟨0, Nat.zero_le _, rfl, rfl, rfl⟩
  case round =>
    obtain ⟨k, hk, rfl, rfl, had⟩ := hrel
    have hbd := valL_bd10 (s.data.toList.take k) (by simp; omega) had
    have HAD := Lib.hid had
    clear had
    have TS := Lib.hid (take_snoc s k)
    have TA := Lib.hid (take_all s)
    obtain ⟨v, hv⟩ : ∃ v, valL (s.data.toList.take k) = v := ⟨_, rfl⟩
    rw [hv] at hbd
    have HV := Lib.hid hv
    simp only [hv]
    clear hv
    obtain ⟨v0, v1⟩ := hbd
    by_cases hlt : k < s.size
    · have hkb : (k : Int) ≤ 10 := by omega
      have hkn := s[k].toNat_lt
      cases hd : digB ((s[k].toNat : Nat) : Int)
      · have RES := Lib.hid (show countM s.data.toList = ⟨0, false⟩ by rw [countM, allDig_no s k hlt hd, if_neg (by simp)])
        have HW := Lib.hid (worth_no (s[k].toNat : Int) w (by omega) (by omega) hd)
        clear hd
        go_wp2_with (go_at_call 86; refine HW.out.mono ?_; rintro e w' ⟨rfl, rfl⟩)
        go_ret2
        exact ⟨idxV_of RES.out rfl rfl, rfl⟩
      · obtain ⟨d1, d2⟩ := (digB_iff _).1 hd
        have HD := Lib.hid hd
        have HW := Lib.hid (worth_yes (s[k].toNat : Int) w d1 d2)
        clear hd
        have NEW := Lib.hid (show valL (s.data.toList.take (k + 1)) = v * 10 + ((s[k].toNat : Int) - 48) ∧ allDig (s.data.toList.take (k + 1)) = true from
          ⟨by rw [TS.out hlt, valL_snoc, HV.out]; omega, by rw [TS.out hlt, allDig_snoc, HAD.out, HD.out]; rfl⟩)
        have hbd2 := valL_bd10 (s.data.toList.take (k + 1)) (by simp; omega) NEW.out.2
        rw [NEW.out.1] at hbd2
        obtain ⟨u0, u1⟩ := hbd2
        have ht : decide (9007199254740992 < v * 10 + ((s[k].toNat : Int) - 48)) = false := decide_eq_false (by omega)
        go_wp2_with (go_at_call 86; refine HW.out.mono ?_; rintro e w' ⟨rfl, rfl⟩)
        go_round
        case rel => exact ⟨k + 1, by omega, by go_num, by rw [NEW.out.1], NEW.out.2⟩
        case measure => simp [intOf]; omega
    · obtain rfl : k = s.size := by omega
      have ha := HAD.out
      have hv := HV.out
      rw [TA.out] at ha hv
      have RES := Lib.hid (show countM s.data.toList = ⟨v, true⟩ by rw [countM, ha, if_pos rfl, hv])
      clear ha hv
      go_wp2_with fail
      go_ret2
      exact ⟨idxV_of RES.out rfl rfl, rfl⟩

set_option maxRecDepth 100000 in
set_option maxHeartbeats 4000000 in
theorem rindex_in (s : ByteArray) (w : World) (hs : s.size ≤ 10) (hb : badL s.data.toList = false) (hne : s.toList.isEmpty = false) (hpos : 0 < s.size) (hg : ((s[0].toNat : Int) == 48) = false ∨ ((s[0].toNat : Int) == 48) = true ∧ ¬ 1 < s.size) :
    Calls Try.prog 70 #[.string s] w fun e w' => e = .returned (idxV (indexM s.data.toList)) ∧ w = w' := by
  have hsI : (s.size : Int) ≤ 10 := by omega
  have hs10 : decide (10 < s.size) = false := decide_eq_false (by omega)
  have hc := count_any s w hs hne
  cases ha : allDig s.data.toList
  · have RES := Lib.hid (indexM_no hb ha)
    rw [show countM s.data.toList = ⟨0, false⟩ by rw [countM, ha, if_neg (by simp)]] at hc
    have HC := Lib.hid hc
    clear hc hb ha
    unfold idxV at HC
    rcases hg with hg | ⟨hg, hg1⟩
    all_goals
      go_enter Try.func70, Try.ntmps70
      go_wp2_with (go_at_call 82; refine HC.out.mono ?_; rintro e w' ⟨rfl, rfl⟩)
      go_ret2
      exact ⟨idxV_of RES.out rfl rfl, rfl⟩
  · rw [show countM s.data.toList = ⟨valL s.data.toList, true⟩ by rw [countM, ha, if_pos rfl]] at hc
    have hbd := valL_bd10 s.data.toList (by simpa using hs) ha
    have IH := Lib.hid (fun h => indexM_hi (l := s.data.toList) hb ha h)
    have II := Lib.hid (fun h => indexM_in (l := s.data.toList) hb ha h)
    generalize valL s.data.toList = v at *
    have HC := Lib.hid hc
    clear hc hb ha
    unfold idxV at HC
    by_cases hgt : 4294967294 < v
    · have RES := Lib.hid (IH.out hgt)
      have ht : decide (4294967294 < v) = true := decide_eq_true hgt
      clear hgt
      rcases hg with hg | ⟨hg, hg1⟩
      all_goals
        go_enter Try.func70, Try.ntmps70
        go_wp2_with (go_at_call 82; refine HC.out.mono ?_; rintro e w' ⟨rfl, rfl⟩)
        go_ret2
        exact ⟨idxV_of RES.out rfl rfl, rfl⟩
    · have RES := Lib.hid (II.out hgt)
      have ht : decide (4294967294 < v) = false := decide_eq_false hgt
      clear hgt
      rcases hg with hg | ⟨hg, hg1⟩
      all_goals
        go_enter Try.func70, Try.ntmps70
        go_wp2_with (go_at_call 82; refine HC.out.mono ?_; rintro e w' ⟨rfl, rfl⟩)
        go_ret2
        exact ⟨idxV_of RES.out rfl rfl, rfl⟩

set_option maxRecDepth 100000 in
set_option maxHeartbeats 4000000 in
theorem rindex_any (s : ByteArray) (w : World) (hs : s.size ≤ maxLen) :
    Calls Try.prog 70 #[.string s] w fun e w' => e = .returned (idxV (indexM s.data.toList)) ∧ w = w' := by
  rcases bad_cases s with ⟨rfl, hb⟩ | ⟨hne, h10, hb⟩ | ⟨hne, h10, hp, hz, h1, hb⟩ | ⟨hne, h10, hb, hp, hg⟩
  · have RES := Lib.hid (indexM_bad hb)
    clear hb
    go_enter Try.func70, Try.ntmps70
    go_wp2_with fail
    go_ret2
    exact ⟨idxV_of RES.out rfl rfl, rfl⟩
  · have RES := Lib.hid (indexM_bad hb)
    clear hb
    unfold maxLen at hs
    go_enter Try.func70, Try.ntmps70
    go_wp2_with fail
    go_ret2
    exact ⟨idxV_of RES.out rfl rfl, rfl⟩
  · have RES := Lib.hid (indexM_bad hb)
    clear hb hs
    have hsI : (s.size : Int) ≤ 10 := by omega
    go_enter Try.func70, Try.ntmps70
    go_wp2_with fail
    go_ret2
    exact ⟨idxV_of RES.out rfl rfl, rfl⟩
  · exact rindex_in s w h10 hb hne hp hg
end Go.Proofs.Ytcmpgohpncnagaa
