/- Walks: Index of package key and of its reference; Count and worth of the reference of package num. -/
import Derived.Test.YtcmpgohpncnagaaKeyDef
import Derived.Deep.RegionWith
import Derived.Deep.DeepCutAuto
import Derived.Deep.DeepMust
namespace Go.Proofs.Ytcmpgohpncnagaa
set_option linter.all false
open Go.RowKit Go.Sort

theorem take_snoc (s : ByteArray) (k : Nat) (h : k < s.size) : s.data.toList.take (k + 1) = s.data.toList.take k ++ [s[k]] := by
  rw [List.take_succ_eq_append_getElem (by simpa using h)]; rfl
theorem take_all (s : ByteArray) : s.data.toList.take s.size = s.data.toList := List.take_of_length_le (by simp)
theorem allDig_take (l : List UInt8) (k : Nat) (h : allDig l = true) : allDig (l.take k) = true := by
  unfold allDig at *
  rw [List.all_eq_true] at *
  exact fun x hx => h x (List.mem_of_mem_take hx)
def idxV (r : Idx) : Value := .tuple #[.int .i64 r.n, .bool r.ok]
theorem idxV_of {r r' : Idx} {n : Int} {b : Bool} (h : r = r') (hn : n = r'.n) (hb : b = r'.ok) : Ending.returned (.tuple #[.int .i64 n, .bool b]) = Ending.returned (idxV r) := by
  subst h hn hb
  rfl
theorem head_at (s : ByteArray) (h : 0 < s.size) : s.data.toList.head? = some s[0] := by
  have h' : 0 < s.data.toList.length := by simpa using h
  rw [List.head?_eq_getElem?, List.getElem?_eq_getElem h']
  rfl
theorem u8_eq (c d : UInt8) : ((c.toNat : Int) == (d.toNat : Int)) = (c == d) := by
  rw [Bool.eq_iff_iff, beq_iff_eq, beq_iff_eq, ← UInt8.toNat_inj]
  omega
theorem ba_ext {a b : ByteArray} (h : a.data.toList = b.data.toList) : a = b := by
  obtain ⟨⟨x⟩⟩ := a
  obtain ⟨⟨y⟩⟩ := b
  simp at h
  rw [h]
/-- the first test: four cases -/
theorem bad_cases (s : ByteArray) : (s = ⟨#[]⟩ ∧ badL s.data.toList = true) ∨ (s.toList.isEmpty = false ∧ 10 < s.size ∧ badL s.data.toList = true) ∨
    (s.toList.isEmpty = false ∧ s.size ≤ 10 ∧ ∃ h : 0 < s.size, ((s[0].toNat : Int) == 48) = true ∧ 1 < s.size ∧ badL s.data.toList = true) ∨
    (s.toList.isEmpty = false ∧ s.size ≤ 10 ∧ badL s.data.toList = false ∧ ∃ h : 0 < s.size, ((s[0].toNat : Int) == 48) = false ∨ ((s[0].toNat : Int) == 48) = true ∧ ¬ 1 < s.size) := by
  have hl : s.data.toList.length = s.size := by simp
  by_cases h0 : s.size = 0
  · have e : s.data.toList = [] := List.eq_nil_of_length_eq_zero (by rw [hl]; exact h0)
    exact .inl ⟨ba_ext (by rw [e]), by rw [e]; rfl⟩
  have hpos : 0 < s.size := by omega
  have hne : s.toList.isEmpty = false := by
    rw [ByteArray.toList_eq]
    cases e : s.data.toList
    · rw [e] at hl; simp at hl; omega
    · rfl
  have hne' : s.data.toList.isEmpty = false := by rw [← ByteArray.toList_eq]; exact hne
  by_cases h10 : 10 < s.size
  · exact .inr (.inl ⟨hne, h10, by rw [badL, hl, decide_eq_true h10]; simp⟩)
  have hd : (s.data.toList.head? == some 48) = ((s[0].toNat : Int) == 48) := by
    rw [head_at s hpos]
    have := u8_eq s[0] 48
    rw [show (((48 : UInt8).toNat : Nat) : Int) = 48 from rfl] at this
    rw [this]
    rfl
  have hb : badL s.data.toList = (((s[0].toNat : Int) == 48) && decide (1 < s.size)) := by rw [badL, hl, hd, hne', decide_eq_false h10]; simp
  by_cases h1 : 1 < s.size
  · cases e : ((s[0].toNat : Int) == 48)
    · exact .inr (.inr (.inr ⟨hne, by omega, by rw [hb, e]; rfl, hpos, .inl e⟩))
    · exact .inr (.inr (.inl ⟨hne, by omega, hpos, e, h1, by rw [hb, e, decide_eq_true h1]; rfl⟩))
  · refine .inr (.inr (.inr ⟨hne, by omega, by rw [hb, decide_eq_false h1]; simp, hpos, ?_⟩))
    cases e : ((s[0].toNat : Int) == 48)
    · exact .inl rfl
    · exact .inr ⟨rfl, h1⟩
theorem indexM_bad {l : List UInt8} (h : badL l = true) : indexM l = ⟨0, false⟩ := by rw [indexM, h, if_pos rfl]
theorem indexM_no {l : List UInt8} (h : badL l = false) (k : allDig l = false) : indexM l = ⟨0, false⟩ := by rw [indexM, h, k, if_neg (by simp), if_neg (by simp)]
theorem indexM_hi {l : List UInt8} (h : badL l = false) (k : allDig l = true) (j : 4294967294 < valL l) : indexM l = ⟨0, false⟩ := by rw [indexM, h, k, if_neg (by simp), if_pos rfl, if_pos j]
theorem indexM_in {l : List UInt8} (h : badL l = false) (k : allDig l = true) (j : ¬ 4294967294 < valL l) : indexM l = ⟨valL l, true⟩ := by rw [indexM, h, k, if_neg (by simp), if_pos rfl, if_neg j]
theorem allDig_no (s : ByteArray) (k : Nat) (h : k < s.size) (hd : digB ((s[k].toNat : Nat) : Int) = false) : allDig s.data.toList = false := by
  cases e : allDig s.data.toList
  · rfl
  · unfold allDig at e
    have h' : k < s.data.toList.length := by simpa using h
    have := List.all_eq_true.1 e (s.data.toList[k]) (List.getElem_mem h')
    have e2 : s.data.toList[k] = s[k] := rfl
    rw [e2, hd] at this
    cases this

set_option maxRecDepth 100000 in
set_option maxHeartbeats 4000000 in
theorem index_in (s : ByteArray) (w : World) (hs : s.size ≤ 10) (hb : badL s.data.toList = false) (hne : s.toList.isEmpty = false) (hpos : 0 < s.size) (hg : ((s[0].toNat : Int) == 48) = false ∨ ((s[0].toNat : Int) == 48) = true ∧ ¬ 1 < s.size) :
    Calls Try.prog 63 #[.string s] w fun e w' => e = .returned (idxV (indexM s.data.toList)) ∧ w = w' := by
  have HB := Lib.hid hb
  clear hb
  have hsI : (s.size : Int) ≤ 10 := by omega
  have hs10 : decide (10 < s.size) = false := decide_eq_false (by omega)
  rcases hg with hg | ⟨hg, hg1⟩
  all_goals
    go_enter Try.func63, Try.ntmps63
    go_wp2_with fail
    go_loop [4, 25] (fun n c => ∃ k : Nat, k ≤ s.size ∧ c = .int .i64 (k : Int) ∧ n = .int .i64 (valL (s.data.toList.take k)) ∧ allDig (s.data.toList.take k) = true) (fun _ c => s.size - (intOf c).toNat)
    case atStart => exact ⟨0, Nat.zero_le _, rfl, rfl, rfl⟩
    case round =>
      obtain ⟨k, hk, rfl, rfl, had⟩ := hrel
      have hbd := valL_bd10 (s.data.toList.take k) (by simp; omega) had
      have HAD := Lib.hid had
      clear had
      have TS := Lib.hid (take_snoc s k)
      have TA := Lib.hid (take_all s)
      obtain ⟨v, hv⟩ : ∃ v, valL (s.data.toList.take k) = v := ⟨_, rfl⟩
      rw [hv] at hbd
      have HV := Lib.hid hv
      simp only [hv]
      clear hv
      obtain ⟨v0, v1⟩ := hbd
      by_cases hlt : k < s.size
      · have hkb : (k : Int) ≤ 10 := by omega
        have hkn := s[k].toNat_lt
        cases hd : digB ((s[k].toNat : Nat) : Int)
        · have RES := Lib.hid (indexM_no HB.out (allDig_no s k hlt hd))
          have hd' : (s[k].toNat : Int) < 48 ∨ 48 ≤ (s[k].toNat : Int) ∧ 57 < (s[k].toNat : Int) := by
            unfold digB at hd
            simp at hd
            omega
          clear hd
          rcases hd' with d1 | ⟨d1, d2⟩
          all_goals
            go_wp2_with fail
            go_ret2
            exact ⟨idxV_of RES.out rfl rfl, rfl⟩
        · have hd' := (digB_iff _).1 hd
          obtain ⟨d1, d2⟩ := hd'
          have HD := Lib.hid hd
          clear hd
          go_wp2_with fail
          go_round
          case rel => exact ⟨k + 1, by omega, by go_num, by rw [TS.out hlt, valL_snoc, HV.out], by rw [TS.out hlt, allDig_snoc, HAD.out, HD.out]; rfl⟩
          case measure => simp [intOf]; omega
      · obtain rfl : k = s.size := by omega
        have ha := HAD.out
        have hv := HV.out
        rw [TA.out] at ha hv
        by_cases hgt : 4294967294 < v
        · have RES := Lib.hid (indexM_hi HB.out ha (by rw [hv]; exact hgt))
          clear ha hv
          have ht : decide (4294967294 < v) = true := decide_eq_true hgt
          clear hgt
          go_wp2_with fail
          go_ret2
          exact ⟨idxV_of RES.out rfl rfl, rfl⟩
        · have RES := Lib.hid (indexM_in HB.out ha (by rw [hv]; exact hgt))
          rw [hv] at RES
          clear ha hv
          have ht : decide (4294967294 < v) = false := decide_eq_false hgt
          clear hgt
          go_wp2_with fail
          go_ret2
          exact ⟨idxV_of RES.out rfl rfl, rfl⟩

set_option maxRecDepth 100000 in
set_option maxHeartbeats 4000000 in
theorem index_any (s : ByteArray) (w : World) (hs : s.size ≤ maxLen) :
    Calls Try.prog 63 #[.string s] w fun e w' => e = .returned (idxV (indexM s.data.toList)) ∧ w = w' := by
  rcases bad_cases s with ⟨rfl, hb⟩ | ⟨hne, h10, hb⟩ | ⟨hne, h10, hp, hz, h1, hb⟩ | ⟨hne, h10, hb, hp, hg⟩
  · have RES := Lib.hid (indexM_bad hb)
    clear hb
    go_enter Try.func63, Try.ntmps63
    go_wp2_with fail
    go_ret2
    exact ⟨idxV_of RES.out rfl rfl, rfl⟩
  · have RES := Lib.hid (indexM_bad hb)
    clear hb
    unfold maxLen at hs
    go_enter Try.func63, Try.ntmps63
    go_wp2_with fail
    go_ret2
    exact ⟨idxV_of RES.out rfl rfl, rfl⟩
  · have RES := Lib.hid (indexM_bad hb)
    clear hb hs
    have hsI : (s.size : Int) ≤ 10 := by omega
    go_enter Try.func63, Try.ntmps63
    go_wp2_with fail
    go_ret2
    exact ⟨idxV_of RES.out rfl rfl, rfl⟩
  · exact index_in s w h10 hb hne hp hg
end Go.Proofs.Ytcmpgohpncnagaa
