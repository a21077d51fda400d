/- Walks: words of package literal and of its reference. -/
import Derived.Test.YtkbbgnmhfkilgaaLitT
import Derived.Test.YtkbbgnmhfkilgaaShelf
namespace Go.Proofs.Ytkbbgnmhfkilgaa
set_option linter.all false
open Go.RowKit Go.Sort

def alwL : List UInt8 := [98, 114, 101, 97, 107, 32, 99, 97, 115, 101, 32, 99, 97, 116, 99, 104, 32, 99, 108, 97, 115, 115, 32, 99, 111, 110, 115, 116, 32, 99, 111, 110, 116, 105, 110, 117, 101, 32, 100, 101, 98, 117, 103, 103, 101, 114, 32, 100, 101, 102, 97, 117, 108, 116, 32, 100, 101, 108, 101, 116, 101, 32, 100, 111, 32, 101, 108, 115, 101, 32, 101, 110, 117, 109, 32, 101, 120, 112, 111, 114, 116, 32, 101, 120, 116, 101, 110, 100, 115, 32, 102, 97, 108, 115, 101, 32, 102, 105, 110, 97, 108, 108, 121, 32, 102, 111, 114, 32, 102, 117, 110, 99, 116, 105, 111, 110, 32, 105, 102, 32, 105, 109, 112, 111, 114, 116, 32, 105, 110, 32, 105, 110, 115, 116, 97, 110, 99, 101, 111, 102, 32, 110, 101, 119, 32, 110, 117, 108, 108, 32, 114, 101, 116, 117, 114, 110, 32, 115, 117, 112, 101, 114, 32, 115, 119, 105, 116, 99, 104, 32, 116, 104, 105, 115, 32, 116, 104, 114, 111, 119, 32, 116, 114, 117, 101, 32, 116, 114, 121, 32, 116, 121, 112, 101, 111, 102, 32, 118, 97, 114, 32, 118, 111, 105, 100, 32, 119, 104, 105, 108, 101, 32, 119, 105, 116, 104]
def stcL : List UInt8 := [105, 109, 112, 108, 101, 109, 101, 110, 116, 115, 32, 105, 110, 116, 101, 114, 102, 97, 99, 101, 32, 108, 101, 116, 32, 112, 97, 99, 107, 97, 103, 101, 32, 112, 114, 105, 118, 97, 116, 101, 32, 112, 114, 111, 116, 101, 99, 116, 101, 100, 32, 112, 117, 98, 108, 105, 99, 32, 115, 116, 97, 116, 105, 99, 32, 121, 105, 101, 108, 100]
def idL (l : List UInt8) : Bool := l != [] && isIdL l
theorem alw_id : ∀ x ∈ sp alwL, isIdL x = true := by decide +kernel
theorem stc_id : ∀ x ∈ sp stcL, isIdL x = true := by decide +kernel
theorem cont_ns (c : UInt8) (h : contB (c.toNat : Int) = true) : c ≠ 32 := by
  rintro rfl
  revert h
  decide
theorem id_ns : ∀ (l : List UInt8), isIdL l = true → 32 ∉ l
  | [], h => by simp
  | c :: r, h => by
    unfold isIdL at h
    rw [Bool.and_eq_true] at h
    simp only [List.mem_cons, not_or]
    refine ⟨fun e => ?_, fun e => ?_⟩
    · have h1 := h.1
      rw [← e] at h1
      revert h1
      decide
    · have := List.all_eq_true.1 h.2 32 e
      exact absurd rfl (cont_ns 32 this)
/-- what Word answers -/
def wordM (l : List UInt8) : Int := if l ∈ sp alwL then 1 else if l ∈ sp stcL then 2 else 0
theorem wordM_no {l : List UInt8} (h : isIdL l = false) : wordM l = 0 := by
  unfold wordM
  rw [if_neg (fun hm => by rw [alw_id l hm] at h; cases h), if_neg (fun hm => by rw [stc_id l hm] at h; cases h)]

def padS (s : ByteArray) : ByteArray := ⟨#[32]⟩ ++ s ++ ⟨#[32]⟩
theorem padS_list (s : ByteArray) : (padS s).data.toList = 32 :: s.data.toList ++ [32] := by
  unfold padS
  simp
theorem strL_list (l : List UInt8) : (strL l).data.toList = l := rfl
theorem toList_nil {t : ByteArray} (h : t.toList = []) : t = ⟨#[]⟩ := by
  rw [ByteArray.toList_eq] at h
  exact ba_ext (by rw [h])
theorem len_alwL : (strL (32 :: alwL ++ [32])).size < 4294967281 := by
  rw [strL_size]
  have : (32 :: alwL ++ [32]).length ≤ 1000 := by decide +kernel
  omega
theorem len_stcL : (strL (32 :: stcL ++ [32])).size < 4294967281 := by
  rw [strL_size]
  have : (32 :: stcL ++ [32]).length ≤ 1000 := by decide +kernel
  omega
theorem contains_alw (s : ByteArray) (m : Int) (w : World) (hs : 32 ∉ s.data.toList) (hm : w.cell? ⟨0, 0, none⟩ = some (.int .i64 m)) :
    Calls Try.prog 30 #[.string (strL (32 :: alwL ++ [32])), .string (padS s)] w fun e w' => e = .returned (.bool (decide (s.data.toList ∈ sp alwL))) ∧ w' = w := by
  have h := Try.strings_Contains (strL (32 :: alwL ++ [32])) (padS s) m w (len_alwL) hm
  rw [padS_list, strL_list, contains_word _ _ hs] at h
  exact h
theorem contains_stc (s : ByteArray) (m : Int) (w : World) (hs : 32 ∉ s.data.toList) (hm : w.cell? ⟨0, 0, none⟩ = some (.int .i64 m)) :
    Calls Try.prog 30 #[.string (strL (32 :: stcL ++ [32])), .string (padS s)] w fun e w' => e = .returned (.bool (decide (s.data.toList ∈ sp stcL))) ∧ w' = w := by
  have h := Try.strings_Contains (strL (32 :: stcL ++ [32])) (padS s) m w (len_stcL) hm
  rw [padS_list, strL_list, contains_word _ _ hs] at h
  exact h

set_option maxRecDepth 100000 in
set_option maxHeartbeats 4000000 in
theorem word_any (s : ByteArray) (m : Int) (w : World) (hs : s.size ≤ 1000000) (hm : w.cell? ⟨0, 0, none⟩ = some (.int .i64 m)) :
    Calls Try.prog 20 #[.string s] w fun e w' => e = .returned (.int .i64 (wordM s.data.toList)) ∧ w = w' := by
  have hn := name_any s 0 w (by omega)
  have hid := name_id s
  cases hi : isIdL s.data.toList
  · have HW := Lib.hid (wordM_no hi)
    have hno : ¬ ((nameM s 0).t = s ∧ s ≠ ⟨#[]⟩) := fun h => by rw [hid.1 h] at hi; cases hi
    unfold namV at hn
    generalize nameM s 0 = N at hn hno
    obtain ⟨t, n⟩ := N
    have HN := Lib.hid hn
    simp only at hno
    clear hid hi hn hm
    by_cases k : t = ⟨#[]⟩
    · subst k
      go_enter Try.func20, Try.ntmps20
      go_wp2_with (go_at_call 16; refine HN.out.mono ?_; rintro e w' ⟨rfl, rfl⟩)
      go_ret
      exact ⟨ret_int HW.out.symm, rfl⟩
    · have e1 : (t.toList == []) = false := by
        rw [beq_eq_false_iff_ne]
        intro e
        exact k (toList_nil e)
      have e2 : (t.toList == s.toList) = false := by
        rw [beq_eq_false_iff_ne]
        intro e
        have e' : t = s := ba_ext (by rw [← ByteArray.toList_eq, e, ByteArray.toList_eq])
        exact hno ⟨e', fun h => k (e'.trans h)⟩
      have e3 : (t.toList != s.toList) = true := by rw [bne, e2]; rfl
      clear hno k
      go_enter Try.func20, Try.ntmps20
      go_wp2_with (go_at_call 16; refine HN.out.mono ?_; rintro e w' ⟨rfl, rfl⟩)
      go_ret
      exact ⟨ret_int HW.out.symm, rfl⟩
  · have hns := id_ns _ hi
    obtain ⟨h1, h2⟩ := hid.2 hi
    unfold namV at hn
    generalize nameM s 0 = N at hn h1
    obtain ⟨t, n⟩ := N
    simp only at h1
    subst h1
    have HN := Lib.hid hn
    have e1 : (t.toList == []) = false := by
      rw [beq_eq_false_iff_ne]
      intro e
      exact h2 (toList_nil e)
    have q1 : ¬ 9223372036854775807 < 1 + t.size := by omega
    have q2 : ¬ 9223372036854775807 < 1 + t.size + 1 := by omega
    have a1 := contains_alw t m w hns hm
    have a2 := contains_stc t m w hns hm
    have hw : wordM t.data.toList = if t.data.toList ∈ sp alwL then 1 else if t.data.toList ∈ sp stcL then 2 else 0 := rfl
    clear hid hi hns h2 hm
    by_cases k1 : t.data.toList ∈ sp alwL
    · rw [decide_eq_true k1] at a1
      rw [if_pos k1] at hw
      have HW := Lib.hid hw
      have HA := Lib.hid a1
      clear k1 hw a1 a2 hn
      go_enter Try.func20, Try.ntmps20
      go_wp2_with (go_at_call 16; refine HN.out.mono ?_; rintro e w' ⟨rfl, rfl⟩)
      refine HA.out.mono ?_
      rintro e w' ⟨rfl, rfl⟩
      go_wp2_with fail
      go_ret
      exact ⟨ret_int HW.out.symm, rfl⟩
    · rw [decide_eq_false k1] at a1
      rw [if_neg k1] at hw
      by_cases k2 : t.data.toList ∈ sp stcL
      · rw [decide_eq_true k2] at a2
        rw [if_pos k2] at hw
        have HW := Lib.hid hw
        have HA := Lib.hid a1
        have HS := Lib.hid a2
        clear k1 k2 hw a1 a2 hn
        go_enter Try.func20, Try.ntmps20
        go_wp2_with (go_at_call 16; refine HN.out.mono ?_; rintro e w' ⟨rfl, rfl⟩)
        refine HA.out.mono ?_
        rintro e w' ⟨rfl, rfl⟩
        go_wp2_with fail
        refine HS.out.mono ?_
        rintro e w' ⟨rfl, rfl⟩
        go_wp2_with fail
        go_ret
        exact ⟨ret_int HW.out.symm, rfl⟩
      · rw [decide_eq_false k2] at a2
        rw [if_neg k2] at hw
        have HW := Lib.hid hw
        have HA := Lib.hid a1
        have HS := Lib.hid a2
        clear k1 k2 hw a1 a2 hn
        go_enter Try.func20, Try.ntmps20
        go_wp2_with (go_at_call 16; refine HN.out.mono ?_; rintro e w' ⟨rfl, rfl⟩)
        refine HA.out.mono ?_
        rintro e w' ⟨rfl, rfl⟩
        go_wp2_with fail
        refine HS.out.mono ?_
        rintro e w' ⟨rfl, rfl⟩
        go_wp2_with fail
        go_ret
        exact ⟨ret_int HW.out.symm, rfl⟩
end Go.Proofs.Ytkbbgnmhfkilgaa
