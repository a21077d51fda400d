/- Walks: words of the reference; IsName. -/
import Derived.Test.YtkbbgnmhfkilgaaLitU
namespace Go.Proofs.Ytkbbgnmhfkilgaa
set_option linter.all false
open Go.RowKit Go.Sort

/-- the pieces behind a place -/
def rem_ (l : List UInt8) (k : Nat) : List (List UInt8) := if k ≤ l.length then sp (l.drop k) else []
theorem rem_step (l : List UInt8) (f i : Nat) (hfi : f ≤ i) (hi : i ≤ l.length) (hn : 32 ∉ (l.drop f).take (i - f)) (hc : i = l.length ∨ l[i]? = some 32) : rem_ l f = (l.drop f).take (i - f) :: rem_ l (i + 1) := by
  unfold rem_
  rw [if_pos (by omega)]
  rcases hc with rfl | hc
  · rw [if_neg (by omega)]
    have e : (l.drop f).take (l.length - f) = l.drop f := List.take_of_length_le (by simp)
    rw [e] at hn ⊢
    exact sp_none _ hn
  · have hlt := (List.getElem?_eq_some_iff.1 hc).1
    rw [if_pos (by omega)]
    have e : l.drop f = (l.drop f).take (i - f) ++ 32 :: l.drop (i + 1) := by
      have h1 := (List.take_append_drop (i - f) (l.drop f)).symm
      rw [List.drop_drop] at h1
      rw [show f + (i - f) = i by omega] at h1
      rw [List.drop_eq_getElem_cons hlt, show l[i] = 32 from (List.getElem?_eq_some_iff.1 hc).2] at h1
      exact h1
    generalize (l.drop f).take (i - f) = u at *
    rw [e, sp_cut _ _ hn]
theorem take_ns (l : List UInt8) (f i : Nat) (hfi : f ≤ i) (hi : i < l.length) (hn : 32 ∉ (l.drop f).take (i - f)) (hc : l[i] ≠ 32) : 32 ∉ (l.drop f).take (i + 1 - f) := by
  rw [show i + 1 - f = (i - f) + 1 by omega, List.take_succ_eq_append_getElem (by simp; omega)]
  simp only [List.mem_append, List.mem_singleton, not_or, List.getElem_drop]
  refine ⟨hn, fun e => hc ?_⟩
  rw [e]
  congr 1
  omega
theorem piece_list (l : ByteArray) (f i : Nat) : (l.extract f i).data.toList = (l.data.toList.drop f).take (i - f) := Lib.extract_data l f i

set_option maxRecDepth 100000 in
set_option maxHeartbeats 4000000 in
theorem among_any (s l : ByteArray) (w : World) (hl : l.size ≤ 1000000) :
    Calls Try.prog 31 #[.string s, .string l] w fun e w' => e = .returned (.bool (decide (s.data.toList ∈ sp l.data.toList))) ∧ w = w' := by
  go_enter Try.func31, Try.ntmps31
  go_wp2_with fail
  go_loop [5, 6] (fun f i => ∃ a k : Nat, a ≤ k ∧ k ≤ l.size + 1 ∧ (k ≤ l.size → 32 ∉ (l.data.toList.drop a).take (k - a)) ∧ (k = l.size + 1 → a = k) ∧ f = .int .i64 (a : Int) ∧ i = .int .i64 (k : Int) ∧ (s.data.toList ∈ sp l.data.toList ↔ s.data.toList ∈ rem_ l.data.toList a)) (fun _ i => l.size + 1 - (intOf i).toNat)
  case atStart => exact ⟨0, 0, by omega, by omega, by simp, by omega, rfl, rfl, by rw [rem_, if_pos (Nat.zero_le _)]; rfl⟩
  case round =>
    obtain ⟨a, k, hak, hk, hns, hend, rfl, rfl, hiff⟩ := hrel
    have IFF := Lib.hid hiff
    clear hiff
    have hsz : l.data.toList.length = l.size := by simp
    have HSZ := Lib.hid hsz
    clear hsz
    by_cases hle : k ≤ l.size
    · have hn := hns hle
      clear hns hend hk
      have NS := Lib.hid hn
      clear hn
      have hkb : (k : Int) ≤ 1000000 := by omega
      have hab : (a : Int) ≤ 1000000 := by omega
      have hakI : (a : Int) ≤ (k : Int) := by omega
      have hlt1 : ((k : Int) ≤ (l.size : Int)) := by omega
      by_cases hc : k = l.size ∨ ∃ h : k < l.size, l[k] = 32
      · have HS := Lib.hid (rem_step l.data.toList a k hak (by rw [HSZ.out]; exact hle) NS.out (by
          rcases hc with h | ⟨h, h2⟩
          · exact .inl (by rw [HSZ.out]; exact h)
          · refine .inr ?_
            rw [List.getElem?_eq_getElem (by rw [HSZ.out]; exact h)]
            exact congrArg some h2))
        have hg : ((k : Int) == (l.size : Int)) = true ∨ ((k : Int) == (l.size : Int)) = false ∧ ∃ h : k < l.size, ((l[k].toNat : Int) == 32) = true := by
          by_cases e : k = l.size
          · exact .inl (by rw [beq_iff_eq]; omega)
          · refine .inr ⟨by rw [beq_eq_false_iff_ne]; omega, ?_⟩
            rcases hc with h | ⟨h, h2⟩
            · exact absurd h e
            · exact ⟨h, by rw [h2]; rfl⟩
        clear hc
        have PL := Lib.hid (piece_list l a k)
        cases t : ((l.extract a k).toList == s.toList)
        · have hne : ¬ s.data.toList = (l.data.toList.drop a).take (k - a) := by
            intro e
            rw [beq_eq_false_iff_ne] at t
            exact t (by rw [ByteArray.toList_eq, ByteArray.toList_eq, PL.out, e])
          have REL := Lib.hid (show s.data.toList ∈ sp l.data.toList ↔ s.data.toList ∈ rem_ l.data.toList (k + 1) by
            rw [IFF.out, HS.out, List.mem_cons]
            exact ⟨fun h => h.resolve_left hne, .inr⟩)
          clear hne
          rcases hg with hg | ⟨hg, hlt, hb⟩
          all_goals
            go_wp2_with fail
            go_round
            case rel => exact ⟨k + 1, k + 1, by omega, by omega, by simp, by omega, by go_num, by go_num, REL.out⟩
            case measure => simp [intOf]; omega
        · have RES := Lib.hid (show decide (s.data.toList ∈ sp l.data.toList) = true by
            rw [decide_eq_true_iff, IFF.out, HS.out, List.mem_cons]
            left
            rw [beq_iff_eq] at t
            rw [ByteArray.toList_eq, ByteArray.toList_eq, PL.out] at t
            exact t.symm)
          rcases hg with hg | ⟨hg, hlt, hb⟩
          all_goals
            go_wp2_with fail
            go_ret
            exact ⟨ret_bool RES.out.symm, rfl⟩
      · have hlt : k < l.size := by
          rcases Nat.lt_or_ge k l.size with h | h
          · exact h
          · exact absurd (.inl (by omega)) hc
        have hne : l[k] ≠ 32 := fun e => hc (.inr ⟨hlt, e⟩)
        clear hc
        have g1 : ((k : Int) == (l.size : Int)) = false := by rw [beq_eq_false_iff_ne]; omega
        have g2 : ((l[k].toNat : Int) == 32) = false := u8_ne _ 32 hne
        have NN := Lib.hid (take_ns l.data.toList a k hak (by rw [HSZ.out]; exact hlt) NS.out hne)
        clear hne
        go_wp2_with fail
        go_round
        case rel => exact ⟨a, k + 1, by omega, by omega, fun _ => NN.out, by omega, rfl, by go_num, IFF.out⟩
        case measure => simp [intOf]; omega
    · have e : a = k := hend (by omega)
      subst e
      have RES := Lib.hid (show decide (s.data.toList ∈ sp l.data.toList) = false by
        rw [decide_eq_false_iff_not, IFF.out, rem_, if_neg (by rw [HSZ.out]; exact hle)]
        simp)
      clear hns hend
      have hgt : ¬ ((a : Int) ≤ (l.size : Int)) := by omega
      go_wp2_with fail
      go_ret
      exact ⟨ret_bool RES.out.symm, rfl⟩

theorem among_alw (s : ByteArray) (w : World) : Calls Try.prog 31 #[.string s, .string (strL alwL)] w fun e w' => e = .returned (.bool (decide (s.data.toList ∈ sp alwL))) ∧ w = w' :=
  among_any s (strL alwL) w (by rw [strL_size]; decide +kernel)
theorem among_stc (s : ByteArray) (w : World) : Calls Try.prog 31 #[.string s, .string (strL stcL)] w fun e w' => e = .returned (.bool (decide (s.data.toList ∈ sp stcL))) ∧ w = w' :=
  among_any s (strL stcL) w (by rw [strL_size]; decide +kernel)

set_option maxRecDepth 100000 in
set_option maxHeartbeats 4000000 in
theorem rword_any (s : ByteArray) (w : World) :
    Calls Try.prog 21 #[.string s] w fun e w' => e = .returned (.int .i64 (wordM s.data.toList)) ∧ w = w' := by
  by_cases h0 : s = ⟨#[]⟩
  · subst h0
    have HW := Lib.hid (show wordM (⟨#[]⟩ : ByteArray).data.toList = 0 from wordM_no rfl)
    go_enter Try.func21, Try.ntmps21
    go_wp2_with fail
    go_ret
    exact ⟨ret_int HW.out.symm, rfl⟩
  have e1 : (s.toList == []) = false := by
    rw [beq_eq_false_iff_ne]
    intro e
    exact h0 (toList_nil e)
  clear h0
  have a1 := among_alw s w
  have a2 := among_stc s w
  have hw : wordM s.data.toList = if s.data.toList ∈ sp alwL then 1 else if s.data.toList ∈ sp stcL then 2 else 0 := rfl
  by_cases k1 : s.data.toList ∈ sp alwL
  · rw [decide_eq_true k1] at a1
    rw [if_pos k1] at hw
    have HW := Lib.hid hw
    have HA := Lib.hid a1
    clear k1 hw a1 a2
    go_enter Try.func21, Try.ntmps21
    go_wp2_with fail
    refine HA.out.mono ?_
    rintro e w' ⟨rfl, rfl⟩
    go_wp2_with fail
    go_ret
    exact ⟨ret_int HW.out.symm, rfl⟩
  · rw [decide_eq_false k1] at a1
    rw [if_neg k1] at hw
    by_cases k2 : s.data.toList ∈ sp stcL
    · rw [decide_eq_true k2] at a2
      rw [if_pos k2] at hw
      have HW := Lib.hid hw
      have HA := Lib.hid a1
      have HS := Lib.hid a2
      clear k1 k2 hw a1 a2
      go_enter Try.func21, Try.ntmps21
      go_wp2_with fail
      refine HA.out.mono ?_
      rintro e w' ⟨rfl, rfl⟩
      go_wp2_with fail
      refine HS.out.mono ?_
      rintro e w' ⟨rfl, rfl⟩
      go_wp2_with fail
      go_ret
      exact ⟨ret_int HW.out.symm, rfl⟩
    · rw [decide_eq_false k2] at a2
      rw [if_neg k2] at hw
      have HW := Lib.hid hw
      have HA := Lib.hid a1
      have HS := Lib.hid a2
      clear k1 k2 hw a1 a2
      go_enter Try.func21, Try.ntmps21
      go_wp2_with fail
      refine HA.out.mono ?_
      rintro e w' ⟨rfl, rfl⟩
      go_wp2_with fail
      refine HS.out.mono ?_
      rintro e w' ⟨rfl, rfl⟩
      go_wp2_with fail
      go_ret
      exact ⟨ret_int HW.out.symm, rfl⟩

/-- what IsName answers -/
def isNameM (l : List UInt8) : Bool := isIdL l && wordM l != 1
theorem name_next (s : ByteArray) : ((nameM s 0).t ≠ ⟨#[]⟩ ∧ (nameM s 0).n = s.size) ↔ isIdL s.data.toList = true := by
  rw [← name_id]
  by_cases h0 : s.size = 0
  · have es : s = ⟨#[]⟩ := ba_ext (by rw [List.eq_nil_of_length_eq_zero (show s.data.toList.length = 0 by simpa using h0)])
    subst es
    constructor
    · intro h
      exact absurd rfl h.1
    · intro h
      exact absurd rfl h.2
  · have hlt : 0 < s.size := by omega
    have hn : ¬ s = ⟨#[]⟩ := fun e => by rw [e] at h0; exact h0 rfl
    unfold nameM
    rw [if_neg (by omega)]
    simp only [show (0 : Int).toNat = 0 from rfl]
    cases k : letB (byI s 0)
    · simp
      intro e
      exact absurd e.symm hn
    · simp only [if_true]
      have hb := nameEnd_le s 0 hlt
      constructor
      · rintro ⟨_, h⟩
        refine ⟨?_, hn⟩
        have h' : nameEnd s 0 = s.size := by omega
        rw [h']
        apply ba_ext
        rw [Lib.extract_to_end, List.drop_zero]
      · rintro ⟨h, _⟩
        have := congrArg ByteArray.size h
        rw [ByteArray.size_extract] at this
        refine ⟨fun e => ?_, by omega⟩
        rw [h] at e
        exact hn e

set_option maxRecDepth 100000 in
set_option maxHeartbeats 4000000 in
theorem isName_any (s : ByteArray) (m : Int) (w : World) (hs : s.size ≤ 1000000) (hm : w.cell? ⟨0, 0, none⟩ = some (.int .i64 m)) :
    Calls Try.prog 18 #[.string s] w fun e w' => e = .returned (.bool (isNameM s.data.toList)) ∧ w = w' := by
  have hn := name_any s 0 w (by omega)
  have hw := Lib.hid (word_any s m w hs hm)
  have hid := name_id s
  cases hi : isIdL s.data.toList
  · have HW := Lib.hid (show isNameM s.data.toList = false by rw [isNameM, hi]; rfl)
    have hno : ¬ ((nameM s 0).t = s ∧ s ≠ ⟨#[]⟩) := fun h => by rw [hid.1 h] at hi; cases hi
    unfold namV at hn
    generalize nameM s 0 = N at hn hno
    obtain ⟨t, n⟩ := N
    have HN := Lib.hid hn
    simp only at hno
    clear hid hi hn hm hw
    by_cases k : t = ⟨#[]⟩
    · subst k
      go_enter Try.func18, Try.ntmps18
      go_wp2_with (go_at_call 16; refine HN.out.mono ?_; rintro e w' ⟨rfl, rfl⟩)
      go_ret
      exact ⟨ret_bool HW.out.symm, rfl⟩
    · have e1 : t.toList.isEmpty = false := by
        cases e : t.toList.isEmpty
        · rfl
        · exact absurd (toList_nil (List.isEmpty_iff.1 e)) k
      have e2 : (t.toList == s.toList) = false := by
        rw [beq_eq_false_iff_ne]
        intro e
        have e' : t = s := ba_ext (by rw [← ByteArray.toList_eq, e, ByteArray.toList_eq])
        exact hno ⟨e', fun h => k (e'.trans h)⟩
      clear hno k
      go_enter Try.func18, Try.ntmps18
      go_wp2_with (go_at_call 16; refine HN.out.mono ?_; rintro e w' ⟨rfl, rfl⟩)
      go_ret
      exact ⟨ret_bool HW.out.symm, rfl⟩
  · obtain ⟨h1, h2⟩ := hid.2 hi
    have HW := Lib.hid (show isNameM s.data.toList = (wordM s.data.toList != 1) by rw [isNameM, hi]; rfl)
    unfold namV at hn
    generalize nameM s 0 = N at hn h1
    obtain ⟨t, n⟩ := N
    simp only at h1
    subst h1
    have HN := Lib.hid hn
    have e1 : t.toList.isEmpty = false := by
      cases e : t.toList.isEmpty
      · rfl
      · exact absurd (toList_nil (List.isEmpty_iff.1 e)) h2
    generalize wordM t.data.toList = W at *
    clear hid hi h2 hm hn
    go_enter Try.func18, Try.ntmps18
    go_wp2_with (first | (go_at_call 16; refine HN.out.mono ?_; rintro e w' ⟨rfl, rfl⟩) | (go_at_call 20; refine hw.out.mono ?_; rintro e w' ⟨rfl, rfl⟩))
    go_ret
    exact ⟨ret_bool HW.out.symm, rfl⟩

set_option maxRecDepth 100000 in
set_option maxHeartbeats 4000000 in
theorem risName_any (s : ByteArray) (w : World) (hs : s.size ≤ 1000000) :
    Calls Try.prog 19 #[.string s] w fun e w' => e = .returned (.bool (isNameM s.data.toList)) ∧ w = w' := by
  have hn := rname_any s 0 w (by omega)
  have hw := Lib.hid (rword_any s w)
  have hid := name_next s
  cases hi : isIdL s.data.toList
  · have HW := Lib.hid (show isNameM s.data.toList = false by rw [isNameM, hi]; rfl)
    have hno : ¬ ((nameM s 0).t ≠ ⟨#[]⟩ ∧ (nameM s 0).n = s.size) := fun h => by rw [hid.1 h] at hi; cases hi
    unfold namV at hn
    generalize nameM s 0 = N at hn hno
    obtain ⟨t, n⟩ := N
    have HN := Lib.hid hn
    simp only at hno
    clear hid hi hn hw
    by_cases k : t = ⟨#[]⟩
    · subst k
      go_enter Try.func19, Try.ntmps19
      go_wp2_with (go_at_call 17; refine HN.out.mono ?_; rintro e w' ⟨rfl, rfl⟩)
      go_ret
      exact ⟨ret_bool HW.out.symm, rfl⟩
    · have e1 : t.toList.isEmpty = false := by
        cases e : t.toList.isEmpty
        · rfl
        · exact absurd (toList_nil (List.isEmpty_iff.1 e)) k
      have e2 : (n == (s.size : Int)) = false := by
        rw [beq_eq_false_iff_ne]
        intro e
        exact hno ⟨k, e⟩
      clear hno k
      go_enter Try.func19, Try.ntmps19
      go_wp2_with (go_at_call 17; refine HN.out.mono ?_; rintro e w' ⟨rfl, rfl⟩)
      go_ret
      exact ⟨ret_bool HW.out.symm, rfl⟩
  · obtain ⟨h1, h2⟩ := hid.2 hi
    have HW := Lib.hid (show isNameM s.data.toList = (wordM s.data.toList != 1) by rw [isNameM, hi]; rfl)
    unfold namV at hn
    generalize nameM s 0 = N at hn h1 h2
    obtain ⟨t, n⟩ := N
    simp only at h1 h2
    have HN := Lib.hid hn
    have e1 : t.toList.isEmpty = false := by
      cases e : t.toList.isEmpty
      · rfl
      · exact absurd (toList_nil (List.isEmpty_iff.1 e)) h1
    have e2 : (n == (s.size : Int)) = true := by rw [beq_iff_eq]; exact h2
    generalize wordM s.data.toList = W at *
    clear hid hi h1 h2 hn
    go_enter Try.func19, Try.ntmps19
    go_wp2_with (first | (go_at_call 17; refine HN.out.mono ?_; rintro e w' ⟨rfl, rfl⟩) | (go_at_call 21; refine hw.out.mono ?_; rintro e w' ⟨rfl, rfl⟩))
    go_ret
    exact ⟨ret_bool HW.out.symm, rfl⟩
end Go.Proofs.Ytkbbgnmhfkilgaa
