/- Plain laws of keys: Of inverts Value. -/
import Derived.Test.YtaebjgjocldldaaDoorKeyJ
namespace Go.Proofs.YtaebjgjocldldaaDoor
set_option linter.all false

theorem decB_toNat (n : Nat) (h : n < 10) : (decB n).toNat = 48 + n := by
  have : ∀ k : Fin 10, (decB k.val).toNat = 48 + k.val := by decide +kernel
  exact this ⟨n, h⟩
theorem dec_val : ∀ u : Nat, allDig (Lib.decDigits u) = true ∧ valL (Lib.decDigits u) = (u : Int) := by
  intro u
  induction u using Nat.strongRecOn with
  | _ u ih =>
    by_cases h : u < 10
    · have e : Lib.decDigits u = [] ++ [decB u] := Lib.decDigits_one h
      have e2 := decB_toNat u h
      rw [e, allDig_snoc, valL_snoc, e2]
      refine ⟨?_, ?_⟩
      · rw [show allDig [] = true from rfl, Bool.true_and, digB_iff]
        omega
      · rw [show valL [] = 0 from rfl]
        omega
    · obtain ⟨i1, i2⟩ := ih (u / 10) (by omega)
      have e2 := decB_toNat (u % 10) (by omega)
      rw [decDigits_step h, allDig_snoc, valL_snoc, e2, i1, i2]
      refine ⟨?_, ?_⟩
      · rw [Bool.true_and, digB_iff]
        omega
      · omega
theorem dec_len : ∀ (n u : Nat), u < 10 ^ (n + 1) → (Lib.decDigits u).length ≤ n + 1
  | 0, u, h => by
    rw [show Lib.decDigits u = [decB u] from Lib.decDigits_one (by simpa using h)]
    simp
  | n + 1, u, h => by
    by_cases h10 : u < 10
    · rw [show Lib.decDigits u = [decB u] from Lib.decDigits_one h10]
      simp
    · rw [decDigits_step h10, List.length_append]
      have := dec_len n (u / 10) (by rw [Nat.pow_succ] at h; omega)
      simp
      omega
theorem dec_head : ∀ u : Nat, 1 ≤ u → ∃ c r, Lib.decDigits u = c :: r ∧ c ≠ 48 := by
  intro u
  induction u using Nat.strongRecOn with
  | _ u ih =>
    intro h1
    by_cases h : u < 10
    · refine ⟨decB u, [], Lib.decDigits_one h, fun e => ?_⟩
      have e2 := decB_toNat u h
      rw [e] at e2
      have : (48 : UInt8).toNat = 48 := rfl
      omega
    · obtain ⟨c, r, e, hc⟩ := ih (u / 10) (by omega) (by omega)
      exact ⟨c, r ++ [decB (u % 10)], by rw [decDigits_step h, e]; rfl, hc⟩
theorem dec_bad (u : Nat) (h : u ≤ 4294967294) : badL (Lib.decDigits u) = false := by
  have hl := dec_len 9 u (by omega)
  by_cases h0 : u = 0
  · subst h0
    rw [show Lib.decDigits 0 = [decB 0] from Lib.decDigits_one (by omega)]
    rfl
  · obtain ⟨c, r, e, hc⟩ := dec_head u (by omega)
    rw [e] at hl ⊢
    unfold badL
    rw [decide_eq_false (by omega)]
    have : ((c :: r).head? == some 48) = false := by
      simpa using hc
    rw [this]
    rfl
theorem index_dec (u : Nat) (h : u ≤ 4294967294) : indexM (Lib.decDigits u) = ⟨(u : Int), true⟩ := by
  obtain ⟨h1, h2⟩ := dec_val u
  rw [indexM_in (dec_bad u h) h1 (by rw [h2]; omega), h2]
theorem index_bd {l : List UInt8} (h : (indexM l).ok = true) : 0 ≤ (indexM l).n ∧ (indexM l).n ≤ 4294967294 := by
  cases hb : badL l
  · cases hd : allDig l
    · rw [indexM_no hb hd] at h
      cases h
    · by_cases hg : 4294967294 < valL l
      · rw [indexM_hi hb hd hg] at h
        cases h
      · rw [indexM_in hb hd hg]
        have := valL_bd l.length l rfl hd
        simp only
        omega
  · rw [indexM_bad hb] at h
    cases h

theorem ofM_nat (n : Int) (h0 : 0 ≤ n) (h1 : n ≤ 4294967294) : ofM ⟨3, n, ⟨#[]⟩⟩ = ⟨⟨0, n, ⟨#[]⟩⟩, true⟩ := by
  obtain ⟨u, rfl⟩ := Int.eq_ofNat_of_zero_le h0
  have hw : wholeM ⟨3, (u : Int), ⟨#[]⟩⟩ = true := by
    unfold wholeM i53
    have : (⟨#[]⟩ : ByteArray).toList.isEmpty = true := (empty_iff _).2 rfl
    simp only [this]
    simp
    omega
  have hn : isNumM ⟨3, (u : Int), ⟨#[]⟩⟩ = true := by rw [isNumM, hw]; rfl
  rw [ofM_num hn, numTextM, hw, if_pos rfl]
  simp only [Lib.itoa_nonneg]
  have hi := index_dec u (by omega)
  unfold wordM
  rw [show (strL (Lib.decDigits u)).data.toList = Lib.decDigits u from rfl, hi]
  rfl
theorem of_word (s : ByteArray) (hs : s.size ≤ 65536) : rightM (wordM s) = true ∧ ofM (valueM (wordM s)) = ⟨wordM s, true⟩ := by
  cases h : (indexM s.data.toList).ok
  · have e : wordM s = ⟨1, 0, s⟩ := by rw [wordM, h]; rfl
    have hr : rightM ⟨1, 0, s⟩ = true := by
      show ((0 : Int) == 0 && (decide (s.size ≤ 65536) && !(indexM s.data.toList).ok)) = true
      rw [h, decide_eq_true hs]
      rfl
    have hv : valueM ⟨1, 0, s⟩ = ⟨5, 0, s⟩ := by rw [valueM, hr]; rfl
    have hn : isNumM ⟨5, 0, s⟩ = false := by
      unfold isNumM wholeM nanV Val.eq
      rfl
    have ht : txtB ⟨5, 0, s⟩ = true := by
      unfold txtB
      simp only
      rw [decide_eq_true hs]
      rfl
    rw [e, hv]
    refine ⟨hr, ?_⟩
    rw [ofM_txt hn ht]
    simp only [e]
  · obtain ⟨b1, b2⟩ := index_bd h
    have e : wordM s = ⟨0, (indexM s.data.toList).n, ⟨#[]⟩⟩ := by rw [wordM, h, if_pos rfl]
    generalize (indexM s.data.toList).n = n at *
    have hr : rightM ⟨0, n, ⟨#[]⟩⟩ = true := by
      show ((⟨#[]⟩ : ByteArray).toList.isEmpty && (decide (0 ≤ n) && decide (n ≤ 4294967294))) = true
      rw [(empty_iff _).2 rfl, decide_eq_true b1, decide_eq_true b2]
      rfl
    have hv : valueM ⟨0, n, ⟨#[]⟩⟩ = ⟨3, n, ⟨#[]⟩⟩ := by rw [valueM, hr]; rfl
    rw [e, hv]
    exact ⟨hr, ofM_nat n b1 b2⟩
/-- Of inverts Value. -/
theorem of_back (v : Val) (hv : i64ok v.n) (h : (ofM v).ok = true) : rightM (ofM v).v = true ∧ ofM (valueM (ofM v).v) = ofM v := by
  cases h1 : isNumM v
  · cases h2 : txtB v
    · cases h3 : symB v
      · rw [ofM_no h1 h2 h3] at h
        cases h
      · rw [ofM_sym h1 h2 h3]
        simp only
        have hb : 1 ≤ v.n := by
          unfold symB at h3
          simp at h3
          exact h3.2.2
        have hr : rightM ⟨2, v.n, ⟨#[]⟩⟩ = true := by
          show ((⟨#[]⟩ : ByteArray).toList.isEmpty && decide (1 ≤ v.n)) = true
          rw [(empty_iff _).2 rfl, decide_eq_true hb]
          rfl
        have hvv : valueM ⟨2, v.n, ⟨#[]⟩⟩ = ⟨6, v.n, ⟨#[]⟩⟩ := by rw [valueM, hr]; rfl
        refine ⟨hr, ?_⟩
        rw [hvv, ofM_sym rfl rfl (by
          show ((6 : Int) == 6 && ((⟨#[]⟩ : ByteArray).toList.isEmpty && decide (1 ≤ v.n))) = true
          rw [(empty_iff _).2 rfl, decide_eq_true hb]
          rfl)]
    · rw [ofM_txt h1 h2]
      have hb : v.s.size ≤ 65536 := by
        unfold txtB at h2
        simp at h2
        exact h2.2.2
      exact of_word v.s hb
  · rw [ofM_num h1]
    exact of_word _ (by have := numText_size v hv; omega)
theorem ok_mk {k n : Int} {s : ByteArray} (hk : i64ok k) (hn : i64ok n) (hs : s.size ≤ maxLen) : (Val.mk k n s).ok := ⟨hk, hn, hs⟩
theorem c0 : i64ok 0 := ⟨by decide, by decide⟩
theorem c1 : i64ok 1 := ⟨by decide, by decide⟩
theorem c2 : i64ok 2 := ⟨by decide, by decide⟩
theorem c3 : i64ok 3 := ⟨by decide, by decide⟩
theorem c5 : i64ok 5 := ⟨by decide, by decide⟩
theorem c6 : i64ok 6 := ⟨by decide, by decide⟩
theorem ce : (⟨#[]⟩ : ByteArray).size ≤ maxLen := by decide
theorem word_ok (s : ByteArray) (h : s.size ≤ maxLen) : (wordM s).ok := by
  unfold wordM
  split
  · rename_i h
    have := index_bd h
    exact ok_mk c0 ⟨by omega, by omega⟩ ce
  · exact ok_mk c1 c0 h
theorem of_ok (v : Val) (hv : v.ok) : (ofM v).v.ok := by
  cases h1 : isNumM v
  · cases h2 : txtB v
    · cases h3 : symB v
      · rw [ofM_no h1 h2 h3]
        exact ok_mk c0 c0 ce
      · rw [ofM_sym h1 h2 h3]
        exact ok_mk c2 hv.2.1 ce
    · rw [ofM_txt h1 h2]
      exact word_ok _ hv.2.2
  · rw [ofM_num h1]
    have hs := numText_size v hv.2.1
    exact word_ok _ (by unfold maxLen; omega)
theorem value_ok (k : Val) (hk : k.ok) : (valueM k).ok := by
  unfold valueM
  split
  · split
    · exact ok_mk c3 hk.2.1 ce
    · split
      · exact ok_mk c5 c0 hk.2.2
      · exact ok_mk c6 hk.2.1 ce
  · exact ok_mk c0 c0 ce
end Go.Proofs.YtaebjgjocldldaaDoor
