/- Walk: Quote of the reference of package literal. -/
import Derived.Test.YtkbbgnmhfkilgaaLitJ
namespace Go.Proofs.Ytkbbgnmhfkilgaa
set_option linter.all false
open Go.RowKit Go.Sort

def strL (l : List UInt8) : ByteArray := ⟨l.toArray⟩
theorem strL_append (a b : List UInt8) : strL (a ++ b) = strL a ++ strL b := by
  unfold strL
  apply ByteArray.ext
  simp
theorem strL_size (l : List UInt8) : (strL l).size = l.length := by simp [strL, ByteArray.size]
theorem extract_one (s : ByteArray) (k : Nat) (h : k < s.size) : s.extract k (k + 1) = strL [s[k]] := by
  apply ByteArray.ext
  rw [ByteArray.data_extract]
  have h' : k < s.data.size := h
  apply Array.ext
  · simp [strL]; omega
  · intro i h1 h2
    have hi : i = 0 := by simp [strL] at h2; omega
    subst hi
    simp [strL]
    rfl
theorem step_eq (s : ByteArray) (k : Nat) (h : k < s.size) (O x : ByteArray) (hO : strL (34 :: qbs (s.data.toList.take k)) = O) (hx : strL (qb s[k]) = x) : O ++ x = strL (34 :: qbs (s.data.toList.take (k + 1))) := by
  rw [take_snoc s k h, qbs_snoc, ← hO, ← hx, ← strL_append, List.cons_append]
theorem ret_str {a b : ByteArray} (h : a = b) : Ending.returned (.string a) = Ending.returned (.string b) := by rw [h]
theorem str4 (a b : UInt8) : strL [92, 120, a, b] = strL [92, 120] ++ strL [a] ++ strL [b] := by rw [← strL_append, ← strL_append]; rfl
theorem app3 (O a b : ByteArray) : O ++ (a ++ b) = O ++ a ++ b := (ByteArray.append_assoc).symm
theorem hexes_ex (n : Nat) (h : n < 16) : hexes.extract n (n + 1) = strL [hexB n] := by
  rw [extract_one hexes n h, hexAt]

set_option maxRecDepth 100000 in
set_option maxHeartbeats 8000000 in
theorem rquote_any (s : ByteArray) (w : World) (hs : s.size ≤ 20000000) :
    Calls Try.prog 10 #[.string s] w fun e w' => e = .returned (.string (strL (quoteM s.data.toList))) ∧ Below w.heap.size w w' := by
  go_enter Try.func10, Try.ntmps10
  go_wp2_with fail
  go_loopw [4, 5, 6] (fun out i c wr => ∃ k : Nat, k ≤ s.size ∧ i = .int .i64 (k : Int) ∧ out = .string (strL (34 :: qbs (s.data.toList.take k))) ∧ Below w.heap.size w wr) (fun _ i _ _ => s.size - (intOf i).toNat)
  case atStart => exact ⟨0, Nat.zero_le _, rfl, rfl, Below.refl _ _⟩
  case round =>
    obtain ⟨k, hk, rfl, rfl, hb⟩ := hrel
    have HB := Lib.hid hb
    clear hb
    have hos : (strL (34 :: qbs (s.data.toList.take k))).size ≤ 90000000 := by
      have hql := qbs_len (s.data.toList.take k)
      have hqt : (s.data.toList.take k).length ≤ k := List.length_take_le _ _
      rw [strL_size]
      simp only [List.length_cons]
      omega
    by_cases hlt : k < s.size
    · have hkb : (k : Int) ≤ 20000000 := by omega
      have RES := Lib.hid (fun x (hx : strL (qb s[k]) = x) => step_eq s k hlt _ x rfl hx)
      generalize strL (34 :: qbs (s.data.toList.take k)) = O at *
      have q1 : ¬ 9223372036854775807 < O.size + 1 := by omega
      have q2 : ¬ 9223372036854775807 < O.size + 2 := by omega
      have q3 : ¬ 9223372036854775807 < O.size + 2 + 1 := by omega
      have q4 : ¬ 9223372036854775807 < O.size + 2 + 1 + 1 := by omega
      have q5 : ¬ 9223372036854775807 < O.size + 1 + (min (k + 1) s.size - k) := by omega
      have q6 : ¬ 9223372036854775807 < O.size + (min (k + 1) s.size - k) := by omega
      have hex1 := extract_one s k hlt
      have hlt2 := s[k].toNat_lt
      have c10 : ((s[k].toNat : Int) == 10) = (s[k] == 10) := u8_eq _ 10
      have c9 : ((s[k].toNat : Int) == 9) = (s[k] == 9) := u8_eq _ 9
      have c13 : ((s[k].toNat : Int) == 13) = (s[k] == 13) := u8_eq _ 13
      have c0 : ((s[k].toNat : Int) == 0) = (s[k] == 0) := u8_eq _ 0
      have c34 : ((s[k].toNat : Int) == 34) = (s[k] == 34) := u8_eq _ 34
      have c92 : ((s[k].toNat : Int) == 92) = (s[k] == 92) := u8_eq _ 92
      by_cases h1 : s[k] = 10 ∨ s[k] = 9 ∨ s[k] = 13 ∨ s[k] = 0
      · rcases h1 with h | h | h | h
        · have HQ := Lib.hid (show qb s[k] = [92, 110] by rw [h]; rfl)
          replace c10 := c10.trans (show (s[k] == (10 : UInt8)) = true by rw [h]; decide)
          replace c9 := c9.trans (show (s[k] == (9 : UInt8)) = false by rw [h]; decide)
          replace c13 := c13.trans (show (s[k] == (13 : UInt8)) = false by rw [h]; decide)
          replace c0 := c0.trans (show (s[k] == (0 : UInt8)) = false by rw [h]; decide)
          replace c34 := c34.trans (show (s[k] == (34 : UInt8)) = false by rw [h]; decide)
          replace c92 := c92.trans (show (s[k] == (92 : UInt8)) = false by rw [h]; decide)
          clear h
          go_wp2_with fail
          go_roundw
          case rel => exact ⟨k + 1, by omega, by go_num, by rw [← RES.out _ rfl, HQ.out]; rfl, HB.out⟩
          case measure => simp [intOf]; omega
        · have HQ := Lib.hid (show qb s[k] = [92, 116] by rw [h]; rfl)
          replace c10 := c10.trans (show (s[k] == (10 : UInt8)) = false by rw [h]; decide)
          replace c9 := c9.trans (show (s[k] == (9 : UInt8)) = true by rw [h]; decide)
          replace c13 := c13.trans (show (s[k] == (13 : UInt8)) = false by rw [h]; decide)
          replace c0 := c0.trans (show (s[k] == (0 : UInt8)) = false by rw [h]; decide)
          replace c34 := c34.trans (show (s[k] == (34 : UInt8)) = false by rw [h]; decide)
          replace c92 := c92.trans (show (s[k] == (92 : UInt8)) = false by rw [h]; decide)
          clear h
          go_wp2_with fail
          go_roundw
          case rel => exact ⟨k + 1, by omega, by go_num, by rw [← RES.out _ rfl, HQ.out]; rfl, HB.out⟩
          case measure => simp [intOf]; omega
        · have HQ := Lib.hid (show qb s[k] = [92, 114] by rw [h]; rfl)
          replace c10 := c10.trans (show (s[k] == (10 : UInt8)) = false by rw [h]; decide)
          replace c9 := c9.trans (show (s[k] == (9 : UInt8)) = false by rw [h]; decide)
          replace c13 := c13.trans (show (s[k] == (13 : UInt8)) = true by rw [h]; decide)
          replace c0 := c0.trans (show (s[k] == (0 : UInt8)) = false by rw [h]; decide)
          replace c34 := c34.trans (show (s[k] == (34 : UInt8)) = false by rw [h]; decide)
          replace c92 := c92.trans (show (s[k] == (92 : UInt8)) = false by rw [h]; decide)
          clear h
          go_wp2_with fail
          go_roundw
          case rel => exact ⟨k + 1, by omega, by go_num, by rw [← RES.out _ rfl, HQ.out]; rfl, HB.out⟩
          case measure => simp [intOf]; omega
        · have HQ := Lib.hid (show qb s[k] = [92, 48] by rw [h]; rfl)
          replace c10 := c10.trans (show (s[k] == (10 : UInt8)) = false by rw [h]; decide)
          replace c9 := c9.trans (show (s[k] == (9 : UInt8)) = false by rw [h]; decide)
          replace c13 := c13.trans (show (s[k] == (13 : UInt8)) = false by rw [h]; decide)
          replace c0 := c0.trans (show (s[k] == (0 : UInt8)) = true by rw [h]; decide)
          replace c34 := c34.trans (show (s[k] == (34 : UInt8)) = false by rw [h]; decide)
          replace c92 := c92.trans (show (s[k] == (92 : UInt8)) = false by rw [h]; decide)
          clear h
          go_wp2_with fail
          go_roundw
          case rel => exact ⟨k + 1, by omega, by go_num, by rw [← RES.out _ rfl, HQ.out]; rfl, HB.out⟩
          case measure => simp [intOf]; omega
      by_cases h2 : s[k] = 34 ∨ s[k] = 92
      · rcases h2 with h | h
        · have HQ := Lib.hid (show qb s[k] = [92, s[k]] by rw [h]; rfl)
          replace c10 := c10.trans (show (s[k] == (10 : UInt8)) = false by rw [h]; decide)
          replace c9 := c9.trans (show (s[k] == (9 : UInt8)) = false by rw [h]; decide)
          replace c13 := c13.trans (show (s[k] == (13 : UInt8)) = false by rw [h]; decide)
          replace c0 := c0.trans (show (s[k] == (0 : UInt8)) = false by rw [h]; decide)
          replace c34 := c34.trans (show (s[k] == (34 : UInt8)) = true by rw [h]; decide)
          replace c92 := c92.trans (show (s[k] == (92 : UInt8)) = false by rw [h]; decide)
          clear h
          go_wp2_with fail
          go_roundw
          case rel => exact ⟨k + 1, by omega, by go_num, by rw [← RES.out _ rfl, HQ.out, show [92, s[k]] = [92] ++ [s[k]] from rfl, strL_append, app3]; rfl, HB.out⟩
          case measure => simp [intOf]; omega
        · have HQ := Lib.hid (show qb s[k] = [92, s[k]] by rw [h]; rfl)
          replace c10 := c10.trans (show (s[k] == (10 : UInt8)) = false by rw [h]; decide)
          replace c9 := c9.trans (show (s[k] == (9 : UInt8)) = false by rw [h]; decide)
          replace c13 := c13.trans (show (s[k] == (13 : UInt8)) = false by rw [h]; decide)
          replace c0 := c0.trans (show (s[k] == (0 : UInt8)) = false by rw [h]; decide)
          replace c34 := c34.trans (show (s[k] == (34 : UInt8)) = false by rw [h]; decide)
          replace c92 := c92.trans (show (s[k] == (92 : UInt8)) = true by rw [h]; decide)
          clear h
          go_wp2_with fail
          go_roundw
          case rel => exact ⟨k + 1, by omega, by go_num, by rw [← RES.out _ rfl, HQ.out, show [92, s[k]] = [92] ++ [s[k]] from rfl, strL_append, app3]; rfl, HB.out⟩
          case measure => simp [intOf]; omega
      have hd : ¬ s[k] = 10 ∧ ¬ s[k] = 9 ∧ ¬ s[k] = 13 ∧ ¬ s[k] = 0 ∧ ¬ s[k] = 34 ∧ ¬ s[k] = 92 := by
        refine ⟨fun h => h1 (.inl h), fun h => h1 (.inr (.inl h)), fun h => h1 (.inr (.inr (.inl h))), fun h => h1 (.inr (.inr (.inr h))), fun h => h2 (.inl h), fun h => h2 (.inr h)⟩
      obtain ⟨n10, n9, n13, n0, n34, n92⟩ := hd
      by_cases h3 : s[k] < 32 ∨ 126 < s[k]
      · have HQ := Lib.hid (show qb s[k] = [92, 120, hexB (s[k].toNat / 16), hexB (s[k].toNat % 16)] by
          unfold qb
          rw [if_neg n10, if_neg n9, if_neg n13, if_neg n0, if_neg (by rintro (h | h); exact n34 h; exact n92 h), if_pos h3])
        have hc' : s[k].toNat < 32 ∨ 126 < s[k].toNat := h3.imp (fun h => by simpa using UInt8.lt_iff_toNat_lt.1 h) (fun h => by simpa using UInt8.lt_iff_toNat_lt.1 h)
        have hd' : (s[k].toNat : Int) < 32 ∨ 32 ≤ (s[k].toNat : Int) ∧ 126 < (s[k].toNat : Int) := by omega
        rw [show (s[k] == 10) = false by simpa using n10] at c10
        rw [show (s[k] == 9) = false by simpa using n9] at c9
        rw [show (s[k] == 13) = false by simpa using n13] at c13
        rw [show (s[k] == 0) = false by simpa using n0] at c0
        rw [show (s[k] == 34) = false by simpa using n34] at c34
        rw [show (s[k] == 92) = false by simpa using n92] at c92
        clear h1 h2 h3 n10 n9 n13 n0 n34 n92 hc'
        obtain ⟨m, hm⟩ : ∃ m, s[k].toNat / 16 = m := ⟨_, rfl⟩
        obtain ⟨r, hr⟩ : ∃ r, s[k].toNat % 16 = r := ⟨_, rfl⟩
        rw [hm, hr] at HQ
        have hm16 : m < 16 := by omega
        have hr16 : r < 16 := by omega
        have w1 : IntKind.u8.wrap ((s[k].toNat : Int) / 16) = (m : Int) := by rw [IntWalk.u8_in _ (by omega)]; omega
        have v1 : ((s[k].toNat : Int).tmod 16) = (r : Int) := by rw [IntWalk.rem_in _ _ (by omega)]; omega
        have v8 : (0 : Int) ≤ (r : Int) := by omega
        have w2 : IntKind.u8.wrap ((m : Int) + 1) = (m : Int) + 1 := IntWalk.u8_in _ (by omega)
        have v2 : IntKind.u8.wrap ((r : Int) + 1) = (r : Int) + 1 := IntWalk.u8_in _ (by omega)
        have w3 : (m : Int) + 1 ≤ 16 := by omega
        have v3 : (r : Int) + 1 ≤ 16 := by omega
        have w6 : (0 : Int) ≤ (m : Int) + 1 := by omega
        have w7 : (m : Int) ≤ (m : Int) + 1 := by omega
        have v6 : (0 : Int) ≤ (r : Int) + 1 := by omega
        have v7 : (r : Int) ≤ (r : Int) + 1 := by omega
        have w4 : ((m : Int) + 1).toNat = m + 1 := by omega
        have v4 : ((r : Int) + 1).toNat = r + 1 := by omega
        have w5 : hexes.extract m (m + 1) = strL [hexB m] := hexes_ex m hm16
        have v5 : hexes.extract r (r + 1) = strL [hexB r] := hexes_ex r hr16
        have s1 : (strL [hexB m]).size = 1 := rfl
        have s2 : (strL [hexB r]).size = 1 := rfl
        have HM := Lib.hid hm
        have HR := Lib.hid hr
        clear hm hr
        rcases hd' with d1 | ⟨d1, d2⟩
        all_goals
          go_upto_region 19 with fail
          ((first | (with_reducible refine wp_quiet_gr Try.mixed ?_ ?_) | (with_reducible refine wp_quiet_any Try.mixed ?_ ?_)); (next => kernel_rfl); (repeat (quiet_step (fail))); refine wpQuiet_nil ?_; intro pq)
          go_wp2_with fail
          go_roundw
          case rel => exact ⟨k + 1, by omega, by go_num, by rw [← RES.out _ rfl, HQ.out, str4, app3, app3]; rfl, bl_gr HB.out _⟩
          case measure => simp [intOf]; omega
      · have HQ := Lib.hid (show qb s[k] = [s[k]] by
          unfold qb
          rw [if_neg n10, if_neg n9, if_neg n13, if_neg n0, if_neg (by rintro (h | h); exact n34 h; exact n92 h), if_neg h3])
        have hc' : ¬ (s[k].toNat < 32 ∨ 126 < s[k].toNat) := fun h => h3 (h.imp (fun h => UInt8.lt_iff_toNat_lt.2 (by simpa using h)) (fun h => UInt8.lt_iff_toNat_lt.2 (by simpa using h)))
        have d1 : 32 ≤ (s[k].toNat : Int) := by omega
        have d2 : (s[k].toNat : Int) ≤ 126 := by omega
        rw [show (s[k] == 10) = false by simpa using n10] at c10
        rw [show (s[k] == 9) = false by simpa using n9] at c9
        rw [show (s[k] == 13) = false by simpa using n13] at c13
        rw [show (s[k] == 0) = false by simpa using n0] at c0
        rw [show (s[k] == 34) = false by simpa using n34] at c34
        rw [show (s[k] == 92) = false by simpa using n92] at c92
        clear h1 h2 h3 n10 n9 n13 n0 n34 n92 hc'
        go_wp2_with fail
        go_roundw
        case rel => exact ⟨k + 1, by omega, by go_num, by rw [← RES.out _ rfl, HQ.out], HB.out⟩
        case measure => simp [intOf]; omega
    · obtain rfl : k = s.size := by omega
      have HE := Lib.hid (show strL (34 :: qbs (s.data.toList.take s.size)) ++ ⟨#[34]⟩ = strL (quoteM s.data.toList) by
        rw [List.take_of_length_le (by simp), show (⟨#[34]⟩ : ByteArray) = strL [34] from rfl, ← strL_append]
        rfl)
      generalize strL (34 :: qbs (s.data.toList.take s.size)) = O at *
      have q1 : ¬ 9223372036854775807 < O.size + 1 := by omega
      go_wp2_with fail
      go_ret
      exact ⟨ret_str HE.out, HB.out⟩
end Go.Proofs.Ytkbbgnmhfkilgaa
