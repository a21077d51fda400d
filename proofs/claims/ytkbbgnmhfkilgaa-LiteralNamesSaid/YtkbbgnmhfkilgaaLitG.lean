/- Walk: Read of the reference of package literal. -/
import Derived.Test.YtkbbgnmhfkilgaaLitF
namespace Go.Proofs.Ytkbbgnmhfkilgaa
set_option linter.all false
open Go.RowKit Go.Sort

theorem oneM_esc (s : ByteArray) (k : Nat) (h : (byI s k == 92) = true) : oneM s k = escM s k := by rw [oneM, if_pos h]
theorem oneM_one (s : ByteArray) (k : Nat) (h : (byI s k == 92) = false) : oneM s k = ⟨byI s k, 1, 0⟩ := by rw [oneM, if_neg (by simp [h])]
theorem own_push {w : World} {B : Nat} {A : Option Addr} {cap : Nat} {out : List UInt8} {o : One} (h : OwnB w B (.slice A (out ++ [UInt8.ofNat o.v.toNat]).length cap) (out ++ [UInt8.ofNat o.v.toNat])) : OwnB w B (.slice A (out.length + 1) cap) (push out o) := by
  rw [List.length_append, List.length_singleton] at h
  exact h

set_option maxRecDepth 100000 in
set_option maxHeartbeats 4000000 in
theorem rread_in (s : ByteArray) (a : Nat) (w : World) (hs : s.size ≤ 1000000000) (ha : a < s.size) (hq : (byI s a != 39 && byI s a != 34) = false) :
    Calls Try.prog 13 #[.string s, .int .i64 a] w fun e w' => e = .returned (readV (readM s a)) ∧ Below w.heap.size w w' := by
  have hab : (a : Int) ≤ 1000000000 := by omega
  have HM := Lib.hid (show readM s a = readGo s (byI s a) s.size (a + 1) [] by
    unfold readM
    rw [if_neg (by omega)]
    simp only [Int.toNat_natCast]
    rw [if_neg (by rw [Bool.and_comm, hq]; simp)])
  have e1 : ((s[a].toNat : Int) != 39 && (s[a].toNat : Int) != 34) = false := by rw [byI_at]; exact hq
  have ea := Lib.hid (byI_at s a ha)
  generalize byI s a = q at HM hq ea
  clear hq
  go_enter Try.func13, Try.ntmps13
  go_upto_region 1 with fail
  go_cut [33] (fun x w' => x = .bool false ∧ w = w')
  case first =>
    go_wp2_with fail
    all_goals go_meet
    all_goals go_tidy
    all_goals exact ⟨by simp; omega, rfl⟩
  case rest =>
    obtain ⟨rfl, rfl⟩ := hcut
    go_wp2_with fail
    go_loopw [7, 8] (fun o i wr => ∃ (k f : Nat) (out : List UInt8), i = .int .i64 (k : Int) ∧ k ≤ s.size ∧ s.size ≤ k + f ∧ OwnB wr w.heap.size o out ∧ out.length ≤ 65536 ∧ Below w.heap.size w wr ∧ readGo s q f k out = readM s a) (fun _ i _ => s.size - (intOf i).toNat)
    case atStart => exact ⟨a + 1, s.size, [], by go_num, by omega, by omega, OwnB.nil_ _ _, by simp, Below.refl _ _, HM.out.symm⟩
    case round =>
      obtain ⟨k, f, out, rfl, hk, hf, hown, hl, hb, hR⟩ := hrel
      obtain ⟨A, cp, rfl⟩ := hown.form
      clear HM e1
      have HR := Lib.hid hR
      clear hR
      have OWN := Lib.hid hown
      clear hown
      have HB := Lib.hid hb
      clear hb
      have HL := Lib.hid hl
      clear hl
      by_cases hlt : k < s.size
      · obtain ⟨f, rfl⟩ : ∃ g, f = g + 1 := ⟨f - 1, by omega⟩
        have ek := Lib.hid (byI_at s k hlt)
        cases t1 : (byI s k == q)
        · have t1' : ((s[k].toNat : Int) == (s[a].toNat : Int)) = false := by rw [ek.out, ea.out]; exact t1
          cases t2 : (byI s k == 10 || byI s k == 13)
          · have t2' : ((s[k].toNat : Int) == 10 || (s[k].toNat : Int) == 13) = false := by rw [ek.out]; exact t2
            obtain ⟨o1, o2, o3, o4⟩ := oneM_ok s k hlt
            have h10 : ((s[k].toNat : Int) == 10) = false := by cases h : ((s[k].toNat : Int) == 10) <;> simp_all
            have h13 : ((s[k].toNat : Int) == 13) = false := by cases h : ((s[k].toNat : Int) == 13) <;> simp_all
            clear t2'
            by_cases he : (oneM s k).e = 0
            · have e1 : ((oneM s k).e != 0) = false := by simpa using he
              obtain ⟨o3a, o3b⟩ := o3 he
              obtain ⟨m, hm⟩ := Int.eq_ofNat_of_zero_le (show (0 : Int) ≤ (oneM s k).n by omega)
              have hm1 : 1 ≤ m := by omega
              have hm2 : k + m ≤ s.size := by omega
              have hm3 : (k : Int) + m ≤ 1000000000 := by omega
              by_cases hfull : 65536 ≤ out.length
              · have RES := Lib.hid (HR.out.symm.trans (readGo_l s q f k out hlt t1 t2 he hfull))
                have htest : ((out.length : Int) == 65536) = true := by have := HL.out; rw [beq_iff_eq]; omega
                have HFULL := Lib.hid hfull
                have T1 := Lib.hid t1
                have T2 := Lib.hid t2
                have HE := Lib.hid he
                clear hfull t1 t2 he o3 o4 o3a o3b
                cases t92 : (byI s k == 92)
                · have t92' : ((s[k].toNat : Int) == 92) = false := by rw [ek.out]; exact t92
                  clear t92
                  go_wp2_with ((first | (with_reducible refine wp_quiet_gr Try.mixed ?_ ?_) | (with_reducible refine wp_quiet_any Try.mixed ?_ ?_)); (next => kernel_rfl); (repeat (quiet_step (fail))); refine wpQuiet_nil ?_; intro pq)
                  go_ret3
                  exact ⟨readV_of RES.out rfl rfl rfl, bl_gr HB.out _⟩
                · have t92' : ((s[k].toNat : Int) == 92) = true := by rw [ek.out]; exact t92
                  have hone0 := fun w => rone_any s k w hs (by omega) (by omega)
                  simp only [Int.toNat_natCast] at hone0
                  rw [← oneM_esc s k t92] at hone0
                  have hone := Lib.hid hone0
                  clear hone0 t92
                  generalize oneM s k = o at *
                  go_wp2_with (first | (((first | (with_reducible refine wp_quiet_gr Try.mixed ?_ ?_) | (with_reducible refine wp_quiet_any Try.mixed ?_ ?_)); (next => kernel_rfl); (repeat (quiet_step (fail))); refine wpQuiet_nil ?_; intro pq)) | (go_at_call 26; refine (hone.out _).mono ?_; rintro e w' ⟨rfl, rfl⟩; unfold refV))
                  go_ret3
                  exact ⟨readV_of RES.out rfl rfl rfl, bl_gr HB.out _⟩
              · have RES := Lib.hid (show readGo s q f (k + m) (push out (oneM s k)) = readM s a by rw [HR.out.symm.trans (readGo_s s q f k out hlt t1 t2 he hfull), hm]; rfl)
                have htest : ((out.length : Int) == 65536) = false := by rw [beq_eq_false_iff_ne]; omega
                have HFULL := Lib.hid hfull
                have T1 := Lib.hid t1
                have T2 := Lib.hid t2
                have HE := Lib.hid he
                have HMM := Lib.hid hm
                clear hfull t1 t2 he o3 o4 o3a o3b hm
                cases t92 : (byI s k == 92)
                · have t92' : ((s[k].toNat : Int) == 92) = false := by rw [ek.out]; exact t92
                  have HO := Lib.hid (oneM_one s k t92)
                  clear t92
                  have hv := Lib.hid (show ((s[k]'hlt).toNat : Int) = (oneM s k).v by rw [HO.out]; exact ek.out)
                  have c1 : (0 : Int) ≤ ((s[k]'hlt).toNat : Int) := by rw [hv.out]; exact o1
                  have c2 : ((s[k]'hlt).toNat : Int) < 256 := by rw [hv.out]; exact o2
                  have hm' : m = 1 := by
                    have h1 := HMM.out
                    rw [HO.out] at h1
                    have h2 : (1 : Int) = m := h1
                    omega
                  subst hm'
                  have HM2 := Lib.hid hm2
                  clear hm1 hm2 hm3
                  have hk1 : (k : Int) ≤ 1000000000 := by omega
                  go_upto_region 20 with ((first | (with_reducible refine wp_quiet_gr Try.mixed ?_ ?_) | (with_reducible refine wp_quiet_any Try.mixed ?_ ?_)); (next => kernel_rfl); (repeat (quiet_step (fail))); refine wpQuiet_nil ?_; intro pq)
                  go_upto_region 21 with (at_builtin; go_must (refine append_byte rfl _ _ rfl w.heap.size _ out ((s[k]'hlt).toNat : Int) rfl ((OWN.out.gr pq).alloc _) _ 1 rfl (cell_new_gr _ _ _ _) c1 c2 ?_ ?_ ?_); (next => have := HL.out; omega); (next => exact ownB_room HB.out); intro A1 cp1 w1 OWN1 HB1)
                  rw [hv.out] at OWN1
                  have BB := Lib.hid ((bl_al (bl_gr HB.out pq) _).trans HB1)
                  clear HB1
                  have OWN2 := Lib.hid (own_push OWN1)
                  clear OWN1
                  go_wp2_with fail
                  go_roundw
                  case rel => exact ⟨k + 1, f, push out (oneM s k), by go_num, HM2.out, by omega, OWN2.out, by have := HFULL.out; simp [push]; omega, BB.out, RES.out⟩
                  case measure => simp [intOf]; omega
                · have t92' : ((s[k].toNat : Int) == 92) = true := by rw [ek.out]; exact t92
                  have hone0 := fun w => rone_any s k w hs (by omega) (by omega)
                  simp only [Int.toNat_natCast] at hone0
                  rw [← oneM_esc s k t92] at hone0
                  have hone := Lib.hid hone0
                  clear hone0 t92
                  generalize oneM s k = o at *
                  go_upto_region 20 with (first | (((first | (with_reducible refine wp_quiet_gr Try.mixed ?_ ?_) | (with_reducible refine wp_quiet_any Try.mixed ?_ ?_)); (next => kernel_rfl); (repeat (quiet_step (fail))); refine wpQuiet_nil ?_; intro pq)) | (go_at_call 26; refine (hone.out _).mono ?_; rintro e w' ⟨rfl, rfl⟩; unfold refV; rw [HMM.out]))
                  go_upto_region 21 with (at_builtin; go_must (refine append_byte rfl _ _ rfl w.heap.size _ out o.v rfl ((OWN.out.gr pq).alloc _) _ 1 rfl (cell_new_gr _ _ _ _) o1 o2 ?_ ?_ ?_); (next => have := HL.out; omega); (next => exact ownB_room HB.out); intro A1 cp1 w1 OWN1 HB1)
                  have BB := Lib.hid ((bl_al (bl_gr HB.out pq) _).trans HB1)
                  clear HB1
                  have OWN2 := Lib.hid (own_push OWN1)
                  clear OWN1
                  go_wp2_with fail
                  go_roundw
                  case rel => exact ⟨k + m, f, push out o, by go_num, hm2, by omega, OWN2.out, by have := HFULL.out; simp [push]; omega, BB.out, RES.out⟩
                  case measure => simp [intOf]; omega
            · have RES := Lib.hid (HR.out.symm.trans (readGo_e s q f k out hlt t1 t2 he))
              have e1 : ((oneM s k).e != 0) = true := by simpa using he
              have t92 : (byI s k == 92) = true := by
                cases h : (byI s k == 92)
                · rw [oneM_one s k h] at he
                  exact absurd rfl he
                · rfl
              have t92' : ((s[k].toNat : Int) == 92) = true := by rw [ek.out]; exact t92
              have hone0 := fun w => rone_any s k w hs (by omega) (by omega)
              simp only [Int.toNat_natCast] at hone0
              rw [← oneM_esc s k t92] at hone0
              have hone := Lib.hid hone0
              have T1 := Lib.hid t1
              have T2 := Lib.hid t2
              have HE := Lib.hid he
              clear t1 t2 he o3 o4 t92 hone0
              generalize oneM s k = o at *
              go_wp2_with (first | (((first | (with_reducible refine wp_quiet_gr Try.mixed ?_ ?_) | (with_reducible refine wp_quiet_any Try.mixed ?_ ?_)); (next => kernel_rfl); (repeat (quiet_step (fail))); refine wpQuiet_nil ?_; intro pq)) | (go_at_call 26; refine (hone.out _).mono ?_; rintro e w' ⟨rfl, rfl⟩; unfold refV))
              go_ret3
              exact ⟨readV_of RES.out rfl rfl rfl, bl_gr HB.out _⟩
          · have RES := Lib.hid (HR.out.symm.trans (readGo_nl s q f k out hlt t1 t2))
            have hg : ((s[k].toNat : Int) == 10) = true ∨ ((s[k].toNat : Int) == 10) = false ∧ ((s[k].toNat : Int) == 13) = true := by
              rw [ek.out]; revert t2; cases (byI s k == 10) <;> simp
            have T1 := Lib.hid t1
            have T2 := Lib.hid t2
            clear t1 t2
            rcases hg with h10 | ⟨h10, h13⟩
            all_goals
              go_wp2_with ((first | (with_reducible refine wp_quiet_gr Try.mixed ?_ ?_) | (with_reducible refine wp_quiet_any Try.mixed ?_ ?_)); (next => kernel_rfl); (repeat (quiet_step (fail))); refine wpQuiet_nil ?_; intro pq)
              go_ret3
              exact ⟨readV_of RES.out rfl rfl rfl, bl_gr HB.out _⟩
        · have RES := Lib.hid (HR.out.symm.trans (readGo_q s q f k out hlt t1))
          have t1' : ((s[k].toNat : Int) == (s[a].toNat : Int)) = true := by rw [ek.out, ea.out]; exact t1
          have T := Lib.hid t1
          clear t1
          go_upto_region 8 with ((first | (with_reducible refine wp_quiet_gr Try.mixed ?_ ?_) | (with_reducible refine wp_quiet_any Try.mixed ?_ ?_)); (next => kernel_rfl); (repeat (quiet_step (fail))); refine wpQuiet_nil ?_; intro pq)
          have hconv := bytes_string (OWN.out.gr pq)
          go_wp2_with fail
          go_ret3
          exact ⟨readV_of RES.out rfl rfl rfl, bl_gr HB.out _⟩
      · have RES := Lib.hid (HR.out.symm.trans (readGo_end s q f k out hlt))
        go_wp2_with fail
        go_ret3
        exact ⟨readV_of RES.out rfl rfl rfl, HB.out⟩

set_option maxRecDepth 100000 in
set_option maxHeartbeats 4000000 in
theorem rread_any (s : ByteArray) (a : Int) (w : World) (hs : s.size ≤ 1000000000) :
    Calls Try.prog 13 #[.string s, .int .i64 a] w fun e w' => e = .returned (readV (readM s a)) ∧ Below w.heap.size w w' := by
  by_cases h0 : a < 0
  · have RES := Lib.hid (show readM s a = redE 1 by rw [readM, if_pos (.inl h0)])
    go_enter Try.func13, Try.ntmps13
    go_wp2_with fail
    go_ret3
    exact ⟨readV_of RES.out rfl rfl rfl, Below.refl _ _⟩
  obtain ⟨a, rfl⟩ := Int.eq_ofNat_of_zero_le (show 0 ≤ a by omega)
  by_cases ha : a < s.size
  · cases hq : (byI s a != 39 && byI s a != 34)
    · exact rread_in s a w hs ha hq
    · have RES := Lib.hid (show readM s a = redE 1 by
        rw [readM, if_neg (by omega)]
        simp only [Int.toNat_natCast]
        rw [Bool.and_comm, hq]
        rfl)
      have e1 : ((s[a].toNat : Int) != 34) = true := by rw [byI_at]; revert hq; cases (byI s a != 34) <;> simp
      have e2 : ((s[a].toNat : Int) != 39) = true := by rw [byI_at]; revert hq; cases (byI s a != 39) <;> simp
      clear hq h0
      have hab : (a : Int) ≤ 1000000000 := by omega
      go_enter Try.func13, Try.ntmps13
      go_wp2_with fail
      go_ret3
      exact ⟨readV_of RES.out rfl rfl rfl, Below.refl _ _⟩
  · have RES := Lib.hid (show readM s a = redE 1 by rw [readM, if_pos (.inr (by omega))])
    clear h0
    go_enter Try.func13, Try.ntmps13
    go_wp2_with fail
    go_ret3
    exact ⟨readV_of RES.out rfl rfl rfl, Below.refl _ _⟩
end Go.Proofs.Ytkbbgnmhfkilgaa
