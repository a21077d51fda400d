/- Walk: Piece of the reference of package literal. -/
import Derived.Test.YtkbbgnmhfkilgaaLitL
namespace Go.Proofs.Ytkbbgnmhfkilgaa
set_option linter.all false
open Go.RowKit Go.Sort

set_option maxRecDepth 100000 in
set_option maxHeartbeats 4000000 in
theorem rpiece_in (s : ByteArray) (a : Nat) (w : World) (hs : s.size ≤ 1000000000) (ha : a < s.size) (hq : (byI s a != 96 && byI s a != 125) = false) :
    Calls Try.prog 15 #[.string s, .int .i64 a] w fun e w' => e = .returned (pieceV (pieceM s a)) ∧ Below w.heap.size w w' := by
  have hab : (a : Int) ≤ 1000000000 := by omega
  have HM := Lib.hid (show pieceM s a = pieceGo s s.size (a + 1) [] by
    unfold pieceM
    rw [if_neg (by omega)]
    simp only [Int.toNat_natCast]
    rw [if_neg (by rw [hq]; simp)])
  have e1 : ((s[a].toNat : Int) != 96 && (s[a].toNat : Int) != 125) = false := by rw [byI_at]; exact hq
  clear hq
  go_enter Try.func15, Try.ntmps15
  go_upto_region 1 with fail
  go_cut [34] (fun x w' => x = .bool false ∧ w = w')
  case first =>
    go_wp2_with fail
    all_goals go_meet
    all_goals go_tidy
    all_goals exact ⟨by simp; omega, rfl⟩
  case rest =>
    obtain ⟨rfl, rfl⟩ := hcut
    go_wp2_with fail
    go_loopw [8, 9] (fun o i wr => ∃ (k f : Nat) (out : List UInt8), i = .int .i64 (k : Int) ∧ k ≤ s.size ∧ s.size ≤ k + f ∧ OwnB wr w.heap.size o out ∧ out.length ≤ 65536 ∧ Below w.heap.size w wr ∧ pieceGo s f k out = pieceM s a) (fun _ i _ => s.size - (intOf i).toNat)
    case atStart => exact ⟨a + 1, s.size, [], by go_num, by omega, by omega, OwnB.nil_ _ _, by simp, Below.refl _ _, HM.out.symm⟩
    case round =>
      obtain ⟨k, f, out, rfl, hk, hf, hown, hl, hb, hR⟩ := hrel
      obtain ⟨A, cp, rfl⟩ := hown.form
      clear HM e1
      have HR := Lib.hid hR
      clear hR
      have OWN := Lib.hid hown
      clear hown
      have HB := Lib.hid hb
      clear hb
      have HL := Lib.hid hl
      clear hl
      by_cases hlt : k < s.size
      · obtain ⟨f, rfl⟩ : ∃ g, f = g + 1 := ⟨f - 1, by omega⟩
        have hkb : (k : Int) ≤ 1000000000 := by omega
        have ek := Lib.hid (byI_at s k hlt)
        cases t1 : (byI s k == 96)
        · have t1' : ((s[k].toNat : Int) == 96) = false := by rw [ek.out]; exact t1
          go_upto_region 9 with fail
          go_cut [66] (fun x w' => x = .bool (opens s k) ∧ wr = w')
          case first =>
            by_cases hn : k + 1 < s.size
            · have HOP := Lib.hid (show opens s k = (((s[k].toNat : Int) == 36) && (true && ((s[k + 1].toNat : Int) == 123))) by rw [opens, byI_at s k hlt, byI_at s (k + 1) hn, decide_eq_true hn])
              go_wp2_with fail
              all_goals go_meet
              all_goals go_tidy
              all_goals exact ⟨by rw [HOP.out]; simp [*], rfl⟩
            · have HOP := Lib.hid (show opens s k = (((s[k].toNat : Int) == 36) && (false && byI s (k + 1) == 123)) by rw [opens, byI_at s k hlt, decide_eq_false hn])
              go_wp2_with fail
              all_goals go_meet
              all_goals go_tidy
              all_goals exact ⟨by rw [HOP.out]; simp [*], rfl⟩
          case rest =>
            obtain ⟨rfl, rfl⟩ := hcut
            cases t2 : opens s k
            · have T2B := Lib.hid t2
              obtain ⟨o1, o2, o3, o4⟩ := oneM_ok s k hlt
              by_cases he : (oneM s k).e = 0
              · have e1 : ((oneM s k).e != 0) = false := by simpa using he
                obtain ⟨o3a, o3b⟩ := o3 he
                obtain ⟨m, hm⟩ := Int.eq_ofNat_of_zero_le (show (0 : Int) ≤ (oneM s k).n by omega)
                have hm1 : 1 ≤ m := by omega
                have hm2 : k + m ≤ s.size := by omega
                have hm3 : (k : Int) + m ≤ 1000000000 := by omega
                by_cases hfull : 65536 ≤ out.length
                · have RES := Lib.hid (HR.out.symm.trans (pieceGo_l s f k out hlt t1 t2 he hfull))
                  have htest : ((out.length : Int) == 65536) = true := by have := HL.out; rw [beq_iff_eq]; omega
                  have HFULL := Lib.hid hfull
                  have T1 := Lib.hid t1
                  have T2 := Lib.hid t2
                  have HE := Lib.hid he
                  clear hfull t1 t2 he o3 o4 o3a o3b
                  cases t92 : (byI s k == 92)
                  · have t92' : ((s[k].toNat : Int) == 92) = false := by rw [ek.out]; exact t92
                    clear t92
                    go_wp2_with fail
                    ((try simp only [Exit.inBlock, Exit.then]); refine bodyPost_ret (results_tmp4 rfl _ _ _) rfl ?_)
                    exact ⟨pieceV_of RES.out rfl rfl rfl rfl, HB.out⟩
                  · have t92' : ((s[k].toNat : Int) == 92) = true := by rw [ek.out]; exact t92
                    have hone0 := fun w => rone_any s k w hs (by omega) (by omega)
                    simp only [Int.toNat_natCast] at hone0
                    rw [← oneM_esc s k t92] at hone0
                    have hone := Lib.hid hone0
                    clear hone0 t92
                    generalize oneM s k = o at *
                    go_wp2_with (go_at_call 26; refine (hone.out _).mono ?_; rintro e w' ⟨rfl, rfl⟩; unfold refV)
                    ((try simp only [Exit.inBlock, Exit.then]); refine bodyPost_ret (results_tmp4 rfl _ _ _) rfl ?_)
                    exact ⟨pieceV_of RES.out rfl rfl rfl rfl, HB.out⟩
                · have RES := Lib.hid (show pieceGo s f (k + m) (push out (oneM s k)) = pieceM s a by rw [HR.out.symm.trans (pieceGo_s s f k out hlt t1 t2 he hfull), hm]; rfl)
                  have htest : ((out.length : Int) == 65536) = false := by rw [beq_eq_false_iff_ne]; omega
                  have HFULL := Lib.hid hfull
                  have T1 := Lib.hid t1
                  have T2 := Lib.hid t2
                  have HE := Lib.hid he
                  have HMM := Lib.hid hm
                  clear hfull t1 t2 he o3 o4 o3a o3b hm
                  cases t92 : (byI s k == 92)
                  · have t92' : ((s[k].toNat : Int) == 92) = false := by rw [ek.out]; exact t92
                    have HO := Lib.hid (oneM_one s k t92)
                    clear t92
                    have hv := Lib.hid (show ((s[k]'hlt).toNat : Int) = (oneM s k).v by rw [HO.out]; exact ek.out)
                    have c1 : (0 : Int) ≤ ((s[k]'hlt).toNat : Int) := by rw [hv.out]; exact o1
                    have c2 : ((s[k]'hlt).toNat : Int) < 256 := by rw [hv.out]; exact o2
                    have hm' : m = 1 := by
                      have h1 := HMM.out
                      rw [HO.out] at h1
                      have h2 : (1 : Int) = m := h1
                      omega
                    subst hm'
                    have HM2 := Lib.hid hm2
                    clear hm1 hm2 hm3
                    have hk1 : (k : Int) ≤ 1000000000 := by omega
                    go_upto_region 20 with fail
                    go_upto_region 21 with (at_builtin; go_must (refine append_byte rfl _ _ rfl w.heap.size _ out ((s[k]'hlt).toNat : Int) rfl (OWN.out.alloc _) _ 1 rfl (cell_new _ _ _) c1 c2 ?_ ?_ ?_); (next => have := HL.out; omega); (next => exact own_room HB.out); intro A1 cp1 w1 OWN1 HB1)
                    rw [hv.out] at OWN1
                    have BB := Lib.hid ((bl_al HB.out _).trans HB1)
                    clear HB1
                    have OWN2 := Lib.hid (own_push OWN1)
                    clear OWN1
                    go_wp2_with fail
                    go_roundw
                    case rel => exact ⟨k + 1, f, push out (oneM s k), by go_num, HM2.out, by omega, OWN2.out, by have := HFULL.out; simp [push]; omega, BB.out, RES.out⟩
                    case measure => simp [intOf]; omega
                  · have t92' : ((s[k].toNat : Int) == 92) = true := by rw [ek.out]; exact t92
                    have hone0 := fun w => rone_any s k w hs (by omega) (by omega)
                    simp only [Int.toNat_natCast] at hone0
                    rw [← oneM_esc s k t92] at hone0
                    have hone := Lib.hid hone0
                    clear hone0 t92
                    generalize oneM s k = o at *
                    go_upto_region 20 with (go_at_call 26; refine (hone.out _).mono ?_; rintro e w' ⟨rfl, rfl⟩; unfold refV; rw [HMM.out])
                    go_upto_region 21 with (at_builtin; go_must (refine append_byte rfl _ _ rfl w.heap.size _ out o.v rfl (OWN.out.alloc _) _ 1 rfl (cell_new _ _ _) o1 o2 ?_ ?_ ?_); (next => have := HL.out; omega); (next => exact own_room HB.out); intro A1 cp1 w1 OWN1 HB1)
                    have BB := Lib.hid ((bl_al HB.out _).trans HB1)
                    clear HB1
                    have OWN2 := Lib.hid (own_push OWN1)
                    clear OWN1
                    go_wp2_with fail
                    go_roundw
                    case rel => exact ⟨k + m, f, push out o, by go_num, hm2, by omega, OWN2.out, by have := HFULL.out; simp [push]; omega, BB.out, RES.out⟩
                    case measure => simp [intOf]; omega
              · have RES := Lib.hid (HR.out.symm.trans (pieceGo_e s f k out hlt t1 t2 he))
                have e1 : ((oneM s k).e != 0) = true := by simpa using he
                have t92 : (byI s k == 92) = true := by
                  cases h : (byI s k == 92)
                  · rw [oneM_one s k h] at he
                    exact absurd rfl he
                  · rfl
                have t92' : ((s[k].toNat : Int) == 92) = true := by rw [ek.out]; exact t92
                have hone0 := fun w => rone_any s k w hs (by omega) (by omega)
                simp only [Int.toNat_natCast] at hone0
                rw [← oneM_esc s k t92] at hone0
                have hone := Lib.hid hone0
                have T1 := Lib.hid t1
                have T2 := Lib.hid t2
                have HE := Lib.hid he
                clear t1 t2 he o3 o4 t92 hone0
                generalize oneM s k = o at *
                go_wp2_with (go_at_call 26; refine (hone.out _).mono ?_; rintro e w' ⟨rfl, rfl⟩; unfold refV)
                ((try simp only [Exit.inBlock, Exit.then]); refine bodyPost_ret (results_tmp4 rfl _ _ _) rfl ?_)
                exact ⟨pieceV_of RES.out rfl rfl rfl rfl, HB.out⟩
            · have RES := Lib.hid (HR.out.symm.trans (pieceGo_o s f k out hlt t1 t2))
              have T1 := Lib.hid t1
              have T2 := Lib.hid t2
              clear t1 t2
              have hconv := bytes_string OWN.out
              go_wp2_with fail
              ((try simp only [Exit.inBlock, Exit.then]); refine bodyPost_ret (results_tmp4 rfl _ _ _) rfl ?_)
              exact ⟨pieceV_of RES.out rfl rfl rfl rfl, HB.out⟩
        · have RES := Lib.hid (HR.out.symm.trans (pieceGo_q s f k out hlt t1))
          have t1' : ((s[k].toNat : Int) == 96) = true := by rw [ek.out]; exact t1
          have T := Lib.hid t1
          clear t1
          go_upto_region 8 with fail
          have hconv := bytes_string OWN.out
          go_wp2_with fail
          ((try simp only [Exit.inBlock, Exit.then]); refine bodyPost_ret (results_tmp4 rfl _ _ _) rfl ?_)
          exact ⟨pieceV_of RES.out rfl rfl rfl rfl, HB.out⟩
      · have RES := Lib.hid (HR.out.symm.trans (pieceGo_end s f k out hlt))
        go_wp2_with fail
        ((try simp only [Exit.inBlock, Exit.then]); refine bodyPost_ret (results_tmp4 rfl _ _ _) rfl ?_)
        exact ⟨pieceV_of RES.out rfl rfl rfl rfl, HB.out⟩

set_option maxRecDepth 100000 in
set_option maxHeartbeats 4000000 in
theorem rpiece_any (s : ByteArray) (a : Int) (w : World) (hs : s.size ≤ 1000000000) :
    Calls Try.prog 15 #[.string s, .int .i64 a] w fun e w' => e = .returned (pieceV (pieceM s a)) ∧ Below w.heap.size w w' := by
  by_cases h0 : a < 0
  · have RES := Lib.hid (show pieceM s a = redE 1 by rw [pieceM, if_pos (.inl h0)])
    go_enter Try.func15, Try.ntmps15
    go_wp2_with fail
    ((try simp only [Exit.inBlock, Exit.then]); refine bodyPost_ret (results_tmp4 rfl _ _ _) rfl ?_)
    exact ⟨pieceV_of RES.out rfl rfl rfl rfl, Below.refl _ _⟩
  obtain ⟨a, rfl⟩ := Int.eq_ofNat_of_zero_le (show 0 ≤ a by omega)
  by_cases ha : a < s.size
  · cases hq : (byI s a != 96 && byI s a != 125)
    · exact rpiece_in s a w hs ha hq
    · have RES := Lib.hid (show pieceM s a = redE 1 by
        rw [pieceM, if_neg (by omega)]
        simp only [Int.toNat_natCast]
        rw [hq]
        rfl)
      have e1 : ((s[a].toNat : Int) != 96) = true := by rw [byI_at]; revert hq; cases (byI s a != 96) <;> simp
      have e2 : ((s[a].toNat : Int) != 125) = true := by rw [byI_at]; revert hq; cases (byI s a != 125) <;> simp
      clear hq h0
      have hab : (a : Int) ≤ 1000000000 := by omega
      go_enter Try.func15, Try.ntmps15
      go_wp2_with fail
      ((try simp only [Exit.inBlock, Exit.then]); refine bodyPost_ret (results_tmp4 rfl _ _ _) rfl ?_)
      exact ⟨pieceV_of RES.out rfl rfl rfl rfl, Below.refl _ _⟩
  · have RES := Lib.hid (show pieceM s a = redE 1 by rw [pieceM, if_pos (.inr (by omega))])
    clear h0
    go_enter Try.func15, Try.ntmps15
    go_wp2_with fail
    ((try simp only [Exit.inBlock, Exit.then]); refine bodyPost_ret (results_tmp4 rfl _ _ _) rfl ?_)
    exact ⟨pieceV_of RES.out rfl rfl rfl rfl, Below.refl _ _⟩
end Go.Proofs.Ytkbbgnmhfkilgaa
