/- Walk: Piece of package literal. -/
import Derived.Test.YtkbbgnmhfkilgaaLitK
namespace Go.Proofs.Ytkbbgnmhfkilgaa
set_option linter.all false
open Go.RowKit Go.Sort

theorem results_tmp4 {fn : Func} {t u v x : Tmp} (h : fn.results = #[.tmp t, .tmp u, .tmp v, .tmp x]) (tmps : Array Value) (P : Program) (w : World) :
    (results fn tmps).run P w = .ok (.tuple #[tmps.getD t undef, tmps.getD u undef, tmps.getD v undef, tmps.getD x undef]) w := by
  simp [results, h]
/-- what Piece answers -/
def pieceV (r : Red) : Value := .tuple #[.string ⟨r.t.toArray⟩, .int .i64 r.n, .bool r.o, .int .i64 r.e]
theorem pieceV_of {r r' : Red} {t : ByteArray} {n e : Int} {o : Bool} (h : r = r') (ht : t = ⟨r'.t.toArray⟩) (hn : n = r'.n) (ho : o = r'.o) (he : e = r'.e) : Ending.returned (.tuple #[.string t, .int .i64 n, .bool o, .int .i64 e]) = Ending.returned (pieceV r) := by
  subst h ht hn ho he
  rfl
def opens (s : ByteArray) (k : Nat) : Bool := byI s k == 36 && (decide (k + 1 < s.size) && byI s (k + 1) == 123)
theorem byI_drop (s : ByteArray) (k : Nat) (b : UInt8) (hk : k < s.size) : (byI s k == (b.toNat : Int)) = (s[k] == b) := by rw [← byI_at s k hk, u8_eq]
theorem drop_cons (s : ByteArray) (k : Nat) (hk : k < s.size) : s.data.toList.drop k = s[k] :: s.data.toList.drop (k + 1) := by
  rw [List.drop_eq_getElem_cons (by simpa using hk)]
  rfl
theorem hasPrefix_at (s : ByteArray) (k : Nat) (hk : k < s.size) : Lib.hasPrefix (s.data.toList.drop k) [36, 123] = opens s k := by
  unfold Lib.hasPrefix opens
  rw [drop_cons s k hk]
  have e1 := byI_drop s k 36 hk
  rw [show (((36 : UInt8).toNat : Nat) : Int) = 36 from rfl] at e1
  rw [e1]
  by_cases h : k + 1 < s.size
  · rw [drop_cons s (k + 1) h]
    have e2 := byI_drop s (k + 1) 123 h
    rw [show (((123 : UInt8).toNat : Nat) : Int) = 123 from rfl] at e2
    rw [e2]
    simp [List.isPrefixOf, h, Bool.beq_comm]
  · rw [List.drop_eq_nil_of_le (by simp; omega)]
    simp [List.isPrefixOf, h]

theorem pieceGo_end (s : ByteArray) (f k : Nat) (out : List UInt8) (h : ¬ k < s.size) : pieceGo s f k out = redE 8 := by
  cases f
  · rfl
  · rw [pieceGo, if_pos (by omega)]
theorem pieceGo_q (s : ByteArray) (f k : Nat) (out : List UInt8) (h : k < s.size) (hq : (byI s k == 96) = true) : pieceGo s (f + 1) k out = ⟨out, k + 1, false, 0⟩ := by
  rw [pieceGo, if_neg (by omega), if_pos hq]
theorem pieceGo_o (s : ByteArray) (f k : Nat) (out : List UInt8) (h : k < s.size) (hq : (byI s k == 96) = false) (hn : opens s k = true) : pieceGo s (f + 1) k out = ⟨out, k + 2, true, 0⟩ := by
  rw [pieceGo, if_neg (by omega), hq, if_neg (by simp), if_pos (by rw [opens] at hn; exact hn)]
theorem pieceGo_e (s : ByteArray) (f k : Nat) (out : List UInt8) (h : k < s.size) (hq : (byI s k == 96) = false) (hn : opens s k = false) (he : (oneM s k).e ≠ 0) : pieceGo s (f + 1) k out = redE (oneM s k).e := by
  rw [pieceGo, if_neg (by omega), hq, if_neg (by simp), if_neg (by rw [opens] at hn; rw [hn]; simp), if_pos he]
theorem pieceGo_l (s : ByteArray) (f k : Nat) (out : List UInt8) (h : k < s.size) (hq : (byI s k == 96) = false) (hn : opens s k = false) (he : (oneM s k).e = 0) (hl : 65536 ≤ out.length) : pieceGo s (f + 1) k out = redE 9 := by
  rw [pieceGo, if_neg (by omega), hq, if_neg (by simp), if_neg (by rw [opens] at hn; rw [hn]; simp), if_neg (by simpa using he), if_pos hl]
theorem pieceGo_s (s : ByteArray) (f k : Nat) (out : List UInt8) (h : k < s.size) (hq : (byI s k == 96) = false) (hn : opens s k = false) (he : (oneM s k).e = 0) (hl : ¬ 65536 ≤ out.length) :
    pieceGo s (f + 1) k out = pieceGo s f (k + (oneM s k).n.toNat) (push out (oneM s k)) := by
  rw [pieceGo, if_neg (by omega), hq, if_neg (by simp), if_neg (by rw [opens] at hn; rw [hn]; simp), if_neg (by simpa using he), if_neg hl]
theorem own_room {w wr : World} {o : Obj} (h : Below w.heap.size w wr) : w.heap.size ≤ (wr.alloc o).heap.size := (h.alloc h.size o).size

set_option maxRecDepth 100000 in
set_option maxHeartbeats 4000000 in
theorem piece_in (s : ByteArray) (a : Nat) (w : World) (hs : s.size ≤ 1000000000) (ha : a < s.size) (hq : (byI s a != 96 && byI s a != 125) = false) :
    Calls Try.prog 14 #[.string s, .int .i64 a] w fun e w' => e = .returned (pieceV (pieceM s a)) ∧ Below w.heap.size w w' := by
  have hab : (a : Int) ≤ 1000000000 := by omega
  have HM := Lib.hid (show pieceM s a = pieceGo s s.size (a + 1) [] by
    unfold pieceM
    rw [if_neg (by omega)]
    simp only [Int.toNat_natCast, hq]
    rfl)
  have e1 : ((s[a].toNat : Int) != 96 && (s[a].toNat : Int) != 125) = false := by rw [byI_at]; exact hq
  clear hq
  go_enter Try.func14, Try.ntmps14
  go_upto_region 1 with fail
  go_cut [32] (fun x w' => x = .bool false ∧ w = w')
  case first =>
    go_wp2_with fail
    all_goals go_meet
    all_goals go_tidy
    all_goals exact ⟨by simp; omega, rfl⟩
  case rest =>
    obtain ⟨rfl, rfl⟩ := hcut
    go_wp2_with fail
    go_loopw [8, 9] (fun o i wr => ∃ (k f : Nat) (out : List UInt8), i = .int .i64 (k : Int) ∧ k ≤ s.size ∧ s.size ≤ k + f ∧ OwnB wr w.heap.size o out ∧ out.length ≤ 65536 ∧ Below w.heap.size w wr ∧ pieceGo s f k out = pieceM s a) (fun _ i _ => s.size - (intOf i).toNat)
    case atStart => exact ⟨a + 1, s.size, [], by go_num, by omega, by omega, OwnB.nil_ _ _, by simp, Below.refl _ _, HM.out.symm⟩
    case round =>
      obtain ⟨k, f, out, rfl, hk, hf, hown, hl, hb, hR⟩ := hrel
      obtain ⟨A, cp, rfl⟩ := hown.form
      clear HM e1
      have HR := Lib.hid hR
      clear hR
      have OWN := Lib.hid hown
      clear hown
      have HB := Lib.hid hb
      clear hb
      by_cases hlt : k < s.size
      · obtain ⟨f, rfl⟩ : ∃ g, f = g + 1 := ⟨f - 1, by omega⟩
        have hkb : (k : Int) ≤ 1000000000 := by omega
        have ek := Lib.hid (byI_at s k hlt)
        cases t1 : (byI s k == 96)
        · have t1' : ((s[k].toNat : Int) == 96) = false := by rw [ek.out]; exact t1
          have hpre := Lib.hid (fun w => Try.strings_HasPrefix (s.extract k s.size) ⟨#[36, 123]⟩ w)
          have HO := Lib.hid (show Lib.hasPrefix (s.extract k s.size).data.toList (⟨#[36, 123]⟩ : ByteArray).data.toList = opens s k by rw [← hasPrefix_at s k hlt, Lib.extract_to_end])
          cases t2 : opens s k
          · rw [t2] at HO
            obtain ⟨o1, o2, o3, o4⟩ := oneM_ok s k hlt
            have hone0 := fun w => one_any s k w hs (by omega) (by omega)
            simp only [Int.toNat_natCast] at hone0
            have hone := Lib.hid hone0
            clear hone0
            by_cases he : (oneM s k).e = 0
            · by_cases hfull : 65536 ≤ out.length
              · have RES := Lib.hid (HR.out.symm.trans (pieceGo_l s f k out hlt t1 t2 he hfull))
                have e1 : ((oneM s k).e != 0) = false := by simpa using he
                have T1 := Lib.hid t1
                have T2 := Lib.hid t2
                have HE := Lib.hid he
                clear t1 t2 he o3 o4
                generalize oneM s k = o at *
                have HFULL := Lib.hid hfull
                have HL := Lib.hid hl
                clear hfull hl
                go_upto_region 13 with (first | (go_at_call 27; refine (hpre.out _).mono ?_; rintro e w' ⟨rfl, rfl⟩; rw [HO.out]) | (go_at_call 25; refine (hone.out _).mono ?_; rintro e w' ⟨rfl, rfl⟩; unfold oneV))
                go_upto_region 14 with (at_builtin; go_must (refine append_byte rfl _ _ rfl w.heap.size _ out o.v rfl (OWN.out.alloc _) _ 1 rfl (cell_new _ _ _) o1 o2 ?_ ?_ ?_); (next => have := HL.out; omega); (next => exact own_room HB.out); intro A1 cp1 w1 OWN1 HB1)
                have BB := Lib.hid ((bl_al HB.out _).trans HB1)
                clear HB1
                have htest : decide ((65536 : Int) < (out.length : Int) + 1) = true := by have := HFULL.out; simp; omega
                go_wp2_with fail
                ((try simp only [Exit.inBlock, Exit.then]); refine bodyPost_ret (results_tmp4 rfl _ _ _) rfl ?_)
                exact ⟨pieceV_of RES.out rfl rfl rfl rfl, BB.out⟩
              · have RES := Lib.hid (HR.out.symm.trans (pieceGo_s s f k out hlt t1 t2 he hfull))
                have e1 : ((oneM s k).e != 0) = false := by simpa using he
                obtain ⟨o3a, o3b⟩ := o3 he
                obtain ⟨m, hm⟩ := Int.eq_ofNat_of_zero_le (show (0 : Int) ≤ (oneM s k).n by omega)
                have OE := Lib.hid (show (if (oneM s k).e = 0 then ((k : Int) + (oneM s k).n) else 0) = ((k + m : Nat) : Int) by rw [if_pos he, hm]; simp)
                have hm1 : 1 ≤ m := by omega
                have hm2 : k + m ≤ s.size := by omega
                have RES2 := Lib.hid (show pieceGo s f (k + m) (push out (oneM s k)) = pieceM s a by rw [RES.out, hm]; rfl)
                have T1 := Lib.hid t1
                have T2 := Lib.hid t2
                have HE := Lib.hid he
                clear t1 t2 he o3 o4 hm o3a o3b RES
                generalize oneM s k = o at *
                have HFULL := Lib.hid hfull
                have HL := Lib.hid hl
                clear hfull hl
                go_upto_region 13 with (first | (go_at_call 27; refine (hpre.out _).mono ?_; rintro e w' ⟨rfl, rfl⟩; rw [HO.out]) | (go_at_call 25; refine (hone.out _).mono ?_; rintro e w' ⟨rfl, rfl⟩; unfold oneV; rw [OE.out]))
                go_upto_region 14 with (at_builtin; go_must (refine append_byte rfl _ _ rfl w.heap.size _ out o.v rfl (OWN.out.alloc _) _ 1 rfl (cell_new _ _ _) o1 o2 ?_ ?_ ?_); (next => have := HL.out; omega); (next => exact own_room HB.out); intro A1 cp1 w1 OWN1 HB1)
                have BB := Lib.hid ((bl_al HB.out _).trans HB1)
                clear HB1
                have OWN2 := Lib.hid (own_push OWN1)
                clear OWN1
                have htest : decide ((65536 : Int) < (out.length : Int) + 1) = false := by have := HFULL.out; simp; omega
                go_wp2_with fail
                go_roundw
                case rel => exact ⟨k + m, f, push out o, by go_num, hm2, by omega, OWN2.out, by have := HFULL.out; simp [push]; omega, BB.out, RES2.out⟩
                case measure => simp [intOf]; omega
            · have RES := Lib.hid (HR.out.symm.trans (pieceGo_e s f k out hlt t1 t2 he))
              have e1 : ((oneM s k).e != 0) = true := by simpa using he
              have T1 := Lib.hid t1
              have T2 := Lib.hid t2
              have HE := Lib.hid he
              clear t1 t2 he o3 o4
              generalize oneM s k = o at *
              go_wp2_with (first | (go_at_call 27; refine (hpre.out _).mono ?_; rintro e w' ⟨rfl, rfl⟩; rw [HO.out]) | (go_at_call 25; refine (hone.out _).mono ?_; rintro e w' ⟨rfl, rfl⟩; unfold oneV))
              ((try simp only [Exit.inBlock, Exit.then]); refine bodyPost_ret (results_tmp4 rfl _ _ _) rfl ?_)
              exact ⟨pieceV_of RES.out rfl rfl rfl rfl, HB.out⟩
          · rw [t2] at HO
            have RES := Lib.hid (HR.out.symm.trans (pieceGo_o s f k out hlt t1 t2))
            have T1 := Lib.hid t1
            have T2 := Lib.hid t2
            clear t1 t2
            have hconv := bytes_string OWN.out
            go_wp2_with (go_at_call 27; refine (hpre.out _).mono ?_; rintro e w' ⟨rfl, rfl⟩; rw [HO.out])
            ((try simp only [Exit.inBlock, Exit.then]); refine bodyPost_ret (results_tmp4 rfl _ _ _) rfl ?_)
            exact ⟨pieceV_of RES.out rfl rfl rfl rfl, HB.out⟩
        · have RES := Lib.hid (HR.out.symm.trans (pieceGo_q s f k out hlt t1))
          have t1' : ((s[k].toNat : Int) == 96) = true := by rw [ek.out]; exact t1
          have T := Lib.hid t1
          clear t1
          have hconv := bytes_string OWN.out
          go_wp2_with fail
          ((try simp only [Exit.inBlock, Exit.then]); refine bodyPost_ret (results_tmp4 rfl _ _ _) rfl ?_)
          exact ⟨pieceV_of RES.out rfl rfl rfl rfl, HB.out⟩
      · have RES := Lib.hid (HR.out.symm.trans (pieceGo_end s f k out hlt))
        go_wp2_with fail
        ((try simp only [Exit.inBlock, Exit.then]); refine bodyPost_ret (results_tmp4 rfl _ _ _) rfl ?_)
        exact ⟨pieceV_of RES.out rfl rfl rfl rfl, HB.out⟩

set_option maxRecDepth 100000 in
set_option maxHeartbeats 4000000 in
theorem piece_any (s : ByteArray) (a : Int) (w : World) (hs : s.size ≤ 1000000000) :
    Calls Try.prog 14 #[.string s, .int .i64 a] w fun e w' => e = .returned (pieceV (pieceM s a)) ∧ Below w.heap.size w w' := by
  by_cases h0 : a < 0
  · have RES := Lib.hid (show pieceM s a = redE 1 by rw [pieceM, if_pos (.inl h0)])
    go_enter Try.func14, Try.ntmps14
    go_wp2_with fail
    ((try simp only [Exit.inBlock, Exit.then]); refine bodyPost_ret (results_tmp4 rfl _ _ _) rfl ?_)
    exact ⟨pieceV_of RES.out rfl rfl rfl rfl, Below.refl _ _⟩
  obtain ⟨a, rfl⟩ := Int.eq_ofNat_of_zero_le (show 0 ≤ a by omega)
  by_cases ha : a < s.size
  · cases hq : (byI s a != 96 && byI s a != 125)
    · exact piece_in s a w hs ha hq
    · have RES := Lib.hid (show pieceM s a = redE 1 by
        rw [pieceM, if_neg (by omega)]
        simp only [Int.toNat_natCast, hq]
        rfl)
      have e1 : ((s[a].toNat : Int) != 96) = true := by rw [byI_at]; revert hq; cases (byI s a != 96) <;> simp
      have e2 : ((s[a].toNat : Int) != 125) = true := by rw [byI_at]; revert hq; cases (byI s a != 125) <;> simp
      clear hq h0
      have hab : (a : Int) ≤ 1000000000 := by omega
      go_enter Try.func14, Try.ntmps14
      go_wp2_with fail
      ((try simp only [Exit.inBlock, Exit.then]); refine bodyPost_ret (results_tmp4 rfl _ _ _) rfl ?_)
      exact ⟨pieceV_of RES.out rfl rfl rfl rfl, Below.refl _ _⟩
  · have RES := Lib.hid (show pieceM s a = redE 1 by rw [pieceM, if_pos (.inr (by omega))])
    clear h0
    go_enter Try.func14, Try.ntmps14
    go_wp2_with fail
    ((try simp only [Exit.inBlock, Exit.then]); refine bodyPost_ret (results_tmp4 rfl _ _ _) rfl ?_)
    exact ⟨pieceV_of RES.out rfl rfl rfl rfl, Below.refl _ _⟩
end Go.Proofs.Ytkbbgnmhfkilgaa
