/- Walk: Read of package literal. -/
import Derived.Test.YtkbbgnmhfkilgaaLitE
import Derived.Deep.RegionWith
import Derived.Deep.DeepCutAuto
import Derived.Deep.DeepMust
namespace Go.Proofs.Ytkbbgnmhfkilgaa
set_option linter.all false
open Go.RowKit Go.Sort

theorem cell_new (w : World) (v : Value) (t : TypeId) : (w.alloc (.cells #[v] t)).cell? ⟨w.heap.size, 0, none⟩ = some v := World.cell?_alloc_mark w #[v] t (0, 0) 0
theorem cell_new_gr (w : World) (p : Regrown) (v : Value) (t : TypeId) : ((gr w p).alloc (.cells #[v] t)).cell? ⟨w.heap.size + p.os.size, 0, none⟩ = some v := by rw [← gr_size]; exact cell_new _ _ _
theorem ownB_room {w wr : World} {p : Regrown} {o : Obj} (h : Below w.heap.size w wr) : w.heap.size ≤ ((gr wr p).alloc o).heap.size := ((bl_gr h p).alloc (bl_gr h p).size o).size
/-- what Read answers -/
def readV (r : Red) : Value := .tuple #[.string ⟨r.t.toArray⟩, .int .i64 r.n, .int .i64 r.e]
theorem readV_of {r r' : Red} {t : ByteArray} {n e : Int} (h : r = r') (ht : t = ⟨r'.t.toArray⟩) (hn : n = r'.n) (he : e = r'.e) : Ending.returned (.tuple #[.string t, .int .i64 n, .int .i64 e]) = Ending.returned (readV r) := by
  subst h ht hn he
  rfl
theorem readGo_end (s : ByteArray) (q : Int) (f k : Nat) (out : List UInt8) (h : ¬ k < s.size) : readGo s q f k out = redE 8 := by
  cases f
  · rfl
  · rw [readGo, if_pos (by omega)]
theorem readGo_q (s : ByteArray) (q : Int) (f k : Nat) (out : List UInt8) (h : k < s.size) (hq : (byI s k == q) = true) : readGo s q (f + 1) k out = ⟨out, k + 1, false, 0⟩ := by
  rw [readGo, if_neg (by omega), if_pos hq]
theorem readGo_nl (s : ByteArray) (q : Int) (f k : Nat) (out : List UInt8) (h : k < s.size) (hq : (byI s k == q) = false) (hn : (byI s k == 10 || byI s k == 13) = true) : readGo s q (f + 1) k out = redE 22 := by
  rw [readGo, if_neg (by omega), hq, if_neg (by simp), if_pos hn]
theorem readGo_e (s : ByteArray) (q : Int) (f k : Nat) (out : List UInt8) (h : k < s.size) (hq : (byI s k == q) = false) (hn : (byI s k == 10 || byI s k == 13) = false) (he : (oneM s k).e ≠ 0) : readGo s q (f + 1) k out = redE (oneM s k).e := by
  rw [readGo, if_neg (by omega), hq, hn, if_neg (by simp), if_neg (by simp), if_pos he]
theorem readGo_l (s : ByteArray) (q : Int) (f k : Nat) (out : List UInt8) (h : k < s.size) (hq : (byI s k == q) = false) (hn : (byI s k == 10 || byI s k == 13) = false) (he : (oneM s k).e = 0) (hl : 65536 ≤ out.length) : readGo s q (f + 1) k out = redE 9 := by
  rw [readGo, if_neg (by omega), hq, hn, if_neg (by simp), if_neg (by simp), if_neg (by simpa using he), if_pos hl]
theorem readGo_s (s : ByteArray) (q : Int) (f k : Nat) (out : List UInt8) (h : k < s.size) (hq : (byI s k == q) = false) (hn : (byI s k == 10 || byI s k == 13) = false) (he : (oneM s k).e = 0) (hl : ¬ 65536 ≤ out.length) :
    readGo s q (f + 1) k out = readGo s q f (k + (oneM s k).n.toNat) (push out (oneM s k)) := by
  rw [readGo, if_neg (by omega), hq, hn, if_neg (by simp), if_neg (by simp), if_neg (by simpa using he), if_neg hl]

set_option maxRecDepth 100000 in
set_option maxHeartbeats 4000000 in
theorem read_in (s : ByteArray) (a : Nat) (w : World) (hs : s.size ≤ 1000000000) (ha : a < s.size) (hq : (byI s a != 34 && byI s a != 39) = false) :
    Calls Try.prog 12 #[.string s, .int .i64 a] w fun e w' => e = .returned (readV (readM s a)) ∧ Below w.heap.size w w' := by
  have hab : (a : Int) ≤ 1000000000 := by omega
  have HM := Lib.hid (show readM s a = readGo s (byI s a) s.size (a + 1) [] by
    unfold readM
    rw [if_neg (by omega)]
    simp only [Int.toNat_natCast, hq]
    rfl)
  have e1 : ((s[a].toNat : Int) != 34 && (s[a].toNat : Int) != 39) = false := by rw [byI_at]; exact hq
  have ea := Lib.hid (byI_at s a ha)
  generalize byI s a = q at HM hq ea
  clear hq
  go_enter Try.func12, Try.ntmps12
  go_upto_region 1 with fail
  go_cut [31] (fun x w' => x = .bool false ∧ w = w')
  case first =>
    go_wp2_with fail
    all_goals go_meet
    all_goals go_tidy
    all_goals exact ⟨by simp; omega, rfl⟩
  case rest =>
    obtain ⟨rfl, rfl⟩ := hcut
    go_wp2_with fail
    go_loopw [7, 8] (fun o i wr => ∃ (k f : Nat) (out : List UInt8), i = .int .i64 (k : Int) ∧ k ≤ s.size ∧ s.size ≤ k + f ∧ OwnB wr w.heap.size o out ∧ out.length ≤ 65536 ∧ Below w.heap.size w wr ∧ readGo s q f k out = readM s a) (fun _ i _ => s.size - (intOf i).toNat)
    case atStart => exact ⟨a + 1, s.size, [], by go_num, by omega, by omega, OwnB.nil_ _ _, by simp, Below.refl _ _, HM.out.symm⟩
    case round =>
      obtain ⟨k, f, out, rfl, hk, hf, hown, hl, hb, hR⟩ := hrel
      obtain ⟨A, cp, rfl⟩ := hown.form
      clear HM e1
      have HR := Lib.hid hR
      clear hR
      have OWN := Lib.hid hown
      clear hown
      have HB := Lib.hid hb
      clear hb
      by_cases hlt : k < s.size
      · obtain ⟨f, rfl⟩ : ∃ g, f = g + 1 := ⟨f - 1, by omega⟩
        have ek := Lib.hid (byI_at s k hlt)
        cases t1 : (byI s k == q)
        · have t1' : ((s[k].toNat : Int) == (s[a].toNat : Int)) = false := by rw [ek.out, ea.out]; exact t1
          cases t2 : (byI s k == 10 || byI s k == 13)
          · have t2' : ((s[k].toNat : Int) == 10 || (s[k].toNat : Int) == 13) = false := by rw [ek.out]; exact t2
            obtain ⟨o1, o2, o3, o4⟩ := oneM_ok s k hlt
            have hone0 := fun w => one_any s k w hs (by omega) (by omega)
            simp only [Int.toNat_natCast] at hone0
            have hone := Lib.hid hone0
            clear hone0
            have h10 : ((s[k].toNat : Int) == 10) = false := by cases h : ((s[k].toNat : Int) == 10) <;> simp_all
            have h13 : ((s[k].toNat : Int) == 13) = false := by cases h : ((s[k].toNat : Int) == 13) <;> simp_all
            clear t2'
            by_cases he : (oneM s k).e = 0
            · by_cases hfull : 65536 ≤ out.length
              · have RES := Lib.hid (HR.out.symm.trans (readGo_l s q f k out hlt t1 t2 he hfull))
                have e1 : ((oneM s k).e != 0) = false := by simpa using he
                have T1 := Lib.hid t1
                have T2 := Lib.hid t2
                have HE := Lib.hid he
                clear t1 t2 he o3 o4
                generalize oneM s k = o at *
                have HFULL := Lib.hid hfull
                have HL := Lib.hid hl
                clear hfull hl
                go_upto_region 13 with (first | (((first | (with_reducible refine wp_quiet_gr Try.mixed ?_ ?_) | (with_reducible refine wp_quiet_any Try.mixed ?_ ?_)); (next => kernel_rfl); (repeat (quiet_step (fail))); refine wpQuiet_nil ?_; intro pq)) | (go_at_call 25; refine (hone.out _).mono ?_; rintro e w' ⟨rfl, rfl⟩; unfold oneV))
                go_upto_region 14 with (at_builtin; go_must (refine append_byte rfl _ _ rfl w.heap.size _ out o.v rfl ((OWN.out.gr pq).alloc _) _ 1 rfl (cell_new_gr _ _ _ _) o1 o2 ?_ ?_ ?_); (next => have := HL.out; omega); (next => exact ownB_room HB.out); intro A1 cp1 w1 OWN1 HB1)
                have BB := Lib.hid ((bl_al (bl_gr HB.out pq) _).trans HB1)
                clear HB1
                have htest : decide ((65536 : Int) < (out.length : Int) + 1) = true := by have := HFULL.out; simp; omega
                go_wp2_with fail
                go_ret3
                exact ⟨readV_of RES.out rfl rfl rfl, BB.out⟩
              · have RES := Lib.hid (HR.out.symm.trans (readGo_s s q f k out hlt t1 t2 he hfull))
                have e1 : ((oneM s k).e != 0) = false := by simpa using he
                obtain ⟨o3a, o3b⟩ := o3 he
                obtain ⟨m, hm⟩ := Int.eq_ofNat_of_zero_le (show (0 : Int) ≤ (oneM s k).n by omega)
                have OE := Lib.hid (show (if (oneM s k).e = 0 then ((k : Int) + (oneM s k).n) else 0) = ((k + m : Nat) : Int) by rw [if_pos he, hm]; simp)
                have hm1 : 1 ≤ m := by omega
                have hm2 : k + m ≤ s.size := by omega
                have RES2 := Lib.hid (show readGo s q f (k + m) (push out (oneM s k)) = readM s a by rw [RES.out, hm]; rfl)
                have T1 := Lib.hid t1
                have T2 := Lib.hid t2
                have HE := Lib.hid he
                clear t1 t2 he o3 o4 hm o3a o3b RES
                generalize oneM s k = o at *
                have HFULL := Lib.hid hfull
                have HL := Lib.hid hl
                clear hfull hl
                go_upto_region 13 with (first | (((first | (with_reducible refine wp_quiet_gr Try.mixed ?_ ?_) | (with_reducible refine wp_quiet_any Try.mixed ?_ ?_)); (next => kernel_rfl); (repeat (quiet_step (fail))); refine wpQuiet_nil ?_; intro pq)) | (go_at_call 25; refine (hone.out _).mono ?_; rintro e w' ⟨rfl, rfl⟩; unfold oneV; rw [OE.out]))
                go_upto_region 14 with (at_builtin; go_must (refine append_byte rfl _ _ rfl w.heap.size _ out o.v rfl ((OWN.out.gr pq).alloc _) _ 1 rfl (cell_new_gr _ _ _ _) o1 o2 ?_ ?_ ?_); (next => have := HL.out; omega); (next => exact ownB_room HB.out); intro A1 cp1 w1 OWN1 HB1)
                have BB := Lib.hid ((bl_al (bl_gr HB.out pq) _).trans HB1)
                clear HB1
                have OWN2 := Lib.hid OWN1
                clear OWN1
                have htest : decide ((65536 : Int) < (out.length : Int) + 1) = false := by have := HFULL.out; simp; omega
                go_wp2_with fail
                go_roundw
                case rel => exact ⟨k + m, f, push out o, by go_num, hm2, by omega, (by have h := OWN2.out; rw [List.length_append, List.length_singleton] at h; exact h), by have := HFULL.out; simp [push]; omega, BB.out, RES2.out⟩
                case measure => simp [intOf]; omega
            · have RES := Lib.hid (HR.out.symm.trans (readGo_e s q f k out hlt t1 t2 he))
              have e1 : ((oneM s k).e != 0) = true := by simpa using he
              have T1 := Lib.hid t1
              have T2 := Lib.hid t2
              have HE := Lib.hid he
              clear t1 t2 he o3 o4
              generalize oneM s k = o at *
              go_wp2_with (first | (((first | (with_reducible refine wp_quiet_gr Try.mixed ?_ ?_) | (with_reducible refine wp_quiet_any Try.mixed ?_ ?_)); (next => kernel_rfl); (repeat (quiet_step (fail))); refine wpQuiet_nil ?_; intro pq)) | (go_at_call 25; refine (hone.out _).mono ?_; rintro e w' ⟨rfl, rfl⟩; unfold oneV))
              go_ret3
              exact ⟨readV_of RES.out rfl rfl rfl, bl_gr HB.out _⟩
          · have RES := Lib.hid (HR.out.symm.trans (readGo_nl s q f k out hlt t1 t2))
            have hg : ((s[k].toNat : Int) == 10) = true ∨ ((s[k].toNat : Int) == 10) = false ∧ ((s[k].toNat : Int) == 13) = true := by
              rw [ek.out]; revert t2; cases (byI s k == 10) <;> simp
            have T1 := Lib.hid t1
            have T2 := Lib.hid t2
            clear t1 t2
            rcases hg with h10 | ⟨h10, h13⟩
            all_goals
              go_wp2_with ((first | (with_reducible refine wp_quiet_gr Try.mixed ?_ ?_) | (with_reducible refine wp_quiet_any Try.mixed ?_ ?_)); (next => kernel_rfl); (repeat (quiet_step (fail))); refine wpQuiet_nil ?_; intro pq)
              go_ret3
              exact ⟨readV_of RES.out rfl rfl rfl, bl_gr HB.out _⟩
        · have RES := Lib.hid (HR.out.symm.trans (readGo_q s q f k out hlt t1))
          have t1' : ((s[k].toNat : Int) == (s[a].toNat : Int)) = true := by rw [ek.out, ea.out]; exact t1
          have T := Lib.hid t1
          clear t1
          go_upto_region 7 with ((first | (with_reducible refine wp_quiet_gr Try.mixed ?_ ?_) | (with_reducible refine wp_quiet_any Try.mixed ?_ ?_)); (next => kernel_rfl); (repeat (quiet_step (fail))); refine wpQuiet_nil ?_; intro pq)
          have hconv := bytes_string (OWN.out.gr pq)
          go_wp2_with fail
          go_ret3
          exact ⟨readV_of RES.out rfl rfl rfl, bl_gr HB.out _⟩
      · have RES := Lib.hid (HR.out.symm.trans (readGo_end s q f k out hlt))
        go_wp2_with fail
        go_ret3
        exact ⟨readV_of RES.out rfl rfl rfl, HB.out⟩

set_option maxRecDepth 100000 in
set_option maxHeartbeats 4000000 in
theorem read_any (s : ByteArray) (a : Int) (w : World) (hs : s.size ≤ 1000000000) :
    Calls Try.prog 12 #[.string s, .int .i64 a] w fun e w' => e = .returned (readV (readM s a)) ∧ Below w.heap.size w w' := by
  by_cases h0 : a < 0
  · have RES := Lib.hid (show readM s a = redE 1 by rw [readM, if_pos (.inl h0)])
    go_enter Try.func12, Try.ntmps12
    go_wp2_with fail
    go_ret3
    exact ⟨readV_of RES.out rfl rfl rfl, Below.refl _ _⟩
  obtain ⟨a, rfl⟩ := Int.eq_ofNat_of_zero_le (show 0 ≤ a by omega)
  by_cases ha : a < s.size
  · cases hq : (byI s a != 34 && byI s a != 39)
    · exact read_in s a w hs ha hq
    · have RES := Lib.hid (show readM s a = redE 1 by
        rw [readM, if_neg (by omega)]
        simp only [Int.toNat_natCast, hq]
        rfl)
      have e1 : ((s[a].toNat : Int) != 34) = true := by rw [byI_at]; revert hq; cases (byI s a != 34) <;> simp
      have e2 : ((s[a].toNat : Int) != 39) = true := by rw [byI_at]; revert hq; cases (byI s a != 39) <;> simp
      clear hq h0
      have hab : (a : Int) ≤ 1000000000 := by omega
      go_enter Try.func12, Try.ntmps12
      go_wp2_with fail
      go_ret3
      exact ⟨readV_of RES.out rfl rfl rfl, Below.refl _ _⟩
  · have RES := Lib.hid (show readM s a = redE 1 by rw [readM, if_pos (.inr (by omega))])
    clear h0
    go_enter Try.func12, Try.ntmps12
    go_wp2_with fail
    go_ret3
    exact ⟨readV_of RES.out rfl rfl rfl, Below.refl _ _⟩
end Go.Proofs.Ytkbbgnmhfkilgaa
