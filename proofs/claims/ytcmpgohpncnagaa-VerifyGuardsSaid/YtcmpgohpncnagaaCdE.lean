/- The reference's table of operations: rows, row, Name, Parts, Falls; Falls of package code. -/
import Derived.Test.YtcmpgohpncnagaaCdD
import Derived.Great.BuildSlice
namespace Go.Proofs.Ytcmpgohpncnagaa
set_option linter.all false
open Go.ChangeShapes Go.WideShapes Go.ChangeAt Go.RowKit Go.Sort Go.Deep Go.Shelf

theorem info_str : ∃ i, Try.prog.info? 9 = some i ∧ i.zero = some (.string ⟨#[]⟩) ∧ i.size = 1 := by
  have h : (Try.prog.info? 9).map (fun i => (i.zero, i.size)) = some (some (.string ⟨#[]⟩), 1) := by kernel_rfl
  obtain ⟨i, hi, hzz⟩ := Option.map_eq_some_iff.1 h
  simp only [Prod.mk.injEq] at hzz
  exact ⟨i, hi, hzz.1, hzz.2⟩
set_option maxRecDepth 100000 in
set_option maxHeartbeats 4000000 in
theorem rrows_any (w : World) : Calls Try.prog 83 #[] w fun e w' => e = .returned (.slice (some ⟨w.heap.size, 0, none⟩) 55 55) ∧ w'.heap[w.heap.size]? = some (.cells rowsA 9) ∧ Below w.heap.size w w' := by
  obtain ⟨ie, hie, hz, hs⟩ := info_str
  go_enter Try.func83, Try.ntmps83
  go_upto_region 1 with fail
  go_wp2_with (refine wpList_buildSlice rfl _ 9 55 _ rfl rowsA ie (.string ⟨#[]⟩) Try.underlying102 hie hz (by rw [hs]; decide) (by rw [hs]; decide) (by rw [hs]; kernel_rfl) ?_)
  go_ret
  exact ⟨rfl, heap_alloc_new _ _, by (repeat (with_reducible first | exact Below.refl _ _ | (refine bl_set ?_ (by first | omega | (simp; done) | (simp; omega)) _) | refine bl_gr ?_ _ | refine bl_al ?_ _ | refine below_setRow ?_ (by first | omega | (simp; done) | (simp; omega)) _ | refine bl_drewN ?_ _ | refine Below.drew ?_ | (refine bl_tr ?_ (by assumption))))⟩
def fallsM (op : Int) : Bool := decide (0 ≤ op) && decide (op < 55) && !(op == 40 || op == 48 || op == 49 || op == 6)
set_option maxRecDepth 100000 in
set_option maxHeartbeats 4000000 in
theorem falls_any (op : Int) (w : World) : Calls Try.prog 19 #[.int .i64 op] w fun e w' => e = .returned (.bool (fallsM op)) ∧ w = w' := by
  have RS := Lib.hid (show fallsM op = (decide (0 ≤ op) && decide (op < 55) && !(op == 40 || op == 48 || op == 49 || op == 6)) from rfl)
  go_enter Try.func19, Try.ntmps19
  go_wp2
  all_goals go_ret
  all_goals exact ⟨ret_bool (by rw [RS.out]; first | (simp [*]; done) | (simp [*]; omega)), rfl⟩
/-- the reference's entry: the row, or nothing -/
def rowM (op : Int) : ByteArray := if 0 ≤ op ∧ op < 55 then rowB op.toNat else ⟨#[]⟩
set_option maxRecDepth 100000 in
set_option maxHeartbeats 4000000 in
theorem rrow_any (op : Int) (w : World) : Calls Try.prog 72 #[.int .i64 op] w fun e w' => e = .returned (.string (rowM op)) ∧ Below w.heap.size w w' := by
  have RW := Lib.hid (rrows_any w)
  by_cases h : 0 ≤ op ∧ op < 55
  · obtain ⟨n, rfl⟩ : ∃ n : Nat, op = (n : Int) := ⟨op.toNat, by omega⟩
    have hn : n < 55 := by omega
    have RA := Lib.hid (rowsA_at n hn)
    have RS := Lib.hid (show rowM (n : Int) = rowB n by unfold rowM; rw [if_pos h, Int.toNat_natCast])
    have q0 : ¬ (n : Int) < 0 := by omega
    have q1 : ¬ (55 : Int) ≤ (n : Int) := by omega
    have q2 : (n : Int) < 55 := by omega
    clear h hn
    rw [RS.out]
    generalize rowsA = R at *
    generalize rowB n = r at *
    go_enter Try.func72, Try.ntmps72
    go_wp2_with (go_at_call 83; refine RW.out.mono ?_; rintro e w3 ⟨rfl, hB, hb⟩; have lb := (Array.getElem?_eq_some_iff.1 hB).1; have c0 : w3.cell? ⟨w.heap.size, n, none⟩ = some (.string r) := (by rw [cell_of_row w3 _ _ _ _ _ hB]; exact RA.out); have BB := Lib.hid hb; clear hb hB)
    go_ret
    exact ⟨rfl, BB.out⟩
  · have RS := Lib.hid (show rowM op = ⟨#[]⟩ by unfold rowM; rw [if_neg h])
    rw [RS.out]
    by_cases h0 : op < 0
    · clear h
      go_enter Try.func72, Try.ntmps72
      go_wp2_with (go_at_call 83; refine RW.out.mono ?_; rintro e w3 ⟨rfl, -, hb⟩; have BB := Lib.hid hb; clear hb)
      all_goals go_ret
      all_goals exact ⟨rfl, BB.out⟩
    · have q1 : (55 : Int) ≤ op := by omega
      clear h
      go_enter Try.func72, Try.ntmps72
      go_wp2_with (go_at_call 83; refine RW.out.mono ?_; rintro e w3 ⟨rfl, -, hb⟩; have BB := Lib.hid hb; clear hb)
      all_goals go_ret
      all_goals exact ⟨rfl, BB.out⟩
theorem row_ne (n : Nat) (hn : n < 55) : (rowB n).toList ≠ [] := by
  intro e
  have h := (row_cut n hn).2.2.2.1
  rw [ByteArray.toList_eq] at e
  have : (rowB n).size = 0 := by
    show (rowB n).data.size = 0
    rw [← Array.length_toList, e]
    rfl
  omega
set_option maxRecDepth 100000 in
set_option maxHeartbeats 4000000 in
theorem rname_any (op : Int) (w : World) : Calls Try.prog 73 #[.int .i64 op] w fun e w' => e = .returned (.string (nameM op)) ∧ Below w.heap.size w w' := by
  by_cases h : 0 ≤ op ∧ op < 55
  · obtain ⟨n, rfl⟩ : ∃ n : Nat, op = (n : Int) := ⟨op.toNat, by omega⟩
    have hn : n < 55 := by omega
    obtain ⟨h1, h2, h3, h4, h5, h6⟩ := row_cut n hn
    have hne := row_ne n hn
    have RW := Lib.hid (show ∀ W, Calls Try.prog 72 #[.int .i64 (n : Int)] W fun e w' => e = .returned (.string (rowB n)) ∧ Below W.heap.size W w' from fun W => by
      have := rrow_any n W
      rwa [show rowM (n : Int) = rowB n by unfold rowM; rw [if_pos h, Int.toNat_natCast]] at this)
    have RS := Lib.hid (show nameM (n : Int) = nameB n by unfold nameM; rw [if_pos h, Int.toNat_natCast])
    rw [RS.out]
    have e1 : wrap64 (((rowB n).size : Int) - 4) = ((nameB n).size : Int) := w64c (by omega) (by omega)
    have q1 : ((nameB n).size : Int) ≤ ((rowB n).size : Int) := by omega
    have HX := Lib.hid h2
    obtain ⟨m, hm⟩ : ∃ m, m = (nameB n).size := ⟨_, rfl⟩
    rw [← hm] at HX e1 q1
    have hb : ((rowB n).toList == []) = false := by simpa using hne
    clear h h1 h2 h3 h4 h5 h6 hn hm hne
    generalize rowB n = r at *
    generalize nameB n = a at *
    go_enter Try.func73, Try.ntmps73
    go_wp2_with (go_at_call 72; refine (callGr (RW.out _)).mono ?_; rintro e w' ⟨pp, rfl, rfl⟩)
    all_goals go_ret
    all_goals exact ⟨by rw [← HX.out]; rfl, by (repeat (with_reducible first | exact Below.refl _ _ | (refine bl_set ?_ (by first | omega | (simp; done) | (simp; omega)) _) | refine bl_gr ?_ _ | refine bl_al ?_ _ | refine below_setRow ?_ (by first | omega | (simp; done) | (simp; omega)) _ | refine bl_drewN ?_ _ | refine Below.drew ?_ | (refine bl_tr ?_ (by assumption))))⟩
  · have RW := Lib.hid (show ∀ W, Calls Try.prog 72 #[.int .i64 op] W fun e w' => e = .returned (.string ⟨#[]⟩) ∧ Below W.heap.size W w' from fun W => by
      have := rrow_any op W
      rwa [show rowM op = ⟨#[]⟩ by unfold rowM; rw [if_neg h]] at this)
    rw [show nameM op = ⟨#[]⟩ by unfold nameM; rw [if_neg h]]
    clear h
    go_enter Try.func73, Try.ntmps73
    go_wp2_with (go_at_call 72; refine (callGr (RW.out _)).mono ?_; rintro e w' ⟨pp, rfl, rfl⟩)
    all_goals go_ret
    all_goals exact ⟨rfl, by (repeat (with_reducible first | exact Below.refl _ _ | (refine bl_set ?_ (by first | omega | (simp; done) | (simp; omega)) _) | refine bl_gr ?_ _ | refine bl_al ?_ _ | refine below_setRow ?_ (by first | omega | (simp; done) | (simp; omega)) _ | refine bl_drewN ?_ _ | refine Below.drew ?_ | (refine bl_tr ?_ (by assumption))))⟩
set_option maxRecDepth 100000 in
set_option maxHeartbeats 4000000 in
theorem rparts_any (op : Int) (w : World) : Calls Try.prog 51 #[.int .i64 op] w fun e w' => e = .returned (.string (partM op)) ∧ Below w.heap.size w w' := by
  by_cases h : 0 ≤ op ∧ op < 55
  · obtain ⟨n, rfl⟩ : ∃ n : Nat, op = (n : Int) := ⟨op.toNat, by omega⟩
    have hn : n < 55 := by omega
    obtain ⟨h1, h2, h3, h4, h5, h6⟩ := row_cut n hn
    have hne := row_ne n hn
    have RW := Lib.hid (show ∀ W, Calls Try.prog 72 #[.int .i64 (n : Int)] W fun e w' => e = .returned (.string (rowB n)) ∧ Below W.heap.size W w' from fun W => by
      have := rrow_any n W
      rwa [show rowM (n : Int) = rowB n by unfold rowM; rw [if_pos h, Int.toNat_natCast]] at this)
    rw [show partM (n : Int) = partB n by unfold partM; rw [if_pos h, Int.toNat_natCast]]
    obtain ⟨m, hm⟩ : ∃ m, m = (nameB n).size + 1 := ⟨_, rfl⟩
    have e1 : wrap64 (((rowB n).size : Int) - 3) = (m : Int) := w64c (by omega) (by omega)
    have q1 : (m : Int) ≤ ((rowB n).size : Int) := by omega
    rw [← hm] at h3
    have HX := Lib.hid h3
    have hb : ((rowB n).toList == []) = false := by simpa using hne
    clear h h1 h2 h3 h4 h5 h6 hn hm hne
    generalize rowB n = r at *
    generalize partB n = a at *
    go_enter Try.func51, Try.ntmps51
    go_wp2_with (go_at_call 72; refine (callGr (RW.out _)).mono ?_; rintro e w' ⟨pp, rfl, rfl⟩)
    all_goals go_ret
    all_goals exact ⟨by rw [← HX.out]; rfl, by (repeat (with_reducible first | exact Below.refl _ _ | (refine bl_set ?_ (by first | omega | (simp; done) | (simp; omega)) _) | refine bl_gr ?_ _ | refine bl_al ?_ _ | refine below_setRow ?_ (by first | omega | (simp; done) | (simp; omega)) _ | refine bl_drewN ?_ _ | refine Below.drew ?_ | (refine bl_tr ?_ (by assumption))))⟩
  · have RW := Lib.hid (show ∀ W, Calls Try.prog 72 #[.int .i64 op] W fun e w' => e = .returned (.string ⟨#[]⟩) ∧ Below W.heap.size W w' from fun W => by
      have := rrow_any op W
      rwa [show rowM op = ⟨#[]⟩ by unfold rowM; rw [if_neg h]] at this)
    rw [show partM op = ⟨#[]⟩ by unfold partM; rw [if_neg h]]
    clear h
    go_enter Try.func51, Try.ntmps51
    go_wp2_with (go_at_call 72; refine (callGr (RW.out _)).mono ?_; rintro e w' ⟨pp, rfl, rfl⟩)
    all_goals go_ret
    all_goals exact ⟨rfl, by (repeat (with_reducible first | exact Below.refl _ _ | (refine bl_set ?_ (by first | omega | (simp; done) | (simp; omega)) _) | refine bl_gr ?_ _ | refine bl_al ?_ _ | refine below_setRow ?_ (by first | omega | (simp; done) | (simp; omega)) _ | refine bl_drewN ?_ _ | refine Below.drew ?_ | (refine bl_tr ?_ (by assumption))))⟩
/-- Falls by the name -/
theorem falls_name (op : Int) : (!((nameM op).toList == []) && !((nameM op).toList == [106, 117, 109, 112]) && !((nameM op).toList == [114, 101, 116, 117, 114, 110]) && !((nameM op).toList == [116, 104, 114, 111, 119]) && !((nameM op).toList == [102, 105, 120, 101, 100])) = fallsM op := by
  by_cases h : 0 ≤ op ∧ op < 55
  · obtain ⟨n, rfl⟩ : ∃ n : Nat, op = (n : Int) := ⟨op.toNat, by omega⟩
    have hn : n < 55 := by omega
    have : ∀ i : Fin 55, (!((nameM (i.val : Int)).toList == []) && !((nameM (i.val : Int)).toList == [106, 117, 109, 112]) && !((nameM (i.val : Int)).toList == [114, 101, 116, 117, 114, 110]) && !((nameM (i.val : Int)).toList == [116, 104, 114, 111, 119]) && !((nameM (i.val : Int)).toList == [102, 105, 120, 101, 100])) = fallsM (i.val : Int) := by decide +kernel
    exact this ⟨n, hn⟩
  · rw [show nameM op = ⟨#[]⟩ by unfold nameM; rw [if_neg h]]
    unfold fallsM
    have : (decide (0 ≤ op) && decide (op < 55)) = false := by simpa using (by omega : 0 ≤ op → 55 ≤ op)
    rw [this, ByteArray.toList_eq]
    simp
set_option maxRecDepth 100000 in
set_option maxHeartbeats 4000000 in
theorem rfalls_any (op : Int) (w : World) : Calls Try.prog 52 #[.int .i64 op] w fun e w' => e = .returned (.bool (fallsM op)) ∧ Below w.heap.size w w' := by
  have RN := Lib.hid (rname_any op)
  rw [← falls_name]
  generalize nameM op = a at *
  go_enter Try.func52, Try.ntmps52
  go_wp2_with (go_at_call 73; refine (callGr (RN.out _)).mono ?_; rintro e w' ⟨pp, rfl, rfl⟩)
  all_goals go_ret
  all_goals exact ⟨ret_bool (by simp [*]), by (repeat (with_reducible first | exact Below.refl _ _ | (refine bl_set ?_ (by first | omega | (simp; done) | (simp; omega)) _) | refine bl_gr ?_ _ | refine bl_al ?_ _ | refine below_setRow ?_ (by first | omega | (simp; done) | (simp; omega)) _ | refine bl_drewN ?_ _ | refine Below.drew ?_ | (refine bl_tr ?_ (by assumption))))⟩
end Go.Proofs.Ytcmpgohpncnagaa
