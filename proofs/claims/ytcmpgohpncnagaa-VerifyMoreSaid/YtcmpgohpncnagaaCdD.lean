/- What reads the table of operations: Cut, row, Parts, Falls. -/
import Derived.Test.YtcmpgohpncnagaaCdC
import Derived.Test.YtcmpgohpncnagaaUntil
namespace Go.Proofs.Ytcmpgohpncnagaa
set_option linter.all false
open Go.ChangeShapes Go.WideShapes Go.ChangeAt Go.RowKit Go.Sort Go.Deep Go.Shelf

set_option maxRecDepth 100000 in
set_option maxHeartbeats 4000000 in
theorem cutL_sp (s : ByteArray) (i : Nat) (a b : ByteArray) (h : Lib.indexByte s.data.toList 32 = (i : Int)) (ha : s.extract 0 i = a) (hb : s.extract (i + 1) s.size = b) (hi : i + 1 ≤ s.size) (hs : s.size ≤ 200) (w : World) :
    Calls Try.prog 85 #[.string s, .string ⟨#[32]⟩] w fun e w' => e = .returned (.tuple #[.string a, .string b, .bool true]) ∧ Below w.heap.size w w' := by
  have IX := Lib.hid (fun W => by have := index_sp s W; rw [h] at this; exact this : ∀ W, Calls Try.prog 87 #[.string s, .string ⟨#[32]⟩] W fun e w' => e = .returned (.int .i64 (i : Int)) ∧ W = w')
  have AB := Lib.hid (And.intro ha hb)
  have q0 : ¬ (i : Int) < 0 := by omega
  obtain ⟨j, hj, ej⟩ : ∃ j : Nat, j = i + 1 ∧ IntKind.i64.wrap ((i : Int) + 1) = (j : Int) := ⟨i + 1, rfl, by rw [IntKind.wrap_i64]; omega⟩
  have q1 : (i : Int) ≤ (s.size : Int) := by omega
  have q2 : (j : Int) ≤ (s.size : Int) := by omega
  have JJ := Lib.hid hj
  clear h ha hb hi hs hj
  go_enter Try.func85, Try.ntmps85
  go_upto_region 3 with (go_at_call 87; refine (IX.out _).mono ?_; rintro e w' ⟨rfl, rfl⟩)
  (refine wp_region_held_drew (S := (fun _ : World => True)) Try.mixed (by exact trivial) (fun hS => ?_); (refine wpAnyH_take (i := 0) (v := ?_) rfl (by kernel_rfl) (by kernel_rfl) (by kernel_rfl) (fun _ _ _ h => h) ?_ (by assumption) ?_; rotate_left; (next => (refine Or.inl ⟨by kernel_rfl, ?_⟩; ((intro w hSw; (try dsimp only at hSw); go_simp) <;> with_reducible rfl))); (try simp only [Act.put, List.setIfInBounds_toArray, List.set_cons_zero, List.set_cons_succ])); (refine wpAnyH_take (i := 1) (v := ?_) rfl (by kernel_rfl) (by kernel_rfl) (by kernel_rfl) (fun _ _ _ h => h) ?_ (by assumption) ?_; rotate_left; (next => (refine Or.inl ⟨by kernel_rfl, ?_⟩; ((intro w hSw; (try dsimp only at hSw); go_simp) <;> with_reducible rfl))); (try simp only [Act.put, List.setIfInBounds_toArray, List.set_cons_zero, List.set_cons_succ])); (refine wpAnyH_take (i := 2) (v := ?_) rfl (by kernel_rfl) (by kernel_rfl) (by kernel_rfl) (fun _ _ _ h => h) ?_ (by assumption) ?_; rotate_left; (next => (refine Or.inl ⟨by kernel_rfl, ?_⟩; ((intro w hSw; (try dsimp only at hSw); go_simp) <;> with_reducible rfl))); (try simp only [Act.put, List.setIfInBounds_toArray, List.set_cons_zero, List.set_cons_succ])); (refine wpAnyH_take (i := 3) (v := ?_) rfl (by kernel_rfl) (by kernel_rfl) (by kernel_rfl) (fun _ _ _ h => h) ?_ (by assumption) ?_; rotate_left; (next => (refine Or.inl ⟨by kernel_rfl, ?_⟩; ((intro w hSw; (try dsimp only at hSw); go_simp) <;> with_reducible rfl))); (try simp only [Act.put, List.setIfInBounds_toArray, List.set_cons_zero, List.set_cons_succ])); (refine wpAnyH_take (i := 4) (v := ?_) rfl (by kernel_rfl) (by kernel_rfl) (by kernel_rfl) (fun _ _ _ h => h) ?_ (by assumption) ?_; rotate_left; (next => (refine Or.inl ⟨by kernel_rfl, ?_⟩; ((intro w hSw; (try dsimp only at hSw); go_simp) <;> with_reducible rfl))); (try simp only [Act.put, List.setIfInBounds_toArray, List.set_cons_zero, List.set_cons_succ])); (refine wpAnyH_take (i := 5) (v := ?_) rfl (by kernel_rfl) (by kernel_rfl) (by kernel_rfl) (fun _ _ _ h => h) ?_ (by assumption) ?_; rotate_left; (next => (refine Or.inl ⟨by kernel_rfl, ?_⟩; ((intro w hSw; (try dsimp only at hSw); go_simp) <;> with_reducible rfl))); (try simp only [Act.put, List.setIfInBounds_toArray, List.set_cons_zero, List.set_cons_succ])); (refine wpAnyH_take (i := 6) (v := ?_) rfl (by kernel_rfl) (by kernel_rfl) (by kernel_rfl) (fun _ _ _ h => h) ?_ (by assumption) ?_; rotate_left; (next => (refine Or.inl ⟨by kernel_rfl, ?_⟩; ((intro w hSw; (try dsimp only at hSw); go_simp) <;> with_reducible rfl))); (try simp only [Act.put, List.setIfInBounds_toArray, List.set_cons_zero, List.set_cons_succ])); (refine wpAnyH_take (i := 7) (v := ?_) rfl (by kernel_rfl) (by kernel_rfl) (by kernel_rfl) (fun _ _ _ h => h) ?_ (by assumption) ?_; rotate_left; (next => (refine Or.inl ⟨by kernel_rfl, ?_⟩; ((intro w hSw; (try dsimp only at hSw); go_simp) <;> with_reducible rfl))); (try simp only [Act.put, List.setIfInBounds_toArray, List.set_cons_zero, List.set_cons_succ])); (refine wpAnyH_take (i := 8) (v := ?_) rfl (by kernel_rfl) (by kernel_rfl) (by kernel_rfl) (fun _ _ _ h => h) ?_ (by assumption) ?_; rotate_left; (next => (refine Or.inl ⟨by kernel_rfl, ?_⟩; ((intro w hSw; (try dsimp only at hSw); go_simp) <;> with_reducible rfl))); (try simp only [Act.put, List.setIfInBounds_toArray, List.set_cons_zero, List.set_cons_succ])); (refine wpAnyH_take (i := 9) (v := ?_) rfl (by kernel_rfl) (by kernel_rfl) (by kernel_rfl) (fun _ _ _ h => h) ?_ (by assumption) ?_; rotate_left; (next => (refine Or.inl ⟨by kernel_rfl, ?_⟩; ((intro w hSw; (try dsimp only at hSw); go_simp) <;> with_reducible rfl))); (try simp only [Act.put, List.setIfInBounds_toArray, List.set_cons_zero, List.set_cons_succ])); (refine wpAnyH_take (i := 10) (v := ?_) rfl (by kernel_rfl) (by kernel_rfl) (by kernel_rfl) (fun _ _ _ h => h) ?_ (by assumption) ?_; rotate_left; (next => (refine Or.inl ⟨by kernel_rfl, ?_⟩; ((intro w hSw; (try dsimp only at hSw); go_simp) <;> with_reducible rfl))); (try simp only [Act.put, List.setIfInBounds_toArray, List.set_cons_zero, List.set_cons_succ])); (refine wpAnyH_take (i := 11) (v := ?_) rfl (by kernel_rfl) (by kernel_rfl) (by kernel_rfl) (fun _ _ _ h => h) ?_ (by assumption) ?_; rotate_left; (next => (refine Or.inl ⟨by kernel_rfl, ?_⟩; ((intro w hSw; (try dsimp only at hSw); go_simp) <;> with_reducible rfl))); (try simp only [Act.put, List.setIfInBounds_toArray, List.set_cons_zero, List.set_cons_succ])); refine wpAnyH_done (by kernel_rfl) ?_ _)
  go_simp
  go_wp2
  refine bodyPost_ret (v := .tuple #[.string (s.extract 0 i), .string (s.extract j s.size), .bool true]) (by simp [results, Try.results85, go_sem]) rfl ⟨by rw [AB.out.1, JJ.out, AB.out.2], by (repeat (with_reducible first | exact Below.refl _ _ | (refine bl_set ?_ (by first | omega | (simp; done) | (simp; omega)) _) | refine bl_gr ?_ _ | refine bl_al ?_ _ | refine below_setRow ?_ (by first | omega | (simp; done) | (simp; omega)) _ | refine bl_drewN ?_ _ | refine Below.drew ?_ | (refine bl_tr ?_ (by assumption))))⟩
set_option maxRecDepth 100000 in
set_option maxHeartbeats 4000000 in
theorem cut_row (n : Nat) (hn : n < 55) (w : World) :
    Calls Try.prog 80 #[.string (rowB n), .string ⟨#[32]⟩] w fun e w' => e = .returned (.tuple #[.string (nameB n), .string (partB n), .bool true]) ∧ Below w.heap.size w w' := by
  obtain ⟨h1, h2, h3, h4, h5, h6⟩ := row_cut n hn
  have CT := Lib.hid (fun W => cutL_sp (rowB n) (nameB n).size (nameB n) (partB n) h1 h2 h3 (by omega) (by omega) W)
  clear h1 h2 h3 h4 h5 h6
  generalize rowB n = r at *
  generalize nameB n = a at *
  generalize partB n = b at *
  go_enter Try.func80, Try.ntmps80
  go_wp2_with (go_at_call 85; refine (callGr (CT.out _)).mono ?_; rintro e w' ⟨pp, rfl, rfl⟩)
  refine bodyPost_ret (v := .tuple #[.string a, .string b, .bool true]) (by simp [results, Try.results80, go_sem]) rfl ⟨rfl, by (repeat (with_reducible first | exact Below.refl _ _ | (refine bl_set ?_ (by first | omega | (simp; done) | (simp; omega)) _) | refine bl_gr ?_ _ | refine bl_al ?_ _ | refine below_setRow ?_ (by first | omega | (simp; done) | (simp; omega)) _ | refine bl_drewN ?_ _ | refine Below.drew ?_ | (refine bl_tr ?_ (by assumption))))⟩
theorem index_rows (n : Nat) (hn : n < 55) (w : World) : (Instr.index 99 (.agg rowsA) (.int .i64 (n : Int))).run Try.prog w = .ok (.string (rowB n)) w := by
  have h := rowsA_at n hn
  have hs : (sizeOf 9).run Try.prog w = .ok 1 w := by kernel_rfl
  generalize rowsA = R at *
  unfold Instr.index
  simp [run_underlying Try.underlying99, hs, go_sem, hn]
  rw [h]
  rfl
set_option maxRecDepth 100000 in
set_option maxHeartbeats 4000000 in
theorem row_any (op : Int) (w : World) : Calls Try.prog 69 #[.int .i64 op] w fun e w' => e = .returned (.tuple #[.string (nameM op), .string (partM op)]) ∧ Below w.heap.size w w' := by
  by_cases h : 0 ≤ op ∧ op < 55
  · obtain ⟨n, rfl⟩ : ∃ n : Nat, op = (n : Int) := ⟨op.toNat, by omega⟩
    have hn : n < 55 := by omega
    have CT := Lib.hid (fun W => cut_row n hn W)
    have IX := index_rows n hn
    have RS := Lib.hid (show nameM (n : Int) = nameB n ∧ partM (n : Int) = partB n by unfold nameM partM; rw [if_pos h, if_pos h, Int.toNat_natCast]; exact ⟨rfl, rfl⟩)
    have RW := Lib.hid rows_any
    have q0 : ¬ (n : Int) < 0 := by omega
    have q1 : ¬ (55 : Int) ≤ (n : Int) := by omega
    clear h hn
    rw [RS.out.1, RS.out.2]
    generalize rowsA = R at *
    generalize rowB n = r at *
    generalize nameB n = a at *
    generalize partB n = b at *
    go_enter Try.func69, Try.ntmps69
    go_wp2_with (first | (go_at_call 81; refine (callGr (RW.out _)).mono ?_; rintro e w' ⟨pp, rfl, rfl⟩) | (go_at_call 80; refine (callGr (CT.out _)).mono ?_; rintro e w' ⟨pp, rfl, rfl⟩))
    refine bodyPost_ret (v := .tuple #[.string a, .string b]) (by simp [results, Try.results69, go_sem]) rfl ⟨rfl, by (repeat (with_reducible first | exact Below.refl _ _ | (refine bl_set ?_ (by first | omega | (simp; done) | (simp; omega)) _) | refine bl_gr ?_ _ | refine bl_al ?_ _ | refine below_setRow ?_ (by first | omega | (simp; done) | (simp; omega)) _ | refine bl_drewN ?_ _ | refine Below.drew ?_ | (refine bl_tr ?_ (by assumption))))⟩
  · have RS := Lib.hid (show nameM op = ⟨#[]⟩ ∧ partM op = ⟨#[]⟩ by simp [nameM, partM, h])
    rw [RS.out.1, RS.out.2]
    by_cases h0 : op < 0
    · clear h
      go_enter Try.func69, Try.ntmps69
      go_wp2
      all_goals refine bodyPost_ret (v := .tuple #[.string ⟨#[]⟩, .string ⟨#[]⟩]) (by simp [results, Try.results69, go_sem]) rfl ⟨rfl, by (repeat (with_reducible first | exact Below.refl _ _ | (refine bl_set ?_ (by first | omega | (simp; done) | (simp; omega)) _) | refine bl_gr ?_ _ | refine bl_al ?_ _ | refine below_setRow ?_ (by first | omega | (simp; done) | (simp; omega)) _ | refine bl_drewN ?_ _ | refine Below.drew ?_ | (refine bl_tr ?_ (by assumption))))⟩
    · have q1 : (55 : Int) ≤ op := by omega
      clear h
      go_enter Try.func69, Try.ntmps69
      go_wp2
      all_goals refine bodyPost_ret (v := .tuple #[.string ⟨#[]⟩, .string ⟨#[]⟩]) (by simp [results, Try.results69, go_sem]) rfl ⟨rfl, by (repeat (with_reducible first | exact Below.refl _ _ | (refine bl_set ?_ (by first | omega | (simp; done) | (simp; omega)) _) | refine bl_gr ?_ _ | refine bl_al ?_ _ | refine below_setRow ?_ (by first | omega | (simp; done) | (simp; omega)) _ | refine bl_drewN ?_ _ | refine Below.drew ?_ | (refine bl_tr ?_ (by assumption))))⟩
set_option maxRecDepth 100000 in
set_option maxHeartbeats 4000000 in
theorem parts_any (op : Int) (w : World) : Calls Try.prog 46 #[.int .i64 op] w fun e w' => e = .returned (.string (partM op)) ∧ Below w.heap.size w w' := by
  have RW := Lib.hid (row_any op)
  generalize nameM op = a at *
  generalize partM op = b at *
  go_enter Try.func46, Try.ntmps46
  go_wp2_with (go_at_call 69; refine (callGr (RW.out _)).mono ?_; rintro e w' ⟨pp, rfl, rfl⟩)
  go_ret
  exact ⟨rfl, by (repeat (with_reducible first | exact Below.refl _ _ | (refine bl_set ?_ (by first | omega | (simp; done) | (simp; omega)) _) | refine bl_gr ?_ _ | refine bl_al ?_ _ | refine below_setRow ?_ (by first | omega | (simp; done) | (simp; omega)) _ | refine bl_drewN ?_ _ | refine Below.drew ?_ | (refine bl_tr ?_ (by assumption))))⟩
end Go.Proofs.Ytcmpgohpncnagaa
