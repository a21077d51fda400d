/- verify.head, checker.place, checker.part (printed by gen51V.py). -/
import Derived.Test.YtcmpgohpncnagaaCdJ
namespace Go.Proofs.Ytcmpgohpncnagaa
set_option linter.all false
open Go.ChangeShapes Go.WideShapes Go.ChangeAt Go.RowKit Go.Sort Go.Deep Go.Shelf

/-- a checker, by value -/
abbrev chkV (nm : ByteArray) (kd ln rg : Int) (i p k g : Value) (N : Int) : Value := .agg #[.string nm, .int .i64 kd, .int .i64 ln, .int .i64 rg, i, p, k, g, .int .i64 N]
abbrev chkO (nm : ByteArray) (kd ln rg : Int) (i p k g : Value) (N : Int) : Obj := .cells #[.string nm, .int .i64 kd, .int .i64 ln, .int .i64 rg, i, p, k, g, .int .i64 N] 68
theorem cells9 {w : World} {b : Nat} {nm : ByteArray} {kd ln rg N : Int} {i p k g : Value} (h : w.heap[b]? = some (chkO nm kd ln rg i p k g N)) : (w.cell? ⟨b, 0, none⟩ = some (.string nm) ∧ w.cell? ⟨b, 1, none⟩ = some (.int .i64 kd) ∧ w.cell? ⟨b, 2, none⟩ = some (.int .i64 ln) ∧ w.cell? ⟨b, 3, none⟩ = some (.int .i64 rg) ∧
    w.cell? ⟨b, 4, none⟩ = some i ∧ w.cell? ⟨b, 5, none⟩ = some p ∧ w.cell? ⟨b, 6, none⟩ = some k ∧ w.cell? ⟨b, 7, none⟩ = some g ∧ w.cell? ⟨b, 8, none⟩ = some (.int .i64 N)) := by
  and_intros <;> (rw [cell_of_row w b _ _ _ _ h]; rfl)
def headC (c : CodeD) : Bool := inB c.kd 0 255 && (inB c.ln 0 1024 && (inB c.rg 0 4096 && (decide (c.nm.size ≤ 65536) && (decide (c.ins.length ≤ 65536) && (decide (c.pl.length ≤ 65536) && (decide (c.ks.length ≤ 65536) && decide (c.gs.length ≤ 65536)))))))
/-- a jump's target -/
def plcC (c : CodeD) (at_ : Nat) (n : Int) : Bool := inB n 0 (c.ins.length - 1) && (decide ((at_ : Int) < n) || (c.ins.getD n.toNat default).op == 45)
def errK (s : Nat) : Int := if s = 114 ∨ s = 100 ∨ s = 113 then 41 else if s = 112 ∨ s = 111 ∨ s = 107 ∨ s = 103 then 43 else 1
/-- the error of an operand -/
def prtE (N : Int) (c : CodeD) (at_ : Nat) (s : Nat) (n : Int) : Int :=
  if s = 102 then (if inB n 1 (N - 1) = true then 0 else 43)
  else if s = 106 then (if plcC c at_ n = true then 0 else 42)
  else if s = 116 then (if (decide (0 ≤ n) && decide (n / 4 < c.rg)) = true then (if decide (n % 4 ≤ 2) = true then 0 else 1) else 41)
  else if prtC c s n = true then 0 else errK s

set_option maxRecDepth 100000 in
set_option maxHeartbeats 4000000 in
theorem place_any (N : Int) (c : CodeD) (i p k g : Value) (at_ : Nat) (n : Int) (w : World) (h : Cd4 w i p k g c) :
    Calls Try.prog 84 #[chkV c.nm c.kd c.ln c.rg i p k g N, .int .i64 (at_ : Int), .int .i64 n] w fun e w' => e = .returned (.bool (plcC c at_ n)) ∧ Below w.heap.size w w' := by
  obtain ⟨A1, c1, A2, c2, A3, c3, A4, c4, rfl, rfl, rfl, rfl⟩ := h.forms
  have hm := h.i.1
  unfold maxLen at hm
  have RS := Lib.hid (show plcC c at_ n = (inB n 0 ((c.ins.length : Int) - 1) && (decide ((at_ : Int) < n) || (c.ins.getD n.toNat default).op == 45)) from rfl)
  rw [RS.out]
  by_cases hb : 0 ≤ n ∧ n ≤ (c.ins.length : Int) - 1
  · obtain ⟨m, rfl⟩ : ∃ m : Nat, n = (m : Int) := ⟨n.toNat, by omega⟩
    have hlt : m < c.ins.length := by omega
    have hi : inB (m : Int) 0 ((c.ins.length : Int) - 1) = true := by simp [inB, hb]
    have CI := Lib.hid (fun W => by have := vin_any (m : Int) 0 ((c.ins.length : Int) - 1) W; rw [hi] at this; exact this : ∀ W, Calls Try.prog 32 #[.int .i64 (m : Int), .int .i64 0, .int .i64 ((c.ins.length : Int) - 1)] W fun e w' => e = .returned (.bool true) ∧ W = w')
    rw [hi, Int.toNat_natCast]
    obtain ⟨x, hx⟩ : ∃ x, c.ins[m]? = some x := ⟨_, List.getElem?_eq_getElem hlt⟩
    have hg : c.ins.getD m default = x := by rw [List.getD_eq_getElem?_getD, hx]; rfl
    rw [hg]
    obtain ⟨b, off, cap', e2, lb, h0, h1, h2, h3⟩ := at_In h.i hx
    simp only [Value.slice.injEq] at e2
    obtain ⟨rfl, -, -⟩ := e2
    have q0 : ¬ (m : Int) < 0 := by omega
    have q1 : (m : Int) < (c.ins.length : Int) := by omega
    have lbn : ∀ u, b < w.heap.size + u := fun u => Nat.lt_of_lt_of_le lb (Nat.le_add_right _ _)
    have e1 : wrap64 ((c.ins.length : Int) - 1) = (c.ins.length : Int) - 1 := by unfold wrap64; omega
    have rw1 : decide ((at_ : Int) < (m : Int)) = decide (at_ < m) := decide_eq_decide.2 (by omega)
    rw [rw1]
    by_cases ha : at_ < m
    · have q2 : (at_ : Int) < (m : Int) := by clear e1; omega
      have qd : decide (at_ < m) = true := decide_eq_true ha
      clear h hb hlt hi hm hx hg rw1
      go_enter Try.func84, Try.ntmps84
      go_wp2_with (go_at_call 32; refine (CI.out _).mono ?_; rintro e w' ⟨rfl, rfl⟩)
      all_goals go_ret
      all_goals exact ⟨ret_bool (by simp [*]), by (repeat (with_reducible first | exact Below.refl _ _ | (refine bl_set ?_ (by first | omega | (simp; done) | (simp; omega)) _) | refine bl_gr ?_ _ | refine bl_al ?_ _ | refine below_setRow ?_ (by first | omega | (simp; done) | (simp; omega)) _ | refine bl_drewN ?_ _ | refine Below.drew ?_ | (refine bl_tr ?_ (by assumption))))⟩
    · have q2 : ¬ (at_ : Int) < (m : Int) := by clear e1; omega
      have qd : decide (at_ < m) = false := decide_eq_false ha
      cases hk : x.op == 45
      all_goals
        go_enter Try.func84, Try.ntmps84
        go_wp2_with (go_at_call 32; refine (CI.out _).mono ?_; rintro e w' ⟨rfl, rfl⟩)
        all_goals go_ret
        all_goals exact ⟨ret_bool (by simp [*]), by (repeat (with_reducible first | exact Below.refl _ _ | (refine bl_set ?_ (by first | omega | (simp; done) | (simp; omega)) _) | refine bl_gr ?_ _ | refine bl_al ?_ _ | refine below_setRow ?_ (by first | omega | (simp; done) | (simp; omega)) _ | refine bl_drewN ?_ _ | refine Below.drew ?_ | (refine bl_tr ?_ (by assumption))))⟩
  · have hi : inB n 0 ((c.ins.length : Int) - 1) = false := by simp only [inB, Bool.and_eq_false_iff, decide_eq_false_iff_not]; omega
    have CI := Lib.hid (fun W => by have := vin_any n 0 ((c.ins.length : Int) - 1) W; rw [hi] at this; exact this : ∀ W, Calls Try.prog 32 #[.int .i64 n, .int .i64 0, .int .i64 ((c.ins.length : Int) - 1)] W fun e w' => e = .returned (.bool false) ∧ W = w')
    rw [hi]
    have e1 : wrap64 ((c.ins.length : Int) - 1) = (c.ins.length : Int) - 1 := by unfold wrap64; omega
    clear h hb hi hm
    go_enter Try.func84, Try.ntmps84
    go_wp2_with (go_at_call 32; refine (CI.out _).mono ?_; rintro e w' ⟨rfl, rfl⟩)
    all_goals go_ret
    all_goals exact ⟨ret_bool (by simp), by (repeat (with_reducible first | exact Below.refl _ _ | (refine bl_set ?_ (by first | omega | (simp; done) | (simp; omega)) _) | refine bl_gr ?_ _ | refine bl_al ?_ _ | refine below_setRow ?_ (by first | omega | (simp; done) | (simp; omega)) _ | refine bl_drewN ?_ _ | refine Below.drew ?_ | (refine bl_tr ?_ (by assumption))))⟩

set_option maxRecDepth 100000 in
set_option maxHeartbeats 4000000 in
theorem vpart_114 (N : Int) (c : CodeD) (i p k g : Value) (at_ : Nat) (n : Int) (hN : 1 ≤ N ∧ N ≤ 4096) (hr : 0 ≤ c.rg ∧ c.rg ≤ 4096) (hn : i64ok n) (w : World) (h : Cd4 w i p k g c) :
    Calls Try.prog 74 #[chkV c.nm c.kd c.ln c.rg i p k g N, .int .i64 (at_ : Int), .int .u8 114, .int .i64 n] w fun e w' => e = .returned (.int .i64 (prtE N c at_ 114 n)) ∧ Below w.heap.size w w' := by
  obtain ⟨A1, c1, A2, c2, A3, c3, A4, c4, rfl, rfl, rfl, rfl⟩ := h.forms
  have RS := Lib.hid (show prtE N c at_ 114 n = if inB n (0) (c.rg - 1) = true then 0 else 41 by simp [prtE, prtC, errK])
  rw [RS.out]
  have CI := Lib.hid (fun W => vin_any n (0) (c.rg - 1) W)
  have e1 : wrap64 (c.rg - 1) = c.rg - 1 := by unfold wrap64; omega
  generalize inB n (0) (c.rg - 1) = r at *
  clear h hn
  cases r
  all_goals
    go_enter Try.func74, Try.ntmps74
    go_wp2_with (go_at_call 32; refine (CI.out _).mono ?_; rintro e w' ⟨rfl, rfl⟩)
    all_goals go_ret
    all_goals exact ⟨ret_int (by first | rfl | (simp [*]; done)), by (repeat (with_reducible first | exact Below.refl _ _ | (refine bl_set ?_ (by first | omega | (simp; done) | (simp; omega)) _) | refine bl_gr ?_ _ | refine bl_al ?_ _ | refine below_setRow ?_ (by first | omega | (simp; done) | (simp; omega)) _ | refine bl_drewN ?_ _ | refine Below.drew ?_ | (refine bl_tr ?_ (by assumption))))⟩

set_option maxRecDepth 100000 in
set_option maxHeartbeats 4000000 in
theorem vpart_100 (N : Int) (c : CodeD) (i p k g : Value) (at_ : Nat) (n : Int) (hN : 1 ≤ N ∧ N ≤ 4096) (hr : 0 ≤ c.rg ∧ c.rg ≤ 4096) (hn : i64ok n) (w : World) (h : Cd4 w i p k g c) :
    Calls Try.prog 74 #[chkV c.nm c.kd c.ln c.rg i p k g N, .int .i64 (at_ : Int), .int .u8 100, .int .i64 n] w fun e w' => e = .returned (.int .i64 (prtE N c at_ 100 n)) ∧ Below w.heap.size w w' := by
  obtain ⟨A1, c1, A2, c2, A3, c3, A4, c4, rfl, rfl, rfl, rfl⟩ := h.forms
  have RS := Lib.hid (show prtE N c at_ 100 n = if inB n (0) (c.rg - 2) = true then 0 else 41 by simp [prtE, prtC, errK])
  rw [RS.out]
  have CI := Lib.hid (fun W => vin_any n (0) (c.rg - 2) W)
  have e1 : wrap64 (c.rg - 2) = c.rg - 2 := by unfold wrap64; omega
  generalize inB n (0) (c.rg - 2) = r at *
  clear h hn
  cases r
  all_goals
    go_enter Try.func74, Try.ntmps74
    go_wp2_with (go_at_call 32; refine (CI.out _).mono ?_; rintro e w' ⟨rfl, rfl⟩)
    all_goals go_ret
    all_goals exact ⟨ret_int (by first | rfl | (simp [*]; done)), by (repeat (with_reducible first | exact Below.refl _ _ | (refine bl_set ?_ (by first | omega | (simp; done) | (simp; omega)) _) | refine bl_gr ?_ _ | refine bl_al ?_ _ | refine below_setRow ?_ (by first | omega | (simp; done) | (simp; omega)) _ | refine bl_drewN ?_ _ | refine Below.drew ?_ | (refine bl_tr ?_ (by assumption))))⟩

set_option maxRecDepth 100000 in
set_option maxHeartbeats 4000000 in
theorem vpart_112 (N : Int) (c : CodeD) (i p k g : Value) (at_ : Nat) (n : Int) (hN : 1 ≤ N ∧ N ≤ 4096) (hr : 0 ≤ c.rg ∧ c.rg ≤ 4096) (hn : i64ok n) (w : World) (h : Cd4 w i p k g c) :
    Calls Try.prog 74 #[chkV c.nm c.kd c.ln c.rg i p k g N, .int .i64 (at_ : Int), .int .u8 112, .int .i64 n] w fun e w' => e = .returned (.int .i64 (prtE N c at_ 112 n)) ∧ Below w.heap.size w w' := by
  obtain ⟨A1, c1, A2, c2, A3, c3, A4, c4, rfl, rfl, rfl, rfl⟩ := h.forms
  have RS := Lib.hid (show prtE N c at_ 112 n = if inB n (0) ((c.pl.length : Int) - 1) = true then 0 else 43 by simp [prtE, prtC, errK])
  rw [RS.out]
  have CI := Lib.hid (fun W => vin_any n (0) ((c.pl.length : Int) - 1) W)
  have hm := h.p.1
  unfold maxLen at hm
  have e1 : wrap64 ((c.pl.length : Int) - 1) = (c.pl.length : Int) - 1 := by unfold wrap64; omega
  clear hm
  generalize inB n (0) ((c.pl.length : Int) - 1) = r at *
  clear h hn
  cases r
  all_goals
    go_enter Try.func74, Try.ntmps74
    go_wp2_with (go_at_call 32; refine (CI.out _).mono ?_; rintro e w' ⟨rfl, rfl⟩)
    all_goals go_ret
    all_goals exact ⟨ret_int (by first | rfl | (simp [*]; done)), by (repeat (with_reducible first | exact Below.refl _ _ | (refine bl_set ?_ (by first | omega | (simp; done) | (simp; omega)) _) | refine bl_gr ?_ _ | refine bl_al ?_ _ | refine below_setRow ?_ (by first | omega | (simp; done) | (simp; omega)) _ | refine bl_drewN ?_ _ | refine Below.drew ?_ | (refine bl_tr ?_ (by assumption))))⟩

set_option maxRecDepth 100000 in
set_option maxHeartbeats 4000000 in
theorem vpart_107 (N : Int) (c : CodeD) (i p k g : Value) (at_ : Nat) (n : Int) (hN : 1 ≤ N ∧ N ≤ 4096) (hr : 0 ≤ c.rg ∧ c.rg ≤ 4096) (hn : i64ok n) (w : World) (h : Cd4 w i p k g c) :
    Calls Try.prog 74 #[chkV c.nm c.kd c.ln c.rg i p k g N, .int .i64 (at_ : Int), .int .u8 107, .int .i64 n] w fun e w' => e = .returned (.int .i64 (prtE N c at_ 107 n)) ∧ Below w.heap.size w w' := by
  obtain ⟨A1, c1, A2, c2, A3, c3, A4, c4, rfl, rfl, rfl, rfl⟩ := h.forms
  have RS := Lib.hid (show prtE N c at_ 107 n = if inB n (0) ((c.ks.length : Int) - 1) = true then 0 else 43 by simp [prtE, prtC, errK])
  rw [RS.out]
  have CI := Lib.hid (fun W => vin_any n (0) ((c.ks.length : Int) - 1) W)
  have hm := h.k.1
  unfold maxLen at hm
  have e1 : wrap64 ((c.ks.length : Int) - 1) = (c.ks.length : Int) - 1 := by unfold wrap64; omega
  clear hm
  generalize inB n (0) ((c.ks.length : Int) - 1) = r at *
  clear h hn
  cases r
  all_goals
    go_enter Try.func74, Try.ntmps74
    go_wp2_with (go_at_call 32; refine (CI.out _).mono ?_; rintro e w' ⟨rfl, rfl⟩)
    all_goals go_ret
    all_goals exact ⟨ret_int (by first | rfl | (simp [*]; done)), by (repeat (with_reducible first | exact Below.refl _ _ | (refine bl_set ?_ (by first | omega | (simp; done) | (simp; omega)) _) | refine bl_gr ?_ _ | refine bl_al ?_ _ | refine below_setRow ?_ (by first | omega | (simp; done) | (simp; omega)) _ | refine bl_drewN ?_ _ | refine Below.drew ?_ | (refine bl_tr ?_ (by assumption))))⟩

set_option maxRecDepth 100000 in
set_option maxHeartbeats 4000000 in
theorem vpart_102 (N : Int) (c : CodeD) (i p k g : Value) (at_ : Nat) (n : Int) (hN : 1 ≤ N ∧ N ≤ 4096) (hr : 0 ≤ c.rg ∧ c.rg ≤ 4096) (hn : i64ok n) (w : World) (h : Cd4 w i p k g c) :
    Calls Try.prog 74 #[chkV c.nm c.kd c.ln c.rg i p k g N, .int .i64 (at_ : Int), .int .u8 102, .int .i64 n] w fun e w' => e = .returned (.int .i64 (prtE N c at_ 102 n)) ∧ Below w.heap.size w w' := by
  obtain ⟨A1, c1, A2, c2, A3, c3, A4, c4, rfl, rfl, rfl, rfl⟩ := h.forms
  have RS := Lib.hid (show prtE N c at_ 102 n = if inB n (1) (N - 1) = true then 0 else 43 by simp [prtE, prtC, errK])
  rw [RS.out]
  have CI := Lib.hid (fun W => vin_any n (1) (N - 1) W)
  have e1 : wrap64 (N - 1) = N - 1 := by unfold wrap64; omega
  have e2 : min (N - 1) 4096 = N - 1 := Int.min_eq_left (by clear e1; omega)
  generalize inB n (1) (N - 1) = r at *
  clear h hn
  cases r
  all_goals
    go_enter Try.func74, Try.ntmps74
    go_wp2_with (go_at_call 32; refine (CI.out _).mono ?_; rintro e w' ⟨rfl, rfl⟩)
    all_goals go_ret
    all_goals exact ⟨ret_int (by first | rfl | (simp [*]; done)), by (repeat (with_reducible first | exact Below.refl _ _ | (refine bl_set ?_ (by first | omega | (simp; done) | (simp; omega)) _) | refine bl_gr ?_ _ | refine bl_al ?_ _ | refine below_setRow ?_ (by first | omega | (simp; done) | (simp; omega)) _ | refine bl_drewN ?_ _ | refine Below.drew ?_ | (refine bl_tr ?_ (by assumption))))⟩

set_option maxRecDepth 100000 in
set_option maxHeartbeats 4000000 in
theorem vpart_110 (N : Int) (c : CodeD) (i p k g : Value) (at_ : Nat) (n : Int) (hN : 1 ≤ N ∧ N ≤ 4096) (hr : 0 ≤ c.rg ∧ c.rg ≤ 4096) (hn : i64ok n) (w : World) (h : Cd4 w i p k g c) :
    Calls Try.prog 74 #[chkV c.nm c.kd c.ln c.rg i p k g N, .int .i64 (at_ : Int), .int .u8 110, .int .i64 n] w fun e w' => e = .returned (.int .i64 (prtE N c at_ 110 n)) ∧ Below w.heap.size w w' := by
  obtain ⟨A1, c1, A2, c2, A3, c3, A4, c4, rfl, rfl, rfl, rfl⟩ := h.forms
  have RS := Lib.hid (show prtE N c at_ 110 n = if inB n (0) (65536) = true then 0 else 1 by simp [prtE, prtC, errK])
  rw [RS.out]
  have CI := Lib.hid (fun W => vin_any n (0) (65536) W)
  generalize inB n (0) (65536) = r at *
  clear h hn
  cases r
  all_goals
    go_enter Try.func74, Try.ntmps74
    go_wp2_with (go_at_call 32; refine (CI.out _).mono ?_; rintro e w' ⟨rfl, rfl⟩)
    all_goals go_ret
    all_goals exact ⟨ret_int (by first | rfl | (simp [*]; done)), by (repeat (with_reducible first | exact Below.refl _ _ | (refine bl_set ?_ (by first | omega | (simp; done) | (simp; omega)) _) | refine bl_gr ?_ _ | refine bl_al ?_ _ | refine below_setRow ?_ (by first | omega | (simp; done) | (simp; omega)) _ | refine bl_drewN ?_ _ | refine Below.drew ?_ | (refine bl_tr ?_ (by assumption))))⟩

set_option maxRecDepth 100000 in
set_option maxHeartbeats 4000000 in
theorem vpart_97 (N : Int) (c : CodeD) (i p k g : Value) (at_ : Nat) (n : Int) (hN : 1 ≤ N ∧ N ≤ 4096) (hr : 0 ≤ c.rg ∧ c.rg ≤ 4096) (hn : i64ok n) (w : World) (h : Cd4 w i p k g c) :
    Calls Try.prog 74 #[chkV c.nm c.kd c.ln c.rg i p k g N, .int .i64 (at_ : Int), .int .u8 97, .int .i64 n] w fun e w' => e = .returned (.int .i64 (prtE N c at_ 97 n)) ∧ Below w.heap.size w w' := by
  obtain ⟨A1, c1, A2, c2, A3, c3, A4, c4, rfl, rfl, rfl, rfl⟩ := h.forms
  have RS := Lib.hid (show prtE N c at_ 97 n = if inB n (-1) (1024) = true then 0 else 1 by simp [prtE, prtC, errK])
  rw [RS.out]
  have CI := Lib.hid (fun W => vin_any n (-1) (1024) W)
  generalize inB n (-1) (1024) = r at *
  clear h hn
  cases r
  all_goals
    go_enter Try.func74, Try.ntmps74
    go_wp2_with (go_at_call 32; refine (CI.out _).mono ?_; rintro e w' ⟨rfl, rfl⟩)
    all_goals go_ret
    all_goals exact ⟨ret_int (by first | rfl | (simp [*]; done)), by (repeat (with_reducible first | exact Below.refl _ _ | (refine bl_set ?_ (by first | omega | (simp; done) | (simp; omega)) _) | refine bl_gr ?_ _ | refine bl_al ?_ _ | refine below_setRow ?_ (by first | omega | (simp; done) | (simp; omega)) _ | refine bl_drewN ?_ _ | refine Below.drew ?_ | (refine bl_tr ?_ (by assumption))))⟩

set_option maxRecDepth 100000 in
set_option maxHeartbeats 4000000 in
theorem vpart_98 (N : Int) (c : CodeD) (i p k g : Value) (at_ : Nat) (n : Int) (hN : 1 ≤ N ∧ N ≤ 4096) (hr : 0 ≤ c.rg ∧ c.rg ≤ 4096) (hn : i64ok n) (w : World) (h : Cd4 w i p k g c) :
    Calls Try.prog 74 #[chkV c.nm c.kd c.ln c.rg i p k g N, .int .i64 (at_ : Int), .int .u8 98, .int .i64 n] w fun e w' => e = .returned (.int .i64 (prtE N c at_ 98 n)) ∧ Below w.heap.size w w' := by
  obtain ⟨A1, c1, A2, c2, A3, c3, A4, c4, rfl, rfl, rfl, rfl⟩ := h.forms
  have RS := Lib.hid (show prtE N c at_ 98 n = if inB n (0) (1) = true then 0 else 1 by simp [prtE, prtC, errK])
  rw [RS.out]
  have CI := Lib.hid (fun W => vin_any n (0) (1) W)
  generalize inB n (0) (1) = r at *
  clear h hn
  cases r
  all_goals
    go_enter Try.func74, Try.ntmps74
    go_wp2_with (go_at_call 32; refine (CI.out _).mono ?_; rintro e w' ⟨rfl, rfl⟩)
    all_goals go_ret
    all_goals exact ⟨ret_int (by first | rfl | (simp [*]; done)), by (repeat (with_reducible first | exact Below.refl _ _ | (refine bl_set ?_ (by first | omega | (simp; done) | (simp; omega)) _) | refine bl_gr ?_ _ | refine bl_al ?_ _ | refine below_setRow ?_ (by first | omega | (simp; done) | (simp; omega)) _ | refine bl_drewN ?_ _ | refine Below.drew ?_ | (refine bl_tr ?_ (by assumption))))⟩

set_option maxRecDepth 100000 in
set_option maxHeartbeats 4000000 in
theorem vpart_113 (N : Int) (c : CodeD) (i p k g : Value) (at_ : Nat) (n : Int) (hN : 1 ≤ N ∧ N ≤ 4096) (hr : 0 ≤ c.rg ∧ c.rg ≤ 4096) (hn : i64ok n) (w : World) (h : Cd4 w i p k g c) :
    Calls Try.prog 74 #[chkV c.nm c.kd c.ln c.rg i p k g N, .int .i64 (at_ : Int), .int .u8 113, .int .i64 n] w fun e w' => e = .returned (.int .i64 (prtE N c at_ 113 n)) ∧ Below w.heap.size w w' := by
  obtain ⟨A1, c1, A2, c2, A3, c3, A4, c4, rfl, rfl, rfl, rfl⟩ := h.forms
  by_cases h0 : 0 ≤ n
  · have e1 : wrap64 (n.tdiv 2) = n / 2 := by rw [Int.tdiv_eq_ediv_of_nonneg h0]; unfold i64ok at hn; unfold wrap64; omega
    by_cases h1 : n / 2 < c.rg
    · have RS := Lib.hid (show prtE N c at_ 113 n = 0 by simp [prtE, prtC, h0, h1])
      rw [RS.out]
      clear h hn
      go_enter Try.func74, Try.ntmps74
      go_wp2
      all_goals go_ret
      all_goals exact ⟨rfl, by (repeat (with_reducible first | exact Below.refl _ _ | (refine bl_set ?_ (by first | omega | (simp; done) | (simp; omega)) _) | refine bl_gr ?_ _ | refine bl_al ?_ _ | refine below_setRow ?_ (by first | omega | (simp; done) | (simp; omega)) _ | refine bl_drewN ?_ _ | refine Below.drew ?_ | (refine bl_tr ?_ (by assumption))))⟩
    · have RS := Lib.hid (show prtE N c at_ 113 n = 41 by simp [prtE, prtC, h0, h1, errK])
      rw [RS.out]
      clear h hn
      go_enter Try.func74, Try.ntmps74
      go_wp2
      all_goals go_ret
      all_goals exact ⟨rfl, by (repeat (with_reducible first | exact Below.refl _ _ | (refine bl_set ?_ (by first | omega | (simp; done) | (simp; omega)) _) | refine bl_gr ?_ _ | refine bl_al ?_ _ | refine below_setRow ?_ (by first | omega | (simp; done) | (simp; omega)) _ | refine bl_drewN ?_ _ | refine Below.drew ?_ | (refine bl_tr ?_ (by assumption))))⟩
  · have RS := Lib.hid (show prtE N c at_ 113 n = 41 by simp [prtE, prtC, h0, errK])
    rw [RS.out]
    clear h hn
    go_enter Try.func74, Try.ntmps74
    go_wp2
    all_goals go_ret
    all_goals exact ⟨rfl, by (repeat (with_reducible first | exact Below.refl _ _ | (refine bl_set ?_ (by first | omega | (simp; done) | (simp; omega)) _) | refine bl_gr ?_ _ | refine bl_al ?_ _ | refine below_setRow ?_ (by first | omega | (simp; done) | (simp; omega)) _ | refine bl_drewN ?_ _ | refine Below.drew ?_ | (refine bl_tr ?_ (by assumption))))⟩

set_option maxRecDepth 100000 in
set_option maxHeartbeats 4000000 in
theorem vpart_116 (N : Int) (c : CodeD) (i p k g : Value) (at_ : Nat) (n : Int) (hN : 1 ≤ N ∧ N ≤ 4096) (hr : 0 ≤ c.rg ∧ c.rg ≤ 4096) (hn : i64ok n) (w : World) (h : Cd4 w i p k g c) :
    Calls Try.prog 74 #[chkV c.nm c.kd c.ln c.rg i p k g N, .int .i64 (at_ : Int), .int .u8 116, .int .i64 n] w fun e w' => e = .returned (.int .i64 (prtE N c at_ 116 n)) ∧ Below w.heap.size w w' := by
  obtain ⟨A1, c1, A2, c2, A3, c3, A4, c4, rfl, rfl, rfl, rfl⟩ := h.forms
  by_cases h0 : 0 ≤ n
  · have e1 : wrap64 (n.tdiv 4) = n / 4 := by rw [Int.tdiv_eq_ediv_of_nonneg h0]; unfold i64ok at hn; unfold wrap64; omega
    have e2 : n.tmod 4 = n % 4 := Int.tmod_eq_emod_of_nonneg h0
    by_cases h1 : n / 4 < c.rg
    · by_cases h2 : n % 4 ≤ 2
      · have RS := Lib.hid (show prtE N c at_ 116 n = 0 by simp [prtE, h0, h1, h2])
        rw [RS.out]
        clear h hn
        go_enter Try.func74, Try.ntmps74
        go_wp2
        all_goals go_ret
        all_goals exact ⟨rfl, by (repeat (with_reducible first | exact Below.refl _ _ | (refine bl_set ?_ (by first | omega | (simp; done) | (simp; omega)) _) | refine bl_gr ?_ _ | refine bl_al ?_ _ | refine below_setRow ?_ (by first | omega | (simp; done) | (simp; omega)) _ | refine bl_drewN ?_ _ | refine Below.drew ?_ | (refine bl_tr ?_ (by assumption))))⟩
      · have RS := Lib.hid (show prtE N c at_ 116 n = 1 by simp [prtE, h0, h1, h2])
        rw [RS.out]
        clear h hn
        go_enter Try.func74, Try.ntmps74
        go_wp2
        all_goals go_ret
        all_goals exact ⟨rfl, by (repeat (with_reducible first | exact Below.refl _ _ | (refine bl_set ?_ (by first | omega | (simp; done) | (simp; omega)) _) | refine bl_gr ?_ _ | refine bl_al ?_ _ | refine below_setRow ?_ (by first | omega | (simp; done) | (simp; omega)) _ | refine bl_drewN ?_ _ | refine Below.drew ?_ | (refine bl_tr ?_ (by assumption))))⟩
    · have RS := Lib.hid (show prtE N c at_ 116 n = 41 by simp [prtE, h0, h1])
      rw [RS.out]
      clear h hn
      go_enter Try.func74, Try.ntmps74
      go_wp2
      all_goals go_ret
      all_goals exact ⟨rfl, by (repeat (with_reducible first | exact Below.refl _ _ | (refine bl_set ?_ (by first | omega | (simp; done) | (simp; omega)) _) | refine bl_gr ?_ _ | refine bl_al ?_ _ | refine below_setRow ?_ (by first | omega | (simp; done) | (simp; omega)) _ | refine bl_drewN ?_ _ | refine Below.drew ?_ | (refine bl_tr ?_ (by assumption))))⟩
  · have RS := Lib.hid (show prtE N c at_ 116 n = 41 by simp [prtE, h0])
    rw [RS.out]
    clear h hn
    go_enter Try.func74, Try.ntmps74
    go_wp2
    all_goals go_ret
    all_goals exact ⟨rfl, by (repeat (with_reducible first | exact Below.refl _ _ | (refine bl_set ?_ (by first | omega | (simp; done) | (simp; omega)) _) | refine bl_gr ?_ _ | refine bl_al ?_ _ | refine below_setRow ?_ (by first | omega | (simp; done) | (simp; omega)) _ | refine bl_drewN ?_ _ | refine Below.drew ?_ | (refine bl_tr ?_ (by assumption))))⟩

set_option maxRecDepth 100000 in
set_option maxHeartbeats 4000000 in
theorem vpart_111 (N : Int) (c : CodeD) (i p k g : Value) (at_ : Nat) (n : Int) (hN : 1 ≤ N ∧ N ≤ 4096) (hr : 0 ≤ c.rg ∧ c.rg ≤ 4096) (hn : i64ok n) (w : World) (h : Cd4 w i p k g c) :
    Calls Try.prog 74 #[chkV c.nm c.kd c.ln c.rg i p k g N, .int .i64 (at_ : Int), .int .u8 111, .int .i64 n] w fun e w' => e = .returned (.int .i64 (prtE N c at_ 111 n)) ∧ Below w.heap.size w w' := by
  obtain ⟨A1, c1, A2, c2, A3, c3, A4, c4, rfl, rfl, rfl, rfl⟩ := h.forms
  have RS := Lib.hid (show prtE N c at_ 111 n = if (inB n 0 ((c.pl.length : Int) - 1) && (c.pl.getD n.toNat .zero).k == 5) = true then 0 else 43 by simp [prtE, prtC, errK])
  rw [RS.out]
  have hm := h.p.1
  unfold maxLen at hm
  have e1 : wrap64 ((c.pl.length : Int) - 1) = (c.pl.length : Int) - 1 := by unfold wrap64; omega
  by_cases hb : 0 ≤ n ∧ n ≤ (c.pl.length : Int) - 1
  · obtain ⟨m, rfl⟩ : ∃ m : Nat, n = (m : Int) := ⟨n.toNat, by clear e1; omega⟩
    have hlt : m < c.pl.length := by clear e1; omega
    have hi : inB (m : Int) 0 ((c.pl.length : Int) - 1) = true := by simp [inB, hb]
    have CI := Lib.hid (fun W => by have := vin_any (m : Int) 0 ((c.pl.length : Int) - 1) W; rw [hi] at this; exact this : ∀ W, Calls Try.prog 32 #[.int .i64 (m : Int), .int .i64 0, .int .i64 ((c.pl.length : Int) - 1)] W fun e w' => e = .returned (.bool true) ∧ W = w')
    rw [hi, Int.toNat_natCast]
    obtain ⟨x, hx⟩ : ∃ x, c.pl[m]? = some x := ⟨_, List.getElem?_eq_getElem hlt⟩
    have hg : c.pl.getD m .zero = x := by rw [List.getD_eq_getElem?_getD, hx]; rfl
    rw [hg]
    obtain ⟨b, off, cap', e2, lb, h0, h1, h2⟩ := at_Vl h.p hx
    simp only [Value.slice.injEq] at e2
    obtain ⟨rfl, -, -⟩ := e2
    have q0 : ¬ (m : Int) < 0 := by clear e1; omega
    have q1 : (m : Int) < (c.pl.length : Int) := by clear e1; omega
    have lbn : ∀ u, b < w.heap.size + u := fun u => Nat.lt_of_lt_of_le lb (Nat.le_add_right _ _)
    clear h hb hlt hi hm hx hg hn
    cases hk : x.k == 5
    all_goals
      go_enter Try.func74, Try.ntmps74
      go_wp2_with (go_at_call 32; refine (CI.out _).mono ?_; rintro e w' ⟨rfl, rfl⟩)
      all_goals go_ret
      all_goals exact ⟨ret_int (by simp), by (repeat (with_reducible first | exact Below.refl _ _ | (refine bl_set ?_ (by first | omega | (simp; done) | (simp; omega)) _) | refine bl_gr ?_ _ | refine bl_al ?_ _ | refine below_setRow ?_ (by first | omega | (simp; done) | (simp; omega)) _ | refine bl_drewN ?_ _ | refine Below.drew ?_ | (refine bl_tr ?_ (by assumption))))⟩
  · have hi : inB n 0 ((c.pl.length : Int) - 1) = false := by simp only [inB, Bool.and_eq_false_iff, decide_eq_false_iff_not]; clear e1; omega
    have CI := Lib.hid (fun W => by have := vin_any n 0 ((c.pl.length : Int) - 1) W; rw [hi] at this; exact this : ∀ W, Calls Try.prog 32 #[.int .i64 n, .int .i64 0, .int .i64 ((c.pl.length : Int) - 1)] W fun e w' => e = .returned (.bool false) ∧ W = w')
    rw [hi]
    clear h hb hi hm
    go_enter Try.func74, Try.ntmps74
    go_wp2_with (go_at_call 32; refine (CI.out _).mono ?_; rintro e w' ⟨rfl, rfl⟩)
    all_goals go_ret
    all_goals exact ⟨ret_int (by simp), by (repeat (with_reducible first | exact Below.refl _ _ | (refine bl_set ?_ (by first | omega | (simp; done) | (simp; omega)) _) | refine bl_gr ?_ _ | refine bl_al ?_ _ | refine below_setRow ?_ (by first | omega | (simp; done) | (simp; omega)) _ | refine bl_drewN ?_ _ | refine Below.drew ?_ | (refine bl_tr ?_ (by assumption))))⟩

set_option maxRecDepth 100000 in
set_option maxHeartbeats 4000000 in
theorem vpart_103 (N : Int) (c : CodeD) (i p k g : Value) (at_ : Nat) (n : Int) (hN : 1 ≤ N ∧ N ≤ 4096) (hr : 0 ≤ c.rg ∧ c.rg ≤ 4096) (hn : i64ok n) (w : World) (h : Cd4 w i p k g c) :
    Calls Try.prog 74 #[chkV c.nm c.kd c.ln c.rg i p k g N, .int .i64 (at_ : Int), .int .u8 103, .int .i64 n] w fun e w' => e = .returned (.int .i64 (prtE N c at_ 103 n)) ∧ Below w.heap.size w w' := by
  obtain ⟨A1, c1, A2, c2, A3, c3, A4, c4, rfl, rfl, rfl, rfl⟩ := h.forms
  have RS := Lib.hid (show prtE N c at_ 103 n = if (inB n 0 ((c.ks.length : Int) - 1) && (c.ks.getD n.toNat .zero).k == 1) = true then 0 else 43 by simp [prtE, prtC, errK])
  rw [RS.out]
  have hm := h.k.1
  unfold maxLen at hm
  have e1 : wrap64 ((c.ks.length : Int) - 1) = (c.ks.length : Int) - 1 := by unfold wrap64; omega
  by_cases hb : 0 ≤ n ∧ n ≤ (c.ks.length : Int) - 1
  · obtain ⟨m, rfl⟩ : ∃ m : Nat, n = (m : Int) := ⟨n.toNat, by clear e1; omega⟩
    have hlt : m < c.ks.length := by clear e1; omega
    have hi : inB (m : Int) 0 ((c.ks.length : Int) - 1) = true := by simp [inB, hb]
    have CI := Lib.hid (fun W => by have := vin_any (m : Int) 0 ((c.ks.length : Int) - 1) W; rw [hi] at this; exact this : ∀ W, Calls Try.prog 32 #[.int .i64 (m : Int), .int .i64 0, .int .i64 ((c.ks.length : Int) - 1)] W fun e w' => e = .returned (.bool true) ∧ W = w')
    rw [hi, Int.toNat_natCast]
    obtain ⟨x, hx⟩ : ∃ x, c.ks[m]? = some x := ⟨_, List.getElem?_eq_getElem hlt⟩
    have hg : c.ks.getD m .zero = x := by rw [List.getD_eq_getElem?_getD, hx]; rfl
    rw [hg]
    obtain ⟨b, off, cap', e2, lb, h0, h1, h2⟩ := at_Ky h.k hx
    simp only [Value.slice.injEq] at e2
    obtain ⟨rfl, -, -⟩ := e2
    have q0 : ¬ (m : Int) < 0 := by clear e1; omega
    have q1 : (m : Int) < (c.ks.length : Int) := by clear e1; omega
    have lbn : ∀ u, b < w.heap.size + u := fun u => Nat.lt_of_lt_of_le lb (Nat.le_add_right _ _)
    clear h hb hlt hi hm hx hg hn
    cases hk : x.k == 1
    all_goals
      go_enter Try.func74, Try.ntmps74
      go_wp2_with (go_at_call 32; refine (CI.out _).mono ?_; rintro e w' ⟨rfl, rfl⟩)
      all_goals go_ret
      all_goals exact ⟨ret_int (by simp), by (repeat (with_reducible first | exact Below.refl _ _ | (refine bl_set ?_ (by first | omega | (simp; done) | (simp; omega)) _) | refine bl_gr ?_ _ | refine bl_al ?_ _ | refine below_setRow ?_ (by first | omega | (simp; done) | (simp; omega)) _ | refine bl_drewN ?_ _ | refine Below.drew ?_ | (refine bl_tr ?_ (by assumption))))⟩
  · have hi : inB n 0 ((c.ks.length : Int) - 1) = false := by simp only [inB, Bool.and_eq_false_iff, decide_eq_false_iff_not]; clear e1; omega
    have CI := Lib.hid (fun W => by have := vin_any n 0 ((c.ks.length : Int) - 1) W; rw [hi] at this; exact this : ∀ W, Calls Try.prog 32 #[.int .i64 n, .int .i64 0, .int .i64 ((c.ks.length : Int) - 1)] W fun e w' => e = .returned (.bool false) ∧ W = w')
    rw [hi]
    clear h hb hi hm
    go_enter Try.func74, Try.ntmps74
    go_wp2_with (go_at_call 32; refine (CI.out _).mono ?_; rintro e w' ⟨rfl, rfl⟩)
    all_goals go_ret
    all_goals exact ⟨ret_int (by simp), by (repeat (with_reducible first | exact Below.refl _ _ | (refine bl_set ?_ (by first | omega | (simp; done) | (simp; omega)) _) | refine bl_gr ?_ _ | refine bl_al ?_ _ | refine below_setRow ?_ (by first | omega | (simp; done) | (simp; omega)) _ | refine bl_drewN ?_ _ | refine Below.drew ?_ | (refine bl_tr ?_ (by assumption))))⟩

set_option maxRecDepth 100000 in
set_option maxHeartbeats 4000000 in
theorem vpart_45 (N : Int) (c : CodeD) (i p k g : Value) (at_ : Nat) (n : Int) (hN : 1 ≤ N ∧ N ≤ 4096) (hr : 0 ≤ c.rg ∧ c.rg ≤ 4096) (hn : i64ok n) (w : World) (h : Cd4 w i p k g c) :
    Calls Try.prog 74 #[chkV c.nm c.kd c.ln c.rg i p k g N, .int .i64 (at_ : Int), .int .u8 45, .int .i64 n] w fun e w' => e = .returned (.int .i64 (prtE N c at_ 45 n)) ∧ Below w.heap.size w w' := by
  obtain ⟨A1, c1, A2, c2, A3, c3, A4, c4, rfl, rfl, rfl, rfl⟩ := h.forms
  have RS := Lib.hid (show prtE N c at_ 45 n = if (n == 0) = true then 0 else 1 by simp [prtE, prtC, errK])
  rw [RS.out]
  clear h hn
  cases hk : n == 0
  all_goals
    go_enter Try.func74, Try.ntmps74
    go_wp2
    all_goals go_ret
    all_goals exact ⟨ret_int (by simp), by (repeat (with_reducible first | exact Below.refl _ _ | (refine bl_set ?_ (by first | omega | (simp; done) | (simp; omega)) _) | refine bl_gr ?_ _ | refine bl_al ?_ _ | refine below_setRow ?_ (by first | omega | (simp; done) | (simp; omega)) _ | refine bl_drewN ?_ _ | refine Below.drew ?_ | (refine bl_tr ?_ (by assumption))))⟩

set_option maxRecDepth 100000 in
set_option maxHeartbeats 4000000 in
theorem vpart_106 (N : Int) (c : CodeD) (i p k g : Value) (at_ : Nat) (n : Int) (hN : 1 ≤ N ∧ N ≤ 4096) (hr : 0 ≤ c.rg ∧ c.rg ≤ 4096) (hn : i64ok n) (w : World) (h : Cd4 w i p k g c) :
    Calls Try.prog 74 #[chkV c.nm c.kd c.ln c.rg i p k g N, .int .i64 (at_ : Int), .int .u8 106, .int .i64 n] w fun e w' => e = .returned (.int .i64 (prtE N c at_ 106 n)) ∧ Below w.heap.size w w' := by
  obtain ⟨A1, c1, A2, c2, A3, c3, A4, c4, rfl, rfl, rfl, rfl⟩ := h.forms
  have RS := Lib.hid (show prtE N c at_ 106 n = if plcC c at_ n = true then 0 else 42 by simp [prtE])
  rw [RS.out]
  have CI := Lib.hid (fun W hW => place_any N c (.slice A1 c.ins.length c1) (.slice A2 c.pl.length c2) (.slice A3 c.ks.length c3) (.slice A4 c.gs.length c4) at_ n W (h.below hW) : ∀ W, Below w.heap.size w W → _)
  generalize plcC c at_ n = r at *
  clear h hn
  cases r
  all_goals
    go_enter Try.func74, Try.ntmps74
    go_wp2_with (go_at_call 84; refine (callGr (CI.out _ (by (repeat (with_reducible first | exact Below.refl _ _ | (refine bl_set ?_ (by first | omega | (simp; done) | (simp; omega)) _) | refine bl_gr ?_ _ | refine bl_al ?_ _ | refine below_setRow ?_ (by first | omega | (simp; done) | (simp; omega)) _ | refine bl_drewN ?_ _ | refine Below.drew ?_ | (refine bl_tr ?_ (by assumption))))))).mono ?_; rintro e w' ⟨pp, rfl, rfl⟩)
    all_goals go_ret
    all_goals exact ⟨ret_int (by first | rfl | (simp [*]; done)), by (repeat (with_reducible first | exact Below.refl _ _ | (refine bl_set ?_ (by first | omega | (simp; done) | (simp; omega)) _) | refine bl_gr ?_ _ | refine bl_al ?_ _ | refine below_setRow ?_ (by first | omega | (simp; done) | (simp; omega)) _ | refine bl_drewN ?_ _ | refine Below.drew ?_ | (refine bl_tr ?_ (by assumption))))⟩

theorem vpart_any (N : Int) (c : CodeD) (i p k g : Value) (at_ : Nat) (s : Nat) (hs : kindOk s = true) (n : Int) (hN : 1 ≤ N ∧ N ≤ 4096) (hr : 0 ≤ c.rg ∧ c.rg ≤ 4096) (hn : i64ok n) (w : World) (h : Cd4 w i p k g c) :
    Calls Try.prog 74 #[chkV c.nm c.kd c.ln c.rg i p k g N, .int .i64 (at_ : Int), .int .u8 (s : Int), .int .i64 n] w fun e w' => e = .returned (.int .i64 (prtE N c at_ s n)) ∧ Below w.heap.size w w' := by
  simp only [kindOk, List.contains_cons, List.contains_nil, Bool.or_false, Bool.or_eq_true, beq_iff_eq] at hs
  rcases hs with rfl | rfl | rfl | rfl | rfl | rfl | rfl | rfl | rfl | rfl | rfl | rfl | rfl
  · exact vpart_45 N c i p k g at_ n hN hr hn w h
  · exact vpart_114 N c i p k g at_ n hN hr hn w h
  · exact vpart_112 N c i p k g at_ n hN hr hn w h
  · exact vpart_110 N c i p k g at_ n hN hr hn w h
  · exact vpart_103 N c i p k g at_ n hN hr hn w h
  · exact vpart_98 N c i p k g at_ n hN hr hn w h
  · exact vpart_116 N c i p k g at_ n hN hr hn w h
  · exact vpart_113 N c i p k g at_ n hN hr hn w h
  · exact vpart_97 N c i p k g at_ n hN hr hn w h
  · exact vpart_102 N c i p k g at_ n hN hr hn w h
  · exact vpart_100 N c i p k g at_ n hN hr hn w h
  · exact vpart_111 N c i p k g at_ n hN hr hn w h
  · exact vpart_106 N c i p k g at_ n hN hr hn w h
end Go.Proofs.Ytcmpgohpncnagaa
