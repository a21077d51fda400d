/- Operands: in, part; the reference's (printed by gen51F.py). -/
import Derived.Test.YtcmpgohpncnagaaCdE
namespace Go.Proofs.Ytcmpgohpncnagaa
set_option linter.all false
open Go.ChangeShapes Go.WideShapes Go.ChangeAt Go.RowKit Go.Sort Go.Deep Go.Shelf

def inB (n lo hi : Int) : Bool := decide (lo ≤ n) && decide (n ≤ hi)
set_option maxRecDepth 100000 in
set_option maxHeartbeats 4000000 in
theorem cin_any (n lo hi : Int) (w : World) : Calls Try.prog 35 #[.int .i64 n, .int .i64 lo, .int .i64 hi] w fun e w' => e = .returned (.bool (inB n lo hi)) ∧ w = w' := by
  have RS := Lib.hid (show inB n lo hi = (decide (lo ≤ n) && decide (n ≤ hi)) from rfl)
  rw [RS.out]
  go_enter Try.func35, Try.ntmps35
  go_wp2
  all_goals go_ret
  all_goals exact ⟨ret_bool (by first | (simp [*]; done) | (simp [*]; omega)), rfl⟩
set_option maxRecDepth 100000 in
set_option maxHeartbeats 4000000 in
theorem vin_any (n lo hi : Int) (w : World) : Calls Try.prog 32 #[.int .i64 n, .int .i64 lo, .int .i64 hi] w fun e w' => e = .returned (.bool (inB n lo hi)) ∧ w = w' := by
  have RS := Lib.hid (show inB n lo hi = (decide (lo ≤ n) && decide (n ≤ hi)) from rfl)
  rw [RS.out]
  go_enter Try.func32, Try.ntmps32
  go_wp2
  all_goals go_ret
  all_goals exact ⟨ret_bool (by first | (simp [*]; done) | (simp [*]; omega)), rfl⟩
set_option maxRecDepth 100000 in
set_option maxHeartbeats 4000000 in
theorem rin_any (n b : Int) (w : World) : Calls Try.prog 71 #[.int .i64 n, .int .i64 b] w fun e w' => e = .returned (.bool (decide (0 ≤ n) && decide (n < b))) ∧ w = w' := by
  go_enter Try.func71, Try.ntmps71
  go_wp2
  all_goals go_ret
  all_goals exact ⟨ret_bool (by first | (simp [*]; done) | (simp [*]; omega)), rfl⟩
/-- is an operand valid by its kind -/
def prtC (c : CodeD) (s : Nat) (n : Int) : Bool :=
  if s = 114 then inB n 0 (c.rg - 1)
  else if s = 100 then inB n 0 (c.rg - 2)
  else if s = 113 then decide (0 ≤ n) && decide (n / 2 < c.rg)
  else if s = 116 then decide (0 ≤ n) && decide (n / 4 < c.rg) && decide (n % 4 ≤ 2)
  else if s = 112 then inB n 0 (c.pl.length - 1)
  else if s = 111 then inB n 0 (c.pl.length - 1) && (c.pl.getD n.toNat .zero).k == 5
  else if s = 107 then inB n 0 (c.ks.length - 1)
  else if s = 103 then inB n 0 (c.ks.length - 1) && (c.ks.getD n.toNat .zero).k == 1
  else if s = 102 then inB n 0 4096
  else if s = 106 then inB n 0 (c.ins.length - 1)
  else if s = 110 then inB n 0 65536
  else if s = 97 then inB n (-1) 1024
  else if s = 98 then inB n 0 1
  else n == 0
abbrev codeO (nm : ByteArray) (kd ln rg : Int) (i p k g : Value) : Obj := .cells #[.string nm, .int .i64 kd, .int .i64 ln, .int .i64 rg, i, p, k, g] 27
theorem cells8 {w : World} {b : Nat} {nm : ByteArray} {kd ln rg : Int} {i p k g : Value} (h : w.heap[b]? = some (codeO nm kd ln rg i p k g)) : (w.cell? ⟨b, 0, none⟩ = some (.string nm) ∧ w.cell? ⟨b, 1, none⟩ = some (.int .i64 kd) ∧ w.cell? ⟨b, 2, none⟩ = some (.int .i64 ln) ∧ w.cell? ⟨b, 3, none⟩ = some (.int .i64 rg) ∧
    w.cell? ⟨b, 4, none⟩ = some i ∧ w.cell? ⟨b, 5, none⟩ = some p ∧ w.cell? ⟨b, 6, none⟩ = some k ∧ w.cell? ⟨b, 7, none⟩ = some g) ∧ ∀ j, w.frozen? ⟨b, j, none⟩ = false := by
  refine ⟨?_, fun j => frozen_of_row w b _ _ _ h⟩
  and_intros <;> (rw [cell_of_row w b _ _ _ _ h]; rfl)
theorem Cd4.forms {w : World} {i p k g : Value} {c : CodeD} (h : Cd4 w i p k g c) : ∃ A1 c1 A2 c2 A3 c3 A4 c4, i = .slice A1 c.ins.length c1 ∧ p = .slice A2 c.pl.length c2 ∧ k = .slice A3 c.ks.length c3 ∧ g = .slice A4 c.gs.length c4 := by
  obtain ⟨A1, c1, e1, _, _⟩ := h.i.form
  obtain ⟨A2, c2, e2, _, _⟩ := h.p.form
  obtain ⟨A3, c3, e3, _, _⟩ := h.k.form
  obtain ⟨A4, c4, e4, _, _⟩ := h.g.form
  exact ⟨A1, c1, A2, c2, A3, c3, A4, c4, e1, e2, e3, e4⟩

set_option maxRecDepth 100000 in
set_option maxHeartbeats 4000000 in
theorem part_114 (c : CodeD) (i p k g : Value) (n : Int) (hr : 0 ≤ c.rg ∧ c.rg ≤ 4096) (hn : i64ok n) (w : World) (h : Cd4 w i p k g c) :
    Calls Try.prog 66 #[codeV c.nm c.kd c.ln c.rg i p k g, .int .u8 114, .int .i64 n] w fun e w' => e = .returned (.bool (prtC c 114 n)) ∧ Below w.heap.size w w' := by
  obtain ⟨A1, c1, A2, c2, A3, c3, A4, c4, rfl, rfl, rfl, rfl⟩ := h.forms
  have RS := Lib.hid (show prtC c 114 n = inB n 0 (c.rg - 1) by simp [prtC])
  rw [RS.out]
  have e1 : wrap64 (c.rg - 1) = c.rg - 1 := by unfold wrap64; omega
  clear h
  go_enter Try.func66, Try.ntmps66
  go_wp2_with (go_at_call 35; refine (cin_any _ _ _ _).mono ?_; rintro e w' ⟨rfl, rfl⟩)
  all_goals go_ret
  all_goals exact ⟨ret_bool (by first | rfl | (simp [*]; done) | (simp [*]; omega)), by (repeat (with_reducible first | exact Below.refl _ _ | (refine bl_set ?_ (by first | omega | (simp; done) | (simp; omega)) _) | refine bl_gr ?_ _ | refine bl_al ?_ _ | refine below_setRow ?_ (by first | omega | (simp; done) | (simp; omega)) _ | refine bl_drewN ?_ _ | refine Below.drew ?_ | (refine bl_tr ?_ (by assumption))))⟩

set_option maxRecDepth 100000 in
set_option maxHeartbeats 4000000 in
theorem part_100 (c : CodeD) (i p k g : Value) (n : Int) (hr : 0 ≤ c.rg ∧ c.rg ≤ 4096) (hn : i64ok n) (w : World) (h : Cd4 w i p k g c) :
    Calls Try.prog 66 #[codeV c.nm c.kd c.ln c.rg i p k g, .int .u8 100, .int .i64 n] w fun e w' => e = .returned (.bool (prtC c 100 n)) ∧ Below w.heap.size w w' := by
  obtain ⟨A1, c1, A2, c2, A3, c3, A4, c4, rfl, rfl, rfl, rfl⟩ := h.forms
  have RS := Lib.hid (show prtC c 100 n = inB n 0 (c.rg - 2) by simp [prtC])
  rw [RS.out]
  have e1 : wrap64 (c.rg - 2) = c.rg - 2 := by unfold wrap64; omega
  clear h
  go_enter Try.func66, Try.ntmps66
  go_wp2_with (go_at_call 35; refine (cin_any _ _ _ _).mono ?_; rintro e w' ⟨rfl, rfl⟩)
  all_goals go_ret
  all_goals exact ⟨ret_bool (by first | rfl | (simp [*]; done) | (simp [*]; omega)), by (repeat (with_reducible first | exact Below.refl _ _ | (refine bl_set ?_ (by first | omega | (simp; done) | (simp; omega)) _) | refine bl_gr ?_ _ | refine bl_al ?_ _ | refine below_setRow ?_ (by first | omega | (simp; done) | (simp; omega)) _ | refine bl_drewN ?_ _ | refine Below.drew ?_ | (refine bl_tr ?_ (by assumption))))⟩

set_option maxRecDepth 100000 in
set_option maxHeartbeats 4000000 in
theorem part_113 (c : CodeD) (i p k g : Value) (n : Int) (hr : 0 ≤ c.rg ∧ c.rg ≤ 4096) (hn : i64ok n) (w : World) (h : Cd4 w i p k g c) :
    Calls Try.prog 66 #[codeV c.nm c.kd c.ln c.rg i p k g, .int .u8 113, .int .i64 n] w fun e w' => e = .returned (.bool (prtC c 113 n)) ∧ Below w.heap.size w w' := by
  obtain ⟨A1, c1, A2, c2, A3, c3, A4, c4, rfl, rfl, rfl, rfl⟩ := h.forms
  have RS := Lib.hid (show prtC c 113 n = (decide (0 ≤ n) && decide (n / 2 < c.rg)) by simp [prtC])
  rw [RS.out]
  have e1 : 0 ≤ n → wrap64 (n.tdiv 2) = n / 2 := fun h0 => by rw [Int.tdiv_eq_ediv_of_nonneg h0]; unfold i64ok at hn; unfold wrap64; omega
  clear h
  go_enter Try.func66, Try.ntmps66
  go_wp2_with (go_at_call 35; refine (cin_any _ _ _ _).mono ?_; rintro e w' ⟨rfl, rfl⟩)
  all_goals go_ret
  all_goals exact ⟨ret_bool (by first | rfl | (simp [*]; done) | (simp [*]; omega)), by (repeat (with_reducible first | exact Below.refl _ _ | (refine bl_set ?_ (by first | omega | (simp; done) | (simp; omega)) _) | refine bl_gr ?_ _ | refine bl_al ?_ _ | refine below_setRow ?_ (by first | omega | (simp; done) | (simp; omega)) _ | refine bl_drewN ?_ _ | refine Below.drew ?_ | (refine bl_tr ?_ (by assumption))))⟩

set_option maxRecDepth 100000 in
set_option maxHeartbeats 4000000 in
theorem part_116 (c : CodeD) (i p k g : Value) (n : Int) (hr : 0 ≤ c.rg ∧ c.rg ≤ 4096) (hn : i64ok n) (w : World) (h : Cd4 w i p k g c) :
    Calls Try.prog 66 #[codeV c.nm c.kd c.ln c.rg i p k g, .int .u8 116, .int .i64 n] w fun e w' => e = .returned (.bool (prtC c 116 n)) ∧ Below w.heap.size w w' := by
  obtain ⟨A1, c1, A2, c2, A3, c3, A4, c4, rfl, rfl, rfl, rfl⟩ := h.forms
  have RS := Lib.hid (show prtC c 116 n = (decide (0 ≤ n) && decide (n / 4 < c.rg) && decide (n % 4 ≤ 2)) by simp [prtC])
  rw [RS.out]
  have e1 : 0 ≤ n → wrap64 (n.tdiv 4) = n / 4 := fun h0 => by rw [Int.tdiv_eq_ediv_of_nonneg h0]; unfold i64ok at hn; unfold wrap64; omega
  clear h
  go_enter Try.func66, Try.ntmps66
  go_wp2_with (go_at_call 35; refine (cin_any _ _ _ _).mono ?_; rintro e w' ⟨rfl, rfl⟩)
  all_goals go_ret
  all_goals exact ⟨ret_bool (by first | rfl | (simp [*]; done) | (simp [*]; omega)), by (repeat (with_reducible first | exact Below.refl _ _ | (refine bl_set ?_ (by first | omega | (simp; done) | (simp; omega)) _) | refine bl_gr ?_ _ | refine bl_al ?_ _ | refine below_setRow ?_ (by first | omega | (simp; done) | (simp; omega)) _ | refine bl_drewN ?_ _ | refine Below.drew ?_ | (refine bl_tr ?_ (by assumption))))⟩

set_option maxRecDepth 100000 in
set_option maxHeartbeats 4000000 in
theorem part_112 (c : CodeD) (i p k g : Value) (n : Int) (hr : 0 ≤ c.rg ∧ c.rg ≤ 4096) (hn : i64ok n) (w : World) (h : Cd4 w i p k g c) :
    Calls Try.prog 66 #[codeV c.nm c.kd c.ln c.rg i p k g, .int .u8 112, .int .i64 n] w fun e w' => e = .returned (.bool (prtC c 112 n)) ∧ Below w.heap.size w w' := by
  obtain ⟨A1, c1, A2, c2, A3, c3, A4, c4, rfl, rfl, rfl, rfl⟩ := h.forms
  have RS := Lib.hid (show prtC c 112 n = inB n 0 (c.pl.length - 1) by simp [prtC])
  rw [RS.out]
  have hm := h.p.1
  unfold maxLen at hm
  have e1 : wrap64 ((c.pl.length : Int) - 1) = (c.pl.length : Int) - 1 := by unfold wrap64; omega
  clear hm
  clear h
  go_enter Try.func66, Try.ntmps66
  go_wp2_with (go_at_call 35; refine (cin_any _ _ _ _).mono ?_; rintro e w' ⟨rfl, rfl⟩)
  all_goals go_ret
  all_goals exact ⟨ret_bool (by first | rfl | (simp [*]; done) | (simp [*]; omega)), by (repeat (with_reducible first | exact Below.refl _ _ | (refine bl_set ?_ (by first | omega | (simp; done) | (simp; omega)) _) | refine bl_gr ?_ _ | refine bl_al ?_ _ | refine below_setRow ?_ (by first | omega | (simp; done) | (simp; omega)) _ | refine bl_drewN ?_ _ | refine Below.drew ?_ | (refine bl_tr ?_ (by assumption))))⟩

set_option maxRecDepth 100000 in
set_option maxHeartbeats 4000000 in
theorem part_107 (c : CodeD) (i p k g : Value) (n : Int) (hr : 0 ≤ c.rg ∧ c.rg ≤ 4096) (hn : i64ok n) (w : World) (h : Cd4 w i p k g c) :
    Calls Try.prog 66 #[codeV c.nm c.kd c.ln c.rg i p k g, .int .u8 107, .int .i64 n] w fun e w' => e = .returned (.bool (prtC c 107 n)) ∧ Below w.heap.size w w' := by
  obtain ⟨A1, c1, A2, c2, A3, c3, A4, c4, rfl, rfl, rfl, rfl⟩ := h.forms
  have RS := Lib.hid (show prtC c 107 n = inB n 0 (c.ks.length - 1) by simp [prtC])
  rw [RS.out]
  have hm := h.k.1
  unfold maxLen at hm
  have e1 : wrap64 ((c.ks.length : Int) - 1) = (c.ks.length : Int) - 1 := by unfold wrap64; omega
  clear hm
  clear h
  go_enter Try.func66, Try.ntmps66
  go_wp2_with (go_at_call 35; refine (cin_any _ _ _ _).mono ?_; rintro e w' ⟨rfl, rfl⟩)
  all_goals go_ret
  all_goals exact ⟨ret_bool (by first | rfl | (simp [*]; done) | (simp [*]; omega)), by (repeat (with_reducible first | exact Below.refl _ _ | (refine bl_set ?_ (by first | omega | (simp; done) | (simp; omega)) _) | refine bl_gr ?_ _ | refine bl_al ?_ _ | refine below_setRow ?_ (by first | omega | (simp; done) | (simp; omega)) _ | refine bl_drewN ?_ _ | refine Below.drew ?_ | (refine bl_tr ?_ (by assumption))))⟩

set_option maxRecDepth 100000 in
set_option maxHeartbeats 4000000 in
theorem part_102 (c : CodeD) (i p k g : Value) (n : Int) (hr : 0 ≤ c.rg ∧ c.rg ≤ 4096) (hn : i64ok n) (w : World) (h : Cd4 w i p k g c) :
    Calls Try.prog 66 #[codeV c.nm c.kd c.ln c.rg i p k g, .int .u8 102, .int .i64 n] w fun e w' => e = .returned (.bool (prtC c 102 n)) ∧ Below w.heap.size w w' := by
  obtain ⟨A1, c1, A2, c2, A3, c3, A4, c4, rfl, rfl, rfl, rfl⟩ := h.forms
  have RS := Lib.hid (show prtC c 102 n = inB n 0 4096 by simp [prtC])
  rw [RS.out]

  clear h
  go_enter Try.func66, Try.ntmps66
  go_wp2_with (go_at_call 35; refine (cin_any _ _ _ _).mono ?_; rintro e w' ⟨rfl, rfl⟩)
  all_goals go_ret
  all_goals exact ⟨ret_bool (by first | rfl | (simp [*]; done) | (simp [*]; omega)), by (repeat (with_reducible first | exact Below.refl _ _ | (refine bl_set ?_ (by first | omega | (simp; done) | (simp; omega)) _) | refine bl_gr ?_ _ | refine bl_al ?_ _ | refine below_setRow ?_ (by first | omega | (simp; done) | (simp; omega)) _ | refine bl_drewN ?_ _ | refine Below.drew ?_ | (refine bl_tr ?_ (by assumption))))⟩

set_option maxRecDepth 100000 in
set_option maxHeartbeats 4000000 in
theorem part_106 (c : CodeD) (i p k g : Value) (n : Int) (hr : 0 ≤ c.rg ∧ c.rg ≤ 4096) (hn : i64ok n) (w : World) (h : Cd4 w i p k g c) :
    Calls Try.prog 66 #[codeV c.nm c.kd c.ln c.rg i p k g, .int .u8 106, .int .i64 n] w fun e w' => e = .returned (.bool (prtC c 106 n)) ∧ Below w.heap.size w w' := by
  obtain ⟨A1, c1, A2, c2, A3, c3, A4, c4, rfl, rfl, rfl, rfl⟩ := h.forms
  have RS := Lib.hid (show prtC c 106 n = inB n 0 (c.ins.length - 1) by simp [prtC])
  rw [RS.out]
  have hm := h.i.1
  unfold maxLen at hm
  have e1 : wrap64 ((c.ins.length : Int) - 1) = (c.ins.length : Int) - 1 := by unfold wrap64; omega
  clear hm
  clear h
  go_enter Try.func66, Try.ntmps66
  go_wp2_with (go_at_call 35; refine (cin_any _ _ _ _).mono ?_; rintro e w' ⟨rfl, rfl⟩)
  all_goals go_ret
  all_goals exact ⟨ret_bool (by first | rfl | (simp [*]; done) | (simp [*]; omega)), by (repeat (with_reducible first | exact Below.refl _ _ | (refine bl_set ?_ (by first | omega | (simp; done) | (simp; omega)) _) | refine bl_gr ?_ _ | refine bl_al ?_ _ | refine below_setRow ?_ (by first | omega | (simp; done) | (simp; omega)) _ | refine bl_drewN ?_ _ | refine Below.drew ?_ | (refine bl_tr ?_ (by assumption))))⟩

set_option maxRecDepth 100000 in
set_option maxHeartbeats 4000000 in
theorem part_110 (c : CodeD) (i p k g : Value) (n : Int) (hr : 0 ≤ c.rg ∧ c.rg ≤ 4096) (hn : i64ok n) (w : World) (h : Cd4 w i p k g c) :
    Calls Try.prog 66 #[codeV c.nm c.kd c.ln c.rg i p k g, .int .u8 110, .int .i64 n] w fun e w' => e = .returned (.bool (prtC c 110 n)) ∧ Below w.heap.size w w' := by
  obtain ⟨A1, c1, A2, c2, A3, c3, A4, c4, rfl, rfl, rfl, rfl⟩ := h.forms
  have RS := Lib.hid (show prtC c 110 n = inB n 0 65536 by simp [prtC])
  rw [RS.out]

  clear h
  go_enter Try.func66, Try.ntmps66
  go_wp2_with (go_at_call 35; refine (cin_any _ _ _ _).mono ?_; rintro e w' ⟨rfl, rfl⟩)
  all_goals go_ret
  all_goals exact ⟨ret_bool (by first | rfl | (simp [*]; done) | (simp [*]; omega)), by (repeat (with_reducible first | exact Below.refl _ _ | (refine bl_set ?_ (by first | omega | (simp; done) | (simp; omega)) _) | refine bl_gr ?_ _ | refine bl_al ?_ _ | refine below_setRow ?_ (by first | omega | (simp; done) | (simp; omega)) _ | refine bl_drewN ?_ _ | refine Below.drew ?_ | (refine bl_tr ?_ (by assumption))))⟩

set_option maxRecDepth 100000 in
set_option maxHeartbeats 4000000 in
theorem part_97 (c : CodeD) (i p k g : Value) (n : Int) (hr : 0 ≤ c.rg ∧ c.rg ≤ 4096) (hn : i64ok n) (w : World) (h : Cd4 w i p k g c) :
    Calls Try.prog 66 #[codeV c.nm c.kd c.ln c.rg i p k g, .int .u8 97, .int .i64 n] w fun e w' => e = .returned (.bool (prtC c 97 n)) ∧ Below w.heap.size w w' := by
  obtain ⟨A1, c1, A2, c2, A3, c3, A4, c4, rfl, rfl, rfl, rfl⟩ := h.forms
  have RS := Lib.hid (show prtC c 97 n = inB n (-1) 1024 by simp [prtC])
  rw [RS.out]

  clear h
  go_enter Try.func66, Try.ntmps66
  go_wp2_with (go_at_call 35; refine (cin_any _ _ _ _).mono ?_; rintro e w' ⟨rfl, rfl⟩)
  all_goals go_ret
  all_goals exact ⟨ret_bool (by first | rfl | (simp [*]; done) | (simp [*]; omega)), by (repeat (with_reducible first | exact Below.refl _ _ | (refine bl_set ?_ (by first | omega | (simp; done) | (simp; omega)) _) | refine bl_gr ?_ _ | refine bl_al ?_ _ | refine below_setRow ?_ (by first | omega | (simp; done) | (simp; omega)) _ | refine bl_drewN ?_ _ | refine Below.drew ?_ | (refine bl_tr ?_ (by assumption))))⟩

set_option maxRecDepth 100000 in
set_option maxHeartbeats 4000000 in
theorem part_98 (c : CodeD) (i p k g : Value) (n : Int) (hr : 0 ≤ c.rg ∧ c.rg ≤ 4096) (hn : i64ok n) (w : World) (h : Cd4 w i p k g c) :
    Calls Try.prog 66 #[codeV c.nm c.kd c.ln c.rg i p k g, .int .u8 98, .int .i64 n] w fun e w' => e = .returned (.bool (prtC c 98 n)) ∧ Below w.heap.size w w' := by
  obtain ⟨A1, c1, A2, c2, A3, c3, A4, c4, rfl, rfl, rfl, rfl⟩ := h.forms
  have RS := Lib.hid (show prtC c 98 n = inB n 0 1 by simp [prtC])
  rw [RS.out]

  clear h
  go_enter Try.func66, Try.ntmps66
  go_wp2_with (go_at_call 35; refine (cin_any _ _ _ _).mono ?_; rintro e w' ⟨rfl, rfl⟩)
  all_goals go_ret
  all_goals exact ⟨ret_bool (by first | rfl | (simp [*]; done) | (simp [*]; omega)), by (repeat (with_reducible first | exact Below.refl _ _ | (refine bl_set ?_ (by first | omega | (simp; done) | (simp; omega)) _) | refine bl_gr ?_ _ | refine bl_al ?_ _ | refine below_setRow ?_ (by first | omega | (simp; done) | (simp; omega)) _ | refine bl_drewN ?_ _ | refine Below.drew ?_ | (refine bl_tr ?_ (by assumption))))⟩

set_option maxRecDepth 100000 in
set_option maxHeartbeats 4000000 in
theorem part_111 (c : CodeD) (i p k g : Value) (n : Int) (hr : 0 ≤ c.rg ∧ c.rg ≤ 4096) (hn : i64ok n) (w : World) (h : Cd4 w i p k g c) :
    Calls Try.prog 66 #[codeV c.nm c.kd c.ln c.rg i p k g, .int .u8 111, .int .i64 n] w fun e w' => e = .returned (.bool (prtC c 111 n)) ∧ Below w.heap.size w w' := by
  obtain ⟨A1, c1, A2, c2, A3, c3, A4, c4, rfl, rfl, rfl, rfl⟩ := h.forms
  have RS := Lib.hid (show prtC c 111 n = (inB n 0 (c.pl.length - 1) && (c.pl.getD n.toNat .zero).k == 5) by simp [prtC])
  rw [RS.out]
  have hm := h.p.1
  unfold maxLen at hm
  have e1 : wrap64 ((c.pl.length : Int) - 1) = (c.pl.length : Int) - 1 := by unfold wrap64; omega
  by_cases hb : 0 ≤ n ∧ n ≤ (c.pl.length : Int) - 1
  · obtain ⟨m, rfl⟩ : ∃ m : Nat, n = (m : Int) := ⟨n.toNat, by omega⟩
    have hlt : m < c.pl.length := by omega
    have hi : inB (m : Int) 0 ((c.pl.length : Int) - 1) = true := by simp [inB, hb]
    have CI := Lib.hid (fun W => by have := cin_any (m : Int) 0 ((c.pl.length : Int) - 1) W; rw [hi] at this; exact this : ∀ W, Calls Try.prog 35 #[.int .i64 (m : Int), .int .i64 0, .int .i64 ((c.pl.length : Int) - 1)] W fun e w' => e = .returned (.bool true) ∧ W = w')
    rw [hi, Int.toNat_natCast]
    obtain ⟨x, hx⟩ : ∃ x, c.pl[m]? = some x := ⟨_, List.getElem?_eq_getElem hlt⟩
    have hg : c.pl.getD m .zero = x := by rw [List.getD_eq_getElem?_getD, hx]; rfl
    rw [hg]
    obtain ⟨b, off, cap', e2, lb, h0, h1, h2⟩ := at_Vl h.p hx
    simp only [Value.slice.injEq] at e2
    obtain ⟨rfl, -, -⟩ := e2
    have q0 : ¬ (m : Int) < 0 := by omega
    have q1 : (m : Int) < (c.pl.length : Int) := by omega
    have lbn : ∀ u, b < w.heap.size + u := fun u => Nat.lt_of_lt_of_le lb (Nat.le_add_right _ _)
    clear h hb hlt hi hm hx hg hn
    go_enter Try.func66, Try.ntmps66
    go_wp2_with (go_at_call 35; refine (CI.out _).mono ?_; rintro e w' ⟨rfl, rfl⟩)
    all_goals go_ret
    all_goals exact ⟨ret_bool (by first | rfl | (simp [*]; done)), by (repeat (with_reducible first | exact Below.refl _ _ | (refine bl_set ?_ (by first | omega | (simp; done) | (simp; omega)) _) | refine bl_gr ?_ _ | refine bl_al ?_ _ | refine below_setRow ?_ (by first | omega | (simp; done) | (simp; omega)) _ | refine bl_drewN ?_ _ | refine Below.drew ?_ | (refine bl_tr ?_ (by assumption))))⟩
  · have hi : inB n 0 ((c.pl.length : Int) - 1) = false := by simp only [inB, Bool.and_eq_false_iff, decide_eq_false_iff_not]; omega
    have CI := Lib.hid (fun W => by have := cin_any n 0 ((c.pl.length : Int) - 1) W; rw [hi] at this; exact this : ∀ W, Calls Try.prog 35 #[.int .i64 n, .int .i64 0, .int .i64 ((c.pl.length : Int) - 1)] W fun e w' => e = .returned (.bool false) ∧ W = w')
    rw [hi]
    clear h hb hi hm
    go_enter Try.func66, Try.ntmps66
    go_wp2_with (go_at_call 35; refine (CI.out _).mono ?_; rintro e w' ⟨rfl, rfl⟩)
    all_goals go_ret
    all_goals exact ⟨ret_bool (by simp), by (repeat (with_reducible first | exact Below.refl _ _ | (refine bl_set ?_ (by first | omega | (simp; done) | (simp; omega)) _) | refine bl_gr ?_ _ | refine bl_al ?_ _ | refine below_setRow ?_ (by first | omega | (simp; done) | (simp; omega)) _ | refine bl_drewN ?_ _ | refine Below.drew ?_ | (refine bl_tr ?_ (by assumption))))⟩

set_option maxRecDepth 100000 in
set_option maxHeartbeats 4000000 in
theorem part_103 (c : CodeD) (i p k g : Value) (n : Int) (hr : 0 ≤ c.rg ∧ c.rg ≤ 4096) (hn : i64ok n) (w : World) (h : Cd4 w i p k g c) :
    Calls Try.prog 66 #[codeV c.nm c.kd c.ln c.rg i p k g, .int .u8 103, .int .i64 n] w fun e w' => e = .returned (.bool (prtC c 103 n)) ∧ Below w.heap.size w w' := by
  obtain ⟨A1, c1, A2, c2, A3, c3, A4, c4, rfl, rfl, rfl, rfl⟩ := h.forms
  have RS := Lib.hid (show prtC c 103 n = (inB n 0 (c.ks.length - 1) && (c.ks.getD n.toNat .zero).k == 1) by simp [prtC])
  rw [RS.out]
  have hm := h.k.1
  unfold maxLen at hm
  have e1 : wrap64 ((c.ks.length : Int) - 1) = (c.ks.length : Int) - 1 := by unfold wrap64; omega
  by_cases hb : 0 ≤ n ∧ n ≤ (c.ks.length : Int) - 1
  · obtain ⟨m, rfl⟩ : ∃ m : Nat, n = (m : Int) := ⟨n.toNat, by omega⟩
    have hlt : m < c.ks.length := by omega
    have hi : inB (m : Int) 0 ((c.ks.length : Int) - 1) = true := by simp [inB, hb]
    have CI := Lib.hid (fun W => by have := cin_any (m : Int) 0 ((c.ks.length : Int) - 1) W; rw [hi] at this; exact this : ∀ W, Calls Try.prog 35 #[.int .i64 (m : Int), .int .i64 0, .int .i64 ((c.ks.length : Int) - 1)] W fun e w' => e = .returned (.bool true) ∧ W = w')
    rw [hi, Int.toNat_natCast]
    obtain ⟨x, hx⟩ : ∃ x, c.ks[m]? = some x := ⟨_, List.getElem?_eq_getElem hlt⟩
    have hg : c.ks.getD m .zero = x := by rw [List.getD_eq_getElem?_getD, hx]; rfl
    rw [hg]
    obtain ⟨b, off, cap', e2, lb, h0, h1, h2⟩ := at_Ky h.k hx
    simp only [Value.slice.injEq] at e2
    obtain ⟨rfl, -, -⟩ := e2
    have q0 : ¬ (m : Int) < 0 := by omega
    have q1 : (m : Int) < (c.ks.length : Int) := by omega
    have lbn : ∀ u, b < w.heap.size + u := fun u => Nat.lt_of_lt_of_le lb (Nat.le_add_right _ _)
    clear h hb hlt hi hm hx hg hn
    go_enter Try.func66, Try.ntmps66
    go_wp2_with (go_at_call 35; refine (CI.out _).mono ?_; rintro e w' ⟨rfl, rfl⟩)
    all_goals go_ret
    all_goals exact ⟨ret_bool (by first | rfl | (simp [*]; done)), by (repeat (with_reducible first | exact Below.refl _ _ | (refine bl_set ?_ (by first | omega | (simp; done) | (simp; omega)) _) | refine bl_gr ?_ _ | refine bl_al ?_ _ | refine below_setRow ?_ (by first | omega | (simp; done) | (simp; omega)) _ | refine bl_drewN ?_ _ | refine Below.drew ?_ | (refine bl_tr ?_ (by assumption))))⟩
  · have hi : inB n 0 ((c.ks.length : Int) - 1) = false := by simp only [inB, Bool.and_eq_false_iff, decide_eq_false_iff_not]; omega
    have CI := Lib.hid (fun W => by have := cin_any n 0 ((c.ks.length : Int) - 1) W; rw [hi] at this; exact this : ∀ W, Calls Try.prog 35 #[.int .i64 n, .int .i64 0, .int .i64 ((c.ks.length : Int) - 1)] W fun e w' => e = .returned (.bool false) ∧ W = w')
    rw [hi]
    clear h hb hi hm
    go_enter Try.func66, Try.ntmps66
    go_wp2_with (go_at_call 35; refine (CI.out _).mono ?_; rintro e w' ⟨rfl, rfl⟩)
    all_goals go_ret
    all_goals exact ⟨ret_bool (by simp), by (repeat (with_reducible first | exact Below.refl _ _ | (refine bl_set ?_ (by first | omega | (simp; done) | (simp; omega)) _) | refine bl_gr ?_ _ | refine bl_al ?_ _ | refine below_setRow ?_ (by first | omega | (simp; done) | (simp; omega)) _ | refine bl_drewN ?_ _ | refine Below.drew ?_ | (refine bl_tr ?_ (by assumption))))⟩

set_option maxRecDepth 100000 in
set_option maxHeartbeats 4000000 in
theorem part_45 (c : CodeD) (i p k g : Value) (n : Int) (hr : 0 ≤ c.rg ∧ c.rg ≤ 4096) (hn : i64ok n) (w : World) (h : Cd4 w i p k g c) :
    Calls Try.prog 66 #[codeV c.nm c.kd c.ln c.rg i p k g, .int .u8 45, .int .i64 n] w fun e w' => e = .returned (.bool (prtC c 45 n)) ∧ Below w.heap.size w w' := by
  obtain ⟨A1, c1, A2, c2, A3, c3, A4, c4, rfl, rfl, rfl, rfl⟩ := h.forms
  have RS := Lib.hid (show prtC c 45 n = (n == 0) by simp [prtC])
  rw [RS.out]

  clear h
  go_enter Try.func66, Try.ntmps66
  go_wp2_with (go_at_call 35; refine (cin_any _ _ _ _).mono ?_; rintro e w' ⟨rfl, rfl⟩)
  all_goals go_ret
  all_goals exact ⟨ret_bool (by first | rfl | (simp [*]; done) | (simp [*]; omega)), by (repeat (with_reducible first | exact Below.refl _ _ | (refine bl_set ?_ (by first | omega | (simp; done) | (simp; omega)) _) | refine bl_gr ?_ _ | refine bl_al ?_ _ | refine below_setRow ?_ (by first | omega | (simp; done) | (simp; omega)) _ | refine bl_drewN ?_ _ | refine Below.drew ?_ | (refine bl_tr ?_ (by assumption))))⟩

/-- the kinds of operands in the table -/
def kindOk (s : Nat) : Bool := [45, 114, 112, 110, 103, 98, 116, 113, 97, 102, 100, 111, 106].contains s
theorem part_any (c : CodeD) (i p k g : Value) (s : Nat) (hs : kindOk s = true) (n : Int) (hr : 0 ≤ c.rg ∧ c.rg ≤ 4096) (hn : i64ok n) (w : World) (h : Cd4 w i p k g c) :
    Calls Try.prog 66 #[codeV c.nm c.kd c.ln c.rg i p k g, .int .u8 (s : Int), .int .i64 n] w fun e w' => e = .returned (.bool (prtC c s n)) ∧ Below w.heap.size w w' := by
  simp only [kindOk, List.contains_cons, List.contains_nil, Bool.or_false, Bool.or_eq_true, beq_iff_eq] at hs
  rcases hs with rfl | rfl | rfl | rfl | rfl | rfl | rfl | rfl | rfl | rfl | rfl | rfl | rfl
  · exact part_45 c i p k g n hr hn w h
  · exact part_114 c i p k g n hr hn w h
  · exact part_112 c i p k g n hr hn w h
  · exact part_110 c i p k g n hr hn w h
  · exact part_103 c i p k g n hr hn w h
  · exact part_98 c i p k g n hr hn w h
  · exact part_116 c i p k g n hr hn w h
  · exact part_113 c i p k g n hr hn w h
  · exact part_97 c i p k g n hr hn w h
  · exact part_102 c i p k g n hr hn w h
  · exact part_100 c i p k g n hr hn w h
  · exact part_111 c i p k g n hr hn w h
  · exact part_106 c i p k g n hr hn w h
end Go.Proofs.Ytcmpgohpncnagaa
