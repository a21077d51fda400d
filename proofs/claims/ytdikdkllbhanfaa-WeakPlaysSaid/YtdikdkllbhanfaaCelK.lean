/- Cells: what More may be, by the reference (printed by genmore.py). -/
import Derived.Test.YtdikdkllbhanfaaCelJ
namespace Go.Proofs.Ytdikdkllbhanfaa
set_option linter.all false
open Go.RowKit Go.Sort Go.Deep

set_option maxRecDepth 100000 in
set_option maxHeartbeats 4000000 in
theorem rmo_1 (sh fl ag : Int) (A0 : Option Addr) (n0 c0 : Nat) (v : Value) (l : List Val) (w : World) (h : IsV w v l) :
    Calls Try.prog 42 #[cellV 1 sh fl ag (.slice A0 n0 c0) v] w fun e w' => e = .returned (.bool (moreB 1 l)) ∧ Below w.heap.size w w' := by
  obtain ⟨A, cap, rfl, hcap, hm⟩ := h.form
  have H := Lib.hid h
  unfold maxLen at hm
  by_cases hbig : (1048576 : Int) < l.length
  · clear h
    go_enter Try.func42, Try.ntmps42
    go_wp2
    all_goals go_ret
    all_goals exact ⟨ret_bool (by first | (simp [moreB, *]; done) | (simp [moreB, *]; intros; omega)), by (repeat (with_reducible first | exact Below.refl _ _ | (refine bl_set ?_ (by first | omega | (simp; done) | (simp; omega)) _) | refine bl_gr ?_ _ | refine bl_al ?_ _ | refine below_setRow ?_ (by first | omega | (simp; done) | (simp; omega)) _ | refine bl_drewN ?_ _ | refine Below.drew ?_ | (refine bl_tr ?_ (by assumption))))⟩
  have hbl : l.length ≤ 1048576 := by omega
  clear h
  go_enter Try.func42, Try.ntmps42
  go_wp2
  all_goals go_ret
  all_goals exact ⟨ret_bool (by first | (simp [moreB, *]; done) | (simp [moreB, *]; intros; omega)), by (repeat (with_reducible first | exact Below.refl _ _ | (refine bl_set ?_ (by first | omega | (simp; done) | (simp; omega)) _) | refine bl_gr ?_ _ | refine bl_al ?_ _ | refine below_setRow ?_ (by first | omega | (simp; done) | (simp; omega)) _ | refine bl_drewN ?_ _ | refine Below.drew ?_ | (refine bl_tr ?_ (by assumption))))⟩

set_option maxRecDepth 100000 in
set_option maxHeartbeats 4000000 in
theorem rmo_2 (sh fl ag : Int) (A0 : Option Addr) (n0 c0 : Nat) (v : Value) (l : List Val) (w : World) (h : IsV w v l) :
    Calls Try.prog 42 #[cellV 2 sh fl ag (.slice A0 n0 c0) v] w fun e w' => e = .returned (.bool (moreB 2 l)) ∧ Below w.heap.size w w' := by
  obtain ⟨A, cap, rfl, hcap, hm⟩ := h.form
  have H := Lib.hid h
  unfold maxLen at hm
  by_cases hbig : (1048576 : Int) < l.length
  · clear h
    go_enter Try.func42, Try.ntmps42
    go_wp2
    all_goals go_ret
    all_goals exact ⟨ret_bool (by first | (simp [moreB, *]; done) | (simp [moreB, *]; intros; omega)), by (repeat (with_reducible first | exact Below.refl _ _ | (refine bl_set ?_ (by first | omega | (simp; done) | (simp; omega)) _) | refine bl_gr ?_ _ | refine bl_al ?_ _ | refine below_setRow ?_ (by first | omega | (simp; done) | (simp; omega)) _ | refine bl_drewN ?_ _ | refine Below.drew ?_ | (refine bl_tr ?_ (by assumption))))⟩
  have hbl : l.length ≤ 1048576 := by omega
  clear h
  go_enter Try.func42, Try.ntmps42
  go_wp2
  all_goals go_ret
  all_goals exact ⟨ret_bool (by first | (simp [moreB, *]; done) | (simp [moreB, *]; intros; omega)), by (repeat (with_reducible first | exact Below.refl _ _ | (refine bl_set ?_ (by first | omega | (simp; done) | (simp; omega)) _) | refine bl_gr ?_ _ | refine bl_al ?_ _ | refine below_setRow ?_ (by first | omega | (simp; done) | (simp; omega)) _ | refine bl_drewN ?_ _ | refine Below.drew ?_ | (refine bl_tr ?_ (by assumption))))⟩

set_option maxRecDepth 100000 in
set_option maxHeartbeats 4000000 in
theorem rmo_3 (sh fl ag : Int) (A0 : Option Addr) (n0 c0 : Nat) (v : Value) (l : List Val) (w : World) (h : IsV w v l) :
    Calls Try.prog 42 #[cellV 3 sh fl ag (.slice A0 n0 c0) v] w fun e w' => e = .returned (.bool (moreB 3 l)) ∧ Below w.heap.size w w' := by
  obtain ⟨A, cap, rfl, hcap, hm⟩ := h.form
  have H := Lib.hid h
  unfold maxLen at hm
  by_cases hbig : (1048576 : Int) < l.length
  · clear h
    go_enter Try.func42, Try.ntmps42
    go_wp2
    all_goals go_ret
    all_goals exact ⟨ret_bool (by first | (simp [moreB, *]; done) | (simp [moreB, *]; intros; omega)), by (repeat (with_reducible first | exact Below.refl _ _ | (refine bl_set ?_ (by first | omega | (simp; done) | (simp; omega)) _) | refine bl_gr ?_ _ | refine bl_al ?_ _ | refine below_setRow ?_ (by first | omega | (simp; done) | (simp; omega)) _ | refine bl_drewN ?_ _ | refine Below.drew ?_ | (refine bl_tr ?_ (by assumption))))⟩
  have hbl : l.length ≤ 1048576 := by omega
  by_cases hc : ((l.length : Int) == 3) = true
  case neg =>
    have hc' : ((l.length : Int) == 3) = false := by simpa using hc
    clear hc h
    go_enter Try.func42, Try.ntmps42
    go_wp2
    all_goals go_ret
    all_goals exact ⟨ret_bool (by first | (simp [moreB, *]; done) | (simp [moreB, *]; intros; omega)), by (repeat (with_reducible first | exact Below.refl _ _ | (refine bl_set ?_ (by first | omega | (simp; done) | (simp; omega)) _) | refine bl_gr ?_ _ | refine bl_al ?_ _ | refine below_setRow ?_ (by first | omega | (simp; done) | (simp; omega)) _ | refine bl_drewN ?_ _ | refine Below.drew ?_ | (refine bl_tr ?_ (by assumption))))⟩
  have hlen : 3 ≤ l.length := by have := beq_iff_eq.1 hc; omega
  obtain ⟨b, off, rfl⟩ := isV_addr h (by omega)
  obtain ⟨hb0, a00, a01, a02⟩ := h.v3 0 (by omega)
  simp only [Nat.zero_mul, Nat.add_zero, Nat.one_mul, Nat.reduceMul] at a00 a01 a02
  generalize hv0 : vAt l 0 = x0 at *
  obtain ⟨hb1, a10, a11, a12⟩ := h.v3 1 (by omega)
  simp only [Nat.zero_mul, Nat.add_zero, Nat.one_mul, Nat.reduceMul] at a10 a11 a12
  generalize hv1 : vAt l 1 = x1 at *
  have HV := Lib.hid (And.intro hv0 hv1)
  have nb : b ≠ w.heap.size := by omega
  clear h hv0 hv1
  go_enter Try.func42, Try.ntmps42
  go_wp2_with (first | (go_at_call 49; refine (callGr (num_any _ _ _ _)).mono ?_; rintro e w' ⟨pp, rfl, rfl⟩) | (go_at_call 48; refine (callGr (none_any _ _ _)).mono ?_; rintro e w' ⟨pp, rfl, rfl⟩))
  all_goals go_ret
  all_goals exact ⟨ret_bool (by first | (simp [moreB, HV.out.1, HV.out.2, *]; done) | (simp [moreB, HV.out.1, HV.out.2, *]; intros; omega)), by (repeat (with_reducible first | exact Below.refl _ _ | (refine bl_set ?_ (by first | omega | (simp; done) | (simp; omega)) _) | refine bl_gr ?_ _ | refine bl_al ?_ _ | refine below_setRow ?_ (by first | omega | (simp; done) | (simp; omega)) _ | refine bl_drewN ?_ _ | refine Below.drew ?_ | (refine bl_tr ?_ (by assumption))))⟩

set_option maxRecDepth 100000 in
set_option maxHeartbeats 4000000 in
theorem rmo_4 (sh fl ag : Int) (A0 : Option Addr) (n0 c0 : Nat) (v : Value) (l : List Val) (w : World) (h : IsV w v l) :
    Calls Try.prog 42 #[cellV 4 sh fl ag (.slice A0 n0 c0) v] w fun e w' => e = .returned (.bool (moreB 4 l)) ∧ Below w.heap.size w w' := by
  obtain ⟨A, cap, rfl, hcap, hm⟩ := h.form
  have H := Lib.hid h
  unfold maxLen at hm
  by_cases hbig : (1048576 : Int) < l.length
  · clear h
    go_enter Try.func42, Try.ntmps42
    go_wp2
    all_goals go_ret
    all_goals exact ⟨ret_bool (by first | (simp [moreB, *]; done) | (simp [moreB, *]; intros; omega)), by (repeat (with_reducible first | exact Below.refl _ _ | (refine bl_set ?_ (by first | omega | (simp; done) | (simp; omega)) _) | refine bl_gr ?_ _ | refine bl_al ?_ _ | refine below_setRow ?_ (by first | omega | (simp; done) | (simp; omega)) _ | refine bl_drewN ?_ _ | refine Below.drew ?_ | (refine bl_tr ?_ (by assumption))))⟩
  have hbl : l.length ≤ 1048576 := by omega
  by_cases hc : (1 : Int) ≤ l.length
  case neg =>
    clear h
    go_enter Try.func42, Try.ntmps42
    go_wp2
    all_goals go_ret
    all_goals exact ⟨ret_bool (by first | (simp [moreB, *]; done) | (simp [moreB, *]; intros; omega)), by (repeat (with_reducible first | exact Below.refl _ _ | (refine bl_set ?_ (by first | omega | (simp; done) | (simp; omega)) _) | refine bl_gr ?_ _ | refine bl_al ?_ _ | refine below_setRow ?_ (by first | omega | (simp; done) | (simp; omega)) _ | refine bl_drewN ?_ _ | refine Below.drew ?_ | (refine bl_tr ?_ (by assumption))))⟩
  have hlen : 1 ≤ l.length := by omega
  obtain ⟨b, off, rfl⟩ := isV_addr h (by omega)
  obtain ⟨hb0, a00, a01, a02⟩ := h.v3 0 (by omega)
  simp only [Nat.zero_mul, Nat.add_zero, Nat.one_mul, Nat.reduceMul] at a00 a01 a02
  generalize hv0 : vAt l 0 = x0 at *
  have HV := Lib.hid (hv0)
  have nb : b ≠ w.heap.size := by omega
  clear h hv0
  go_enter Try.func42, Try.ntmps42
  go_wp2_with (first | (go_at_call 49; refine (callGr (num_any _ _ _ _)).mono ?_; rintro e w' ⟨pp, rfl, rfl⟩) | (go_at_call 48; refine (callGr (none_any _ _ _)).mono ?_; rintro e w' ⟨pp, rfl, rfl⟩))
  all_goals go_ret
  all_goals exact ⟨ret_bool (by first | (simp [moreB, HV.out, *]; done) | (simp [moreB, HV.out, *]; intros; omega)), by (repeat (with_reducible first | exact Below.refl _ _ | (refine bl_set ?_ (by first | omega | (simp; done) | (simp; omega)) _) | refine bl_gr ?_ _ | refine bl_al ?_ _ | refine below_setRow ?_ (by first | omega | (simp; done) | (simp; omega)) _ | refine bl_drewN ?_ _ | refine Below.drew ?_ | (refine bl_tr ?_ (by assumption))))⟩

set_option maxRecDepth 100000 in
set_option maxHeartbeats 4000000 in
theorem rmo_5 (sh fl ag : Int) (A0 : Option Addr) (n0 c0 : Nat) (v : Value) (l : List Val) (w : World) (h : IsV w v l) :
    Calls Try.prog 42 #[cellV 5 sh fl ag (.slice A0 n0 c0) v] w fun e w' => e = .returned (.bool (moreB 5 l)) ∧ Below w.heap.size w w' := by
  obtain ⟨A, cap, rfl, hcap, hm⟩ := h.form
  have H := Lib.hid h
  unfold maxLen at hm
  by_cases hbig : (1048576 : Int) < l.length
  · clear h
    go_enter Try.func42, Try.ntmps42
    go_wp2
    all_goals go_ret
    all_goals exact ⟨ret_bool (by first | (simp [moreB, *]; done) | (simp [moreB, *]; intros; omega)), by (repeat (with_reducible first | exact Below.refl _ _ | (refine bl_set ?_ (by first | omega | (simp; done) | (simp; omega)) _) | refine bl_gr ?_ _ | refine bl_al ?_ _ | refine below_setRow ?_ (by first | omega | (simp; done) | (simp; omega)) _ | refine bl_drewN ?_ _ | refine Below.drew ?_ | (refine bl_tr ?_ (by assumption))))⟩
  have hbl : l.length ≤ 1048576 := by omega
  clear h
  go_enter Try.func42, Try.ntmps42
  go_wp2
  all_goals go_ret
  all_goals exact ⟨ret_bool (by first | (simp [moreB, *]; done) | (simp [moreB, *]; intros; omega)), by (repeat (with_reducible first | exact Below.refl _ _ | (refine bl_set ?_ (by first | omega | (simp; done) | (simp; omega)) _) | refine bl_gr ?_ _ | refine bl_al ?_ _ | refine below_setRow ?_ (by first | omega | (simp; done) | (simp; omega)) _ | refine bl_drewN ?_ _ | refine Below.drew ?_ | (refine bl_tr ?_ (by assumption))))⟩

set_option maxRecDepth 100000 in
set_option maxHeartbeats 4000000 in
theorem rmo_6 (sh fl ag : Int) (A0 : Option Addr) (n0 c0 : Nat) (v : Value) (l : List Val) (w : World) (h : IsV w v l) :
    Calls Try.prog 42 #[cellV 6 sh fl ag (.slice A0 n0 c0) v] w fun e w' => e = .returned (.bool (moreB 6 l)) ∧ Below w.heap.size w w' := by
  obtain ⟨A, cap, rfl, hcap, hm⟩ := h.form
  have H := Lib.hid h
  unfold maxLen at hm
  by_cases hbig : (1048576 : Int) < l.length
  · clear h
    go_enter Try.func42, Try.ntmps42
    go_wp2
    all_goals go_ret
    all_goals exact ⟨ret_bool (by first | (simp [moreB, *]; done) | (simp [moreB, *]; intros; omega)), by (repeat (with_reducible first | exact Below.refl _ _ | (refine bl_set ?_ (by first | omega | (simp; done) | (simp; omega)) _) | refine bl_gr ?_ _ | refine bl_al ?_ _ | refine below_setRow ?_ (by first | omega | (simp; done) | (simp; omega)) _ | refine bl_drewN ?_ _ | refine Below.drew ?_ | (refine bl_tr ?_ (by assumption))))⟩
  have hbl : l.length ≤ 1048576 := by omega
  by_cases hc : ((l.length : Int) == 2) = true
  case neg =>
    have hc' : ((l.length : Int) == 2) = false := by simpa using hc
    clear hc h
    go_enter Try.func42, Try.ntmps42
    go_wp2
    all_goals go_ret
    all_goals exact ⟨ret_bool (by first | (simp [moreB, *]; done) | (simp [moreB, *]; intros; omega)), by (repeat (with_reducible first | exact Below.refl _ _ | (refine bl_set ?_ (by first | omega | (simp; done) | (simp; omega)) _) | refine bl_gr ?_ _ | refine bl_al ?_ _ | refine below_setRow ?_ (by first | omega | (simp; done) | (simp; omega)) _ | refine bl_drewN ?_ _ | refine Below.drew ?_ | (refine bl_tr ?_ (by assumption))))⟩
  have hlen : 2 ≤ l.length := by have := beq_iff_eq.1 hc; omega
  obtain ⟨b, off, rfl⟩ := isV_addr h (by omega)
  obtain ⟨hb0, a00, a01, a02⟩ := h.v3 0 (by omega)
  simp only [Nat.zero_mul, Nat.add_zero, Nat.one_mul, Nat.reduceMul] at a00 a01 a02
  generalize hv0 : vAt l 0 = x0 at *
  obtain ⟨hb1, a10, a11, a12⟩ := h.v3 1 (by omega)
  simp only [Nat.zero_mul, Nat.add_zero, Nat.one_mul, Nat.reduceMul] at a10 a11 a12
  generalize hv1 : vAt l 1 = x1 at *
  have HV := Lib.hid (And.intro hv0 hv1)
  have nb : b ≠ w.heap.size := by omega
  clear h hv0 hv1
  go_enter Try.func42, Try.ntmps42
  go_wp2_with (first | (go_at_call 49; refine (callGr (num_any _ _ _ _)).mono ?_; rintro e w' ⟨pp, rfl, rfl⟩) | (go_at_call 48; refine (callGr (none_any _ _ _)).mono ?_; rintro e w' ⟨pp, rfl, rfl⟩))
  all_goals go_ret
  all_goals exact ⟨ret_bool (by first | (simp [moreB, HV.out.1, HV.out.2, *]; done) | (simp [moreB, HV.out.1, HV.out.2, *]; intros; omega)), by (repeat (with_reducible first | exact Below.refl _ _ | (refine bl_set ?_ (by first | omega | (simp; done) | (simp; omega)) _) | refine bl_gr ?_ _ | refine bl_al ?_ _ | refine below_setRow ?_ (by first | omega | (simp; done) | (simp; omega)) _ | refine bl_drewN ?_ _ | refine Below.drew ?_ | (refine bl_tr ?_ (by assumption))))⟩

set_option maxRecDepth 100000 in
set_option maxHeartbeats 4000000 in
theorem rmo_7 (sh fl ag : Int) (A0 : Option Addr) (n0 c0 : Nat) (v : Value) (l : List Val) (w : World) (h : IsV w v l) :
    Calls Try.prog 42 #[cellV 7 sh fl ag (.slice A0 n0 c0) v] w fun e w' => e = .returned (.bool (moreB 7 l)) ∧ Below w.heap.size w w' := by
  obtain ⟨A, cap, rfl, hcap, hm⟩ := h.form
  have H := Lib.hid h
  unfold maxLen at hm
  by_cases hbig : (1048576 : Int) < l.length
  · clear h
    go_enter Try.func42, Try.ntmps42
    go_wp2
    all_goals go_ret
    all_goals exact ⟨ret_bool (by first | (simp [moreB, *]; done) | (simp [moreB, *]; intros; omega)), by (repeat (with_reducible first | exact Below.refl _ _ | (refine bl_set ?_ (by first | omega | (simp; done) | (simp; omega)) _) | refine bl_gr ?_ _ | refine bl_al ?_ _ | refine below_setRow ?_ (by first | omega | (simp; done) | (simp; omega)) _ | refine bl_drewN ?_ _ | refine Below.drew ?_ | (refine bl_tr ?_ (by assumption))))⟩
  have hbl : l.length ≤ 1048576 := by omega
  by_cases hc : (4 : Int) ≤ l.length
  case neg =>
    clear h
    go_enter Try.func42, Try.ntmps42
    go_wp2
    all_goals go_ret
    all_goals exact ⟨ret_bool (by first | (simp [moreB, *]; done) | (simp [moreB, *]; intros; omega)), by (repeat (with_reducible first | exact Below.refl _ _ | (refine bl_set ?_ (by first | omega | (simp; done) | (simp; omega)) _) | refine bl_gr ?_ _ | refine bl_al ?_ _ | refine below_setRow ?_ (by first | omega | (simp; done) | (simp; omega)) _ | refine bl_drewN ?_ _ | refine Below.drew ?_ | (refine bl_tr ?_ (by assumption))))⟩
  have hlen : 4 ≤ l.length := by omega
  obtain ⟨b, off, rfl⟩ := isV_addr h (by omega)
  obtain ⟨hb2, a20, a21, a22⟩ := h.v3 2 (by omega)
  simp only [Nat.zero_mul, Nat.add_zero, Nat.one_mul, Nat.reduceMul] at a20 a21 a22
  generalize hv2 : vAt l 2 = x2 at *
  obtain ⟨hb3, a30, a31, a32⟩ := h.v3 3 (by omega)
  simp only [Nat.zero_mul, Nat.add_zero, Nat.one_mul, Nat.reduceMul] at a30 a31 a32
  generalize hv3 : vAt l 3 = x3 at *
  have HV := Lib.hid (And.intro hv2 hv3)
  have nb : b ≠ w.heap.size := by omega
  clear h hv2 hv3
  go_enter Try.func42, Try.ntmps42
  go_wp2_with (first | (go_at_call 49; refine (callGr (num_any _ _ _ _)).mono ?_; rintro e w' ⟨pp, rfl, rfl⟩) | (go_at_call 48; refine (callGr (none_any _ _ _)).mono ?_; rintro e w' ⟨pp, rfl, rfl⟩))
  all_goals go_ret
  all_goals exact ⟨ret_bool (by first | (simp [moreB, HV.out.1, HV.out.2, *]; done) | (simp [moreB, HV.out.1, HV.out.2, *]; intros; omega)), by (repeat (with_reducible first | exact Below.refl _ _ | (refine bl_set ?_ (by first | omega | (simp; done) | (simp; omega)) _) | refine bl_gr ?_ _ | refine bl_al ?_ _ | refine below_setRow ?_ (by first | omega | (simp; done) | (simp; omega)) _ | refine bl_drewN ?_ _ | refine Below.drew ?_ | (refine bl_tr ?_ (by assumption))))⟩

set_option maxRecDepth 100000 in
set_option maxHeartbeats 4000000 in
theorem rmo_8 (sh fl ag : Int) (A0 : Option Addr) (n0 c0 : Nat) (v : Value) (l : List Val) (w : World) (h : IsV w v l) :
    Calls Try.prog 42 #[cellV 8 sh fl ag (.slice A0 n0 c0) v] w fun e w' => e = .returned (.bool (moreB 8 l)) ∧ Below w.heap.size w w' := by
  obtain ⟨A, cap, rfl, hcap, hm⟩ := h.form
  have H := Lib.hid h
  unfold maxLen at hm
  by_cases hbig : (1048576 : Int) < l.length
  · clear h
    go_enter Try.func42, Try.ntmps42
    go_wp2
    all_goals go_ret
    all_goals exact ⟨ret_bool (by first | (simp [moreB, *]; done) | (simp [moreB, *]; intros; omega)), by (repeat (with_reducible first | exact Below.refl _ _ | (refine bl_set ?_ (by first | omega | (simp; done) | (simp; omega)) _) | refine bl_gr ?_ _ | refine bl_al ?_ _ | refine below_setRow ?_ (by first | omega | (simp; done) | (simp; omega)) _ | refine bl_drewN ?_ _ | refine Below.drew ?_ | (refine bl_tr ?_ (by assumption))))⟩
  have hbl : l.length ≤ 1048576 := by omega
  clear h
  go_enter Try.func42, Try.ntmps42
  go_wp2_with ((go_at_call 50; refine (callGr (rentries_any _ l 2 (.inl rfl) _ (H.out.below (by (repeat (with_reducible first | exact Below.refl _ _ | (refine bl_set ?_ (by first | omega | (simp; done) | (simp; omega)) _) | refine bl_gr ?_ _ | refine bl_al ?_ _ | refine below_setRow ?_ (by first | omega | (simp; done) | (simp; omega)) _ | refine bl_drewN ?_ _ | refine Below.drew ?_ | (refine bl_tr ?_ (by assumption)))))))).mono ?_; rintro e w' ⟨pp, rfl, rfl⟩))
  all_goals go_ret
  all_goals exact ⟨ret_bool (by first | (simp [moreB, *]; done) | (simp [moreB, *]; intros; omega)), by (repeat (with_reducible first | exact Below.refl _ _ | (refine bl_set ?_ (by first | omega | (simp; done) | (simp; omega)) _) | refine bl_gr ?_ _ | refine bl_al ?_ _ | refine below_setRow ?_ (by first | omega | (simp; done) | (simp; omega)) _ | refine bl_drewN ?_ _ | refine Below.drew ?_ | (refine bl_tr ?_ (by assumption))))⟩

set_option maxRecDepth 100000 in
set_option maxHeartbeats 4000000 in
theorem rmo_9 (sh fl ag : Int) (A0 : Option Addr) (n0 c0 : Nat) (v : Value) (l : List Val) (w : World) (h : IsV w v l) :
    Calls Try.prog 42 #[cellV 9 sh fl ag (.slice A0 n0 c0) v] w fun e w' => e = .returned (.bool (moreB 9 l)) ∧ Below w.heap.size w w' := by
  obtain ⟨A, cap, rfl, hcap, hm⟩ := h.form
  have H := Lib.hid h
  unfold maxLen at hm
  by_cases hbig : (1048576 : Int) < l.length
  · clear h
    go_enter Try.func42, Try.ntmps42
    go_wp2
    all_goals go_ret
    all_goals exact ⟨ret_bool (by first | (simp [moreB, *]; done) | (simp [moreB, *]; intros; omega)), by (repeat (with_reducible first | exact Below.refl _ _ | (refine bl_set ?_ (by first | omega | (simp; done) | (simp; omega)) _) | refine bl_gr ?_ _ | refine bl_al ?_ _ | refine below_setRow ?_ (by first | omega | (simp; done) | (simp; omega)) _ | refine bl_drewN ?_ _ | refine Below.drew ?_ | (refine bl_tr ?_ (by assumption))))⟩
  have hbl : l.length ≤ 1048576 := by omega
  by_cases hc : (2 : Int) ≤ l.length
  case neg =>
    clear h
    go_enter Try.func42, Try.ntmps42
    go_wp2
    all_goals go_ret
    all_goals exact ⟨ret_bool (by first | (simp [moreB, *]; done) | (simp [moreB, *]; intros; omega)), by (repeat (with_reducible first | exact Below.refl _ _ | (refine bl_set ?_ (by first | omega | (simp; done) | (simp; omega)) _) | refine bl_gr ?_ _ | refine bl_al ?_ _ | refine below_setRow ?_ (by first | omega | (simp; done) | (simp; omega)) _ | refine bl_drewN ?_ _ | refine Below.drew ?_ | (refine bl_tr ?_ (by assumption))))⟩
  have hlen : 2 ≤ l.length := by omega
  obtain ⟨b, off, rfl⟩ := isV_addr h (by omega)
  obtain ⟨hb0, a00, a01, a02⟩ := h.v3 0 (by omega)
  simp only [Nat.zero_mul, Nat.add_zero, Nat.one_mul, Nat.reduceMul] at a00 a01 a02
  generalize hv0 : vAt l 0 = x0 at *
  have HV := Lib.hid (hv0)
  have nb : b ≠ w.heap.size := by omega
  clear h hv0
  go_enter Try.func42, Try.ntmps42
  go_wp2_with (first | (go_at_call 49; refine (callGr (num_any _ _ _ _)).mono ?_; rintro e w' ⟨pp, rfl, rfl⟩) | (go_at_call 48; refine (callGr (none_any _ _ _)).mono ?_; rintro e w' ⟨pp, rfl, rfl⟩))
  all_goals go_ret
  all_goals exact ⟨ret_bool (by first | (simp [moreB, HV.out, *]; done) | (simp [moreB, HV.out, *]; intros; omega)), by (repeat (with_reducible first | exact Below.refl _ _ | (refine bl_set ?_ (by first | omega | (simp; done) | (simp; omega)) _) | refine bl_gr ?_ _ | refine bl_al ?_ _ | refine below_setRow ?_ (by first | omega | (simp; done) | (simp; omega)) _ | refine bl_drewN ?_ _ | refine Below.drew ?_ | (refine bl_tr ?_ (by assumption))))⟩

set_option maxRecDepth 100000 in
set_option maxHeartbeats 4000000 in
theorem rmo_10 (sh fl ag : Int) (A0 : Option Addr) (n0 c0 : Nat) (v : Value) (l : List Val) (w : World) (h : IsV w v l) :
    Calls Try.prog 42 #[cellV 10 sh fl ag (.slice A0 n0 c0) v] w fun e w' => e = .returned (.bool (moreB 10 l)) ∧ Below w.heap.size w w' := by
  obtain ⟨A, cap, rfl, hcap, hm⟩ := h.form
  have H := Lib.hid h
  unfold maxLen at hm
  by_cases hbig : (1048576 : Int) < l.length
  · clear h
    go_enter Try.func42, Try.ntmps42
    go_wp2
    all_goals go_ret
    all_goals exact ⟨ret_bool (by first | (simp [moreB, *]; done) | (simp [moreB, *]; intros; omega)), by (repeat (with_reducible first | exact Below.refl _ _ | (refine bl_set ?_ (by first | omega | (simp; done) | (simp; omega)) _) | refine bl_gr ?_ _ | refine bl_al ?_ _ | refine below_setRow ?_ (by first | omega | (simp; done) | (simp; omega)) _ | refine bl_drewN ?_ _ | refine Below.drew ?_ | (refine bl_tr ?_ (by assumption))))⟩
  have hbl : l.length ≤ 1048576 := by omega
  by_cases hc : (1 : Int) ≤ l.length
  case neg =>
    clear h
    go_enter Try.func42, Try.ntmps42
    go_wp2
    all_goals go_ret
    all_goals exact ⟨ret_bool (by first | (simp [moreB, *]; done) | (simp [moreB, *]; intros; omega)), by (repeat (with_reducible first | exact Below.refl _ _ | (refine bl_set ?_ (by first | omega | (simp; done) | (simp; omega)) _) | refine bl_gr ?_ _ | refine bl_al ?_ _ | refine below_setRow ?_ (by first | omega | (simp; done) | (simp; omega)) _ | refine bl_drewN ?_ _ | refine Below.drew ?_ | (refine bl_tr ?_ (by assumption))))⟩
  have hlen : 1 ≤ l.length := by omega
  obtain ⟨b, off, rfl⟩ := isV_addr h (by omega)
  obtain ⟨hb0, a00, a01, a02⟩ := h.v3 0 (by omega)
  simp only [Nat.zero_mul, Nat.add_zero, Nat.one_mul, Nat.reduceMul] at a00 a01 a02
  generalize hv0 : vAt l 0 = x0 at *
  have HV := Lib.hid (hv0)
  have nb : b ≠ w.heap.size := by omega
  have HD := Lib.hid (isV_drop h (by omega))
  have hz : ¬ (l.length : Int) < 1 := by omega
  have z1 : 1 ≤ cap := by omega
  clear h hv0
  by_cases hc1 : cap = 1
  · have hdd : l.drop 1 = [] := List.eq_nil_of_length_eq_zero (by simp; omega)
    have HDD := Lib.hid hdd
    have HE := Lib.hid (show IsV w (.slice (some ⟨b, off, none⟩) 0 0) [] by have := HD.out; rw [if_pos hc1, hc1, hdd] at this; have e1 : l.length - 1 = 0 := by omega
                                                                            rw [e1] at this; exact this)
    subst hc1
    clear HD hdd
    go_enter Try.func42, Try.ntmps42
    go_wp2_with ((go_at_call 50; refine (callGr (rentries_any _ [] 4 (.inr rfl) _ (HE.out.below (by (repeat (with_reducible first | exact Below.refl _ _ | (refine bl_set ?_ (by first | omega | (simp; done) | (simp; omega)) _) | refine bl_gr ?_ _ | refine bl_al ?_ _ | refine below_setRow ?_ (by first | omega | (simp; done) | (simp; omega)) _ | refine bl_drewN ?_ _ | refine Below.drew ?_ | (refine bl_tr ?_ (by assumption)))))))).mono ?_; rintro e w' ⟨pp, rfl, rfl⟩))
    all_goals go_ret
    all_goals exact ⟨ret_bool (by first | (simp [moreB, HV.out, HDD.out, *]; done) | (simp [moreB, HV.out, HDD.out, *]; intros; omega)), by (repeat (with_reducible first | exact Below.refl _ _ | (refine bl_set ?_ (by first | omega | (simp; done) | (simp; omega)) _) | refine bl_gr ?_ _ | refine bl_al ?_ _ | refine below_setRow ?_ (by first | omega | (simp; done) | (simp; omega)) _ | refine bl_drewN ?_ _ | refine Below.drew ?_ | (refine bl_tr ?_ (by assumption))))⟩
  · have HE := Lib.hid (show IsV w (.slice (some ⟨b, off + 3, none⟩) (l.length - 1) (cap - 1)) (l.drop 1) by have := HD.out; rw [if_neg hc1] at this; exact this)
    clear HD
    go_enter Try.func42, Try.ntmps42
    go_wp2_with ((go_at_call 50; refine (callGr (rentries_any _ (l.drop 1) 4 (.inr rfl) _ (HE.out.below (by (repeat (with_reducible first | exact Below.refl _ _ | (refine bl_set ?_ (by first | omega | (simp; done) | (simp; omega)) _) | refine bl_gr ?_ _ | refine bl_al ?_ _ | refine below_setRow ?_ (by first | omega | (simp; done) | (simp; omega)) _ | refine bl_drewN ?_ _ | refine Below.drew ?_ | (refine bl_tr ?_ (by assumption)))))))).mono ?_; rintro e w' ⟨pp, rfl, rfl⟩))
    all_goals go_ret
    all_goals exact ⟨ret_bool (by first | (simp [moreB, HV.out, *]; done) | (simp [moreB, HV.out, *]; intros; omega)), by (repeat (with_reducible first | exact Below.refl _ _ | (refine bl_set ?_ (by first | omega | (simp; done) | (simp; omega)) _) | refine bl_gr ?_ _ | refine bl_al ?_ _ | refine below_setRow ?_ (by first | omega | (simp; done) | (simp; omega)) _ | refine bl_drewN ?_ _ | refine Below.drew ?_ | (refine bl_tr ?_ (by assumption))))⟩

set_option maxRecDepth 100000 in
set_option maxHeartbeats 4000000 in
theorem rmo_x (k : Int) (sh fl ag : Int) (A0 : Option Addr) (n0 c0 : Nat) (v : Value) (l : List Val) (w : World) (h : IsV w v l) (n1 : (k == 1) = false) (n2 : (k == 2) = false) (n3 : (k == 3) = false) (n4 : (k == 4) = false) (n5 : (k == 5) = false) (n6 : (k == 6) = false) (n7 : (k == 7) = false) (n8 : (k == 8) = false) (n9 : (k == 9) = false) (n10 : (k == 10) = false) :
    Calls Try.prog 42 #[cellV k sh fl ag (.slice A0 n0 c0) v] w fun e w' => e = .returned (.bool (moreB k l)) ∧ Below w.heap.size w w' := by
  obtain ⟨A, cap, rfl, hcap, hm⟩ := h.form
  have H := Lib.hid h
  unfold maxLen at hm
  by_cases hbig : (1048576 : Int) < l.length
  · clear h
    go_enter Try.func42, Try.ntmps42
    go_wp2
    all_goals go_ret
    all_goals exact ⟨ret_bool (by first | (simp [moreB, *]; done) | (simp [moreB, *]; intros; omega)), by (repeat (with_reducible first | exact Below.refl _ _ | (refine bl_set ?_ (by first | omega | (simp; done) | (simp; omega)) _) | refine bl_gr ?_ _ | refine bl_al ?_ _ | refine below_setRow ?_ (by first | omega | (simp; done) | (simp; omega)) _ | refine bl_drewN ?_ _ | refine Below.drew ?_ | (refine bl_tr ?_ (by assumption))))⟩
  have hbl : l.length ≤ 1048576 := by omega
  clear h
  go_enter Try.func42, Try.ntmps42
  go_wp2
  all_goals go_ret
  all_goals exact ⟨ret_bool (by first | (simp [moreB, *]; done) | (simp [moreB, *]; intros; omega)), by (repeat (with_reducible first | exact Below.refl _ _ | (refine bl_set ?_ (by first | omega | (simp; done) | (simp; omega)) _) | refine bl_gr ?_ _ | refine bl_al ?_ _ | refine below_setRow ?_ (by first | omega | (simp; done) | (simp; omega)) _ | refine bl_drewN ?_ _ | refine Below.drew ?_ | (refine bl_tr ?_ (by assumption))))⟩
theorem rmore_any (k sh fl ag : Int) (A0 : Option Addr) (n0 c0 : Nat) (v : Value) (l : List Val) (w : World) (h : IsV w v l) :
    Calls Try.prog 42 #[cellV k sh fl ag (.slice A0 n0 c0) v] w fun e w' => e = .returned (.bool (moreB k l)) ∧ Below w.heap.size w w' := by
  by_cases n1 : k = 1
  · subst n1
    exact rmo_1 sh fl ag A0 n0 c0 v l w h
  by_cases n2 : k = 2
  · subst n2
    exact rmo_2 sh fl ag A0 n0 c0 v l w h
  by_cases n3 : k = 3
  · subst n3
    exact rmo_3 sh fl ag A0 n0 c0 v l w h
  by_cases n4 : k = 4
  · subst n4
    exact rmo_4 sh fl ag A0 n0 c0 v l w h
  by_cases n5 : k = 5
  · subst n5
    exact rmo_5 sh fl ag A0 n0 c0 v l w h
  by_cases n6 : k = 6
  · subst n6
    exact rmo_6 sh fl ag A0 n0 c0 v l w h
  by_cases n7 : k = 7
  · subst n7
    exact rmo_7 sh fl ag A0 n0 c0 v l w h
  by_cases n8 : k = 8
  · subst n8
    exact rmo_8 sh fl ag A0 n0 c0 v l w h
  by_cases n9 : k = 9
  · subst n9
    exact rmo_9 sh fl ag A0 n0 c0 v l w h
  by_cases n10 : k = 10
  · subst n10
    exact rmo_10 sh fl ag A0 n0 c0 v l w h
  exact rmo_x k sh fl ag A0 n0 c0 v l w h (by simpa using n1) (by simpa using n2) (by simpa using n3) (by simpa using n4) (by simpa using n5) (by simpa using n6) (by simpa using n7) (by simpa using n8) (by simpa using n9) (by simpa using n10)
end Go.Proofs.Ytdikdkllbhanfaa
