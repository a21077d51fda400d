/- Cells: what More may be, by the program (printed by genmore.py). -/
import Derived.Test.YtdikdkllbhanfaaCelI
namespace Go.Proofs.Ytdikdkllbhanfaa
set_option linter.all false
open Go.RowKit Go.Sort Go.Deep

def moreB (k : Int) (l : List Val) : Bool :=
  bif decide ((1048576 : Int) < l.length) then false else
  bif k == 2 then decide ((l.length : Int) ≤ 4096) else
  bif k == 1 || k == 5 then (l.length : Int) == 0 else
  bif k == 3 then (l.length : Int) == 3 && numB (vAt l 0) 0 9007199254740992 && orNoneB (vAt l 1) 9 else
  bif k == 4 then decide (1 ≤ (l.length : Int)) && decide ((l.length : Int) ≤ 4097) && orNoneB (vAt l 0) 9 else
  bif k == 6 then (l.length : Int) == 2 && numB (vAt l 0) 0 3 && orNoneB (vAt l 1) 9 else
  bif k == 7 then decide (4 ≤ (l.length : Int)) && numB (vAt l 2) 0 1 && numB (vAt l 3) 0 9007199254740992 else
  bif k == 8 then entriesB 2 l else
  bif k == 10 then decide (1 ≤ (l.length : Int)) && (vAt l 0).k == 7 && entriesB 4 (l.drop 1) else
  bif k == 9 then decide (2 ≤ (l.length : Int)) && numB (vAt l 0) 0 2 else true
theorem isV_drop {w : World} {b off cap : Nat} {l : List Val} (h : IsV w (.slice (some ⟨b, off, none⟩) l.length cap) l) (h0 : 0 < l.length) : IsV w (.slice (some ⟨b, if cap = 1 then off else off + 3, none⟩) (l.length - 1) (cap - 1)) (l.drop 1) := by
  obtain ⟨b', o', cap', e, hc, hb, hx⟩ := h.at_ h0
  have hm := h.form
  simp only [Value.slice.injEq, Option.some.injEq, Addr.mk.injEq] at e
  obtain ⟨⟨rfl, rfl, _⟩, _, rfl⟩ := e
  obtain ⟨_, _, _, _, hmm⟩ := hm
  refine ⟨by simp; omega, some ⟨b, if cap = 1 then off else off + 3, none⟩, cap - 1, by simp, by simp; omega, fun h1 => ?_⟩
  have h2 : 1 < l.length := by simp at h1; omega
  have hc1 : ¬ cap = 1 := by omega
  simp only [if_neg hc1]
  refine ⟨b, off + 3, rfl, hb, fun i x hi j u hu => ?_⟩
  have := hx (1 + i) x (by rwa [List.getElem?_drop] at hi) j u hu
  rw [show off + (1 + i) * 3 + j = off + 3 + i * 3 + j by omega] at this
  exact this

set_option maxRecDepth 100000 in
set_option maxHeartbeats 4000000 in
theorem mo_1 (v : Value) (l : List Val) (w : World) (h : IsV w v l) :
    Calls Try.prog 54 #[.int .i64 1, v] w fun e w' => e = .returned (.bool (moreB 1 l)) ∧ Below w.heap.size w w' := by
  obtain ⟨A, cap, rfl, hcap, hm⟩ := h.form
  have H := Lib.hid h
  unfold maxLen at hm
  by_cases hbig : (1048576 : Int) < l.length
  · clear h
    go_enter Try.func54, Try.ntmps54
    go_wp2
    all_goals go_ret
    all_goals exact ⟨ret_bool (by first | (simp [moreB, *]; done) | (simp [moreB, *]; intros; omega)), by (repeat (with_reducible first | exact Below.refl _ _ | (refine bl_set ?_ (by first | omega | (simp; done) | (simp; omega)) _) | refine bl_gr ?_ _ | refine bl_al ?_ _ | refine below_setRow ?_ (by first | omega | (simp; done) | (simp; omega)) _ | refine bl_drewN ?_ _ | refine Below.drew ?_ | (refine bl_tr ?_ (by assumption))))⟩
  have hbl : l.length ≤ 1048576 := by omega
  clear h
  go_enter Try.func54, Try.ntmps54
  go_wp2
  all_goals go_ret
  all_goals exact ⟨ret_bool (by first | (simp [moreB, *]; done) | (simp [moreB, *]; intros; omega)), by (repeat (with_reducible first | exact Below.refl _ _ | (refine bl_set ?_ (by first | omega | (simp; done) | (simp; omega)) _) | refine bl_gr ?_ _ | refine bl_al ?_ _ | refine below_setRow ?_ (by first | omega | (simp; done) | (simp; omega)) _ | refine bl_drewN ?_ _ | refine Below.drew ?_ | (refine bl_tr ?_ (by assumption))))⟩

set_option maxRecDepth 100000 in
set_option maxHeartbeats 4000000 in
theorem mo_2 (v : Value) (l : List Val) (w : World) (h : IsV w v l) :
    Calls Try.prog 54 #[.int .i64 2, v] w fun e w' => e = .returned (.bool (moreB 2 l)) ∧ Below w.heap.size w w' := by
  obtain ⟨A, cap, rfl, hcap, hm⟩ := h.form
  have H := Lib.hid h
  unfold maxLen at hm
  by_cases hbig : (1048576 : Int) < l.length
  · clear h
    go_enter Try.func54, Try.ntmps54
    go_wp2
    all_goals go_ret
    all_goals exact ⟨ret_bool (by first | (simp [moreB, *]; done) | (simp [moreB, *]; intros; omega)), by (repeat (with_reducible first | exact Below.refl _ _ | (refine bl_set ?_ (by first | omega | (simp; done) | (simp; omega)) _) | refine bl_gr ?_ _ | refine bl_al ?_ _ | refine below_setRow ?_ (by first | omega | (simp; done) | (simp; omega)) _ | refine bl_drewN ?_ _ | refine Below.drew ?_ | (refine bl_tr ?_ (by assumption))))⟩
  have hbl : l.length ≤ 1048576 := by omega
  clear h
  go_enter Try.func54, Try.ntmps54
  go_wp2
  all_goals go_ret
  all_goals exact ⟨ret_bool (by first | (simp [moreB, *]; done) | (simp [moreB, *]; intros; omega)), by (repeat (with_reducible first | exact Below.refl _ _ | (refine bl_set ?_ (by first | omega | (simp; done) | (simp; omega)) _) | refine bl_gr ?_ _ | refine bl_al ?_ _ | refine below_setRow ?_ (by first | omega | (simp; done) | (simp; omega)) _ | refine bl_drewN ?_ _ | refine Below.drew ?_ | (refine bl_tr ?_ (by assumption))))⟩

set_option maxRecDepth 100000 in
set_option maxHeartbeats 4000000 in
theorem mo_3 (v : Value) (l : List Val) (w : World) (h : IsV w v l) :
    Calls Try.prog 54 #[.int .i64 3, v] w fun e w' => e = .returned (.bool (moreB 3 l)) ∧ Below w.heap.size w w' := by
  obtain ⟨A, cap, rfl, hcap, hm⟩ := h.form
  have H := Lib.hid h
  unfold maxLen at hm
  by_cases hbig : (1048576 : Int) < l.length
  · clear h
    go_enter Try.func54, Try.ntmps54
    go_wp2
    all_goals go_ret
    all_goals exact ⟨ret_bool (by first | (simp [moreB, *]; done) | (simp [moreB, *]; intros; omega)), by (repeat (with_reducible first | exact Below.refl _ _ | (refine bl_set ?_ (by first | omega | (simp; done) | (simp; omega)) _) | refine bl_gr ?_ _ | refine bl_al ?_ _ | refine below_setRow ?_ (by first | omega | (simp; done) | (simp; omega)) _ | refine bl_drewN ?_ _ | refine Below.drew ?_ | (refine bl_tr ?_ (by assumption))))⟩
  have hbl : l.length ≤ 1048576 := by omega
  by_cases hc : ((l.length : Int) == 3) = true
  case neg =>
    have hc' : ((l.length : Int) == 3) = false := by simpa using hc
    clear hc h
    go_enter Try.func54, Try.ntmps54
    go_wp2
    all_goals go_ret
    all_goals exact ⟨ret_bool (by first | (simp [moreB, *]; done) | (simp [moreB, *]; intros; omega)), by (repeat (with_reducible first | exact Below.refl _ _ | (refine bl_set ?_ (by first | omega | (simp; done) | (simp; omega)) _) | refine bl_gr ?_ _ | refine bl_al ?_ _ | refine below_setRow ?_ (by first | omega | (simp; done) | (simp; omega)) _ | refine bl_drewN ?_ _ | refine Below.drew ?_ | (refine bl_tr ?_ (by assumption))))⟩
  have hlen : 3 ≤ l.length := by have := beq_iff_eq.1 hc; omega
  obtain ⟨b, off, rfl⟩ := isV_addr h (by omega)
  obtain ⟨hb0, a00, a01, a02⟩ := h.v3 0 (by omega)
  simp only [Nat.zero_mul, Nat.add_zero, Nat.one_mul, Nat.reduceMul] at a00 a01 a02
  generalize hv0 : vAt l 0 = x0 at *
  obtain ⟨hb1, a10, a11, a12⟩ := h.v3 1 (by omega)
  simp only [Nat.zero_mul, Nat.add_zero, Nat.one_mul, Nat.reduceMul] at a10 a11 a12
  generalize hv1 : vAt l 1 = x1 at *
  have HV := Lib.hid (And.intro hv0 hv1)
  have nb : b ≠ w.heap.size := by omega
  clear h hv0 hv1
  go_enter Try.func54, Try.ntmps54
  go_wp2_with (first | (go_at_call 58; refine (callGr (number_any _ _ _ _)).mono ?_; rintro e w' ⟨pp, rfl, rfl⟩) | (go_at_call 57; refine (callGr (orNone_any _ _ _)).mono ?_; rintro e w' ⟨pp, rfl, rfl⟩))
  all_goals go_ret
  all_goals exact ⟨ret_bool (by first | (simp [moreB, HV.out.1, HV.out.2, *]; done) | (simp [moreB, HV.out.1, HV.out.2, *]; intros; omega)), by (repeat (with_reducible first | exact Below.refl _ _ | (refine bl_set ?_ (by first | omega | (simp; done) | (simp; omega)) _) | refine bl_gr ?_ _ | refine bl_al ?_ _ | refine below_setRow ?_ (by first | omega | (simp; done) | (simp; omega)) _ | refine bl_drewN ?_ _ | refine Below.drew ?_ | (refine bl_tr ?_ (by assumption))))⟩

set_option maxRecDepth 100000 in
set_option maxHeartbeats 4000000 in
theorem mo_4 (v : Value) (l : List Val) (w : World) (h : IsV w v l) :
    Calls Try.prog 54 #[.int .i64 4, v] w fun e w' => e = .returned (.bool (moreB 4 l)) ∧ Below w.heap.size w w' := by
  obtain ⟨A, cap, rfl, hcap, hm⟩ := h.form
  have H := Lib.hid h
  unfold maxLen at hm
  by_cases hbig : (1048576 : Int) < l.length
  · clear h
    go_enter Try.func54, Try.ntmps54
    go_wp2
    all_goals go_ret
    all_goals exact ⟨ret_bool (by first | (simp [moreB, *]; done) | (simp [moreB, *]; intros; omega)), by (repeat (with_reducible first | exact Below.refl _ _ | (refine bl_set ?_ (by first | omega | (simp; done) | (simp; omega)) _) | refine bl_gr ?_ _ | refine bl_al ?_ _ | refine below_setRow ?_ (by first | omega | (simp; done) | (simp; omega)) _ | refine bl_drewN ?_ _ | refine Below.drew ?_ | (refine bl_tr ?_ (by assumption))))⟩
  have hbl : l.length ≤ 1048576 := by omega
  by_cases hc : (1 : Int) ≤ l.length
  case neg =>
    clear h
    go_enter Try.func54, Try.ntmps54
    go_wp2
    all_goals go_ret
    all_goals exact ⟨ret_bool (by first | (simp [moreB, *]; done) | (simp [moreB, *]; intros; omega)), by (repeat (with_reducible first | exact Below.refl _ _ | (refine bl_set ?_ (by first | omega | (simp; done) | (simp; omega)) _) | refine bl_gr ?_ _ | refine bl_al ?_ _ | refine below_setRow ?_ (by first | omega | (simp; done) | (simp; omega)) _ | refine bl_drewN ?_ _ | refine Below.drew ?_ | (refine bl_tr ?_ (by assumption))))⟩
  have hlen : 1 ≤ l.length := by omega
  obtain ⟨b, off, rfl⟩ := isV_addr h (by omega)
  obtain ⟨hb0, a00, a01, a02⟩ := h.v3 0 (by omega)
  simp only [Nat.zero_mul, Nat.add_zero, Nat.one_mul, Nat.reduceMul] at a00 a01 a02
  generalize hv0 : vAt l 0 = x0 at *
  have HV := Lib.hid (hv0)
  have nb : b ≠ w.heap.size := by omega
  clear h hv0
  go_enter Try.func54, Try.ntmps54
  go_wp2_with (first | (go_at_call 58; refine (callGr (number_any _ _ _ _)).mono ?_; rintro e w' ⟨pp, rfl, rfl⟩) | (go_at_call 57; refine (callGr (orNone_any _ _ _)).mono ?_; rintro e w' ⟨pp, rfl, rfl⟩))
  all_goals go_ret
  all_goals exact ⟨ret_bool (by first | (simp [moreB, HV.out, *]; done) | (simp [moreB, HV.out, *]; intros; omega)), by (repeat (with_reducible first | exact Below.refl _ _ | (refine bl_set ?_ (by first | omega | (simp; done) | (simp; omega)) _) | refine bl_gr ?_ _ | refine bl_al ?_ _ | refine below_setRow ?_ (by first | omega | (simp; done) | (simp; omega)) _ | refine bl_drewN ?_ _ | refine Below.drew ?_ | (refine bl_tr ?_ (by assumption))))⟩

set_option maxRecDepth 100000 in
set_option maxHeartbeats 4000000 in
theorem mo_5 (v : Value) (l : List Val) (w : World) (h : IsV w v l) :
    Calls Try.prog 54 #[.int .i64 5, v] w fun e w' => e = .returned (.bool (moreB 5 l)) ∧ Below w.heap.size w w' := by
  obtain ⟨A, cap, rfl, hcap, hm⟩ := h.form
  have H := Lib.hid h
  unfold maxLen at hm
  by_cases hbig : (1048576 : Int) < l.length
  · clear h
    go_enter Try.func54, Try.ntmps54
    go_wp2
    all_goals go_ret
    all_goals exact ⟨ret_bool (by first | (simp [moreB, *]; done) | (simp [moreB, *]; intros; omega)), by (repeat (with_reducible first | exact Below.refl _ _ | (refine bl_set ?_ (by first | omega | (simp; done) | (simp; omega)) _) | refine bl_gr ?_ _ | refine bl_al ?_ _ | refine below_setRow ?_ (by first | omega | (simp; done) | (simp; omega)) _ | refine bl_drewN ?_ _ | refine Below.drew ?_ | (refine bl_tr ?_ (by assumption))))⟩
  have hbl : l.length ≤ 1048576 := by omega
  clear h
  go_enter Try.func54, Try.ntmps54
  go_wp2
  all_goals go_ret
  all_goals exact ⟨ret_bool (by first | (simp [moreB, *]; done) | (simp [moreB, *]; intros; omega)), by (repeat (with_reducible first | exact Below.refl _ _ | (refine bl_set ?_ (by first | omega | (simp; done) | (simp; omega)) _) | refine bl_gr ?_ _ | refine bl_al ?_ _ | refine below_setRow ?_ (by first | omega | (simp; done) | (simp; omega)) _ | refine bl_drewN ?_ _ | refine Below.drew ?_ | (refine bl_tr ?_ (by assumption))))⟩

set_option maxRecDepth 100000 in
set_option maxHeartbeats 4000000 in
theorem mo_6 (v : Value) (l : List Val) (w : World) (h : IsV w v l) :
    Calls Try.prog 54 #[.int .i64 6, v] w fun e w' => e = .returned (.bool (moreB 6 l)) ∧ Below w.heap.size w w' := by
  obtain ⟨A, cap, rfl, hcap, hm⟩ := h.form
  have H := Lib.hid h
  unfold maxLen at hm
  by_cases hbig : (1048576 : Int) < l.length
  · clear h
    go_enter Try.func54, Try.ntmps54
    go_wp2
    all_goals go_ret
    all_goals exact ⟨ret_bool (by first | (simp [moreB, *]; done) | (simp [moreB, *]; intros; omega)), by (repeat (with_reducible first | exact Below.refl _ _ | (refine bl_set ?_ (by first | omega | (simp; done) | (simp; omega)) _) | refine bl_gr ?_ _ | refine bl_al ?_ _ | refine below_setRow ?_ (by first | omega | (simp; done) | (simp; omega)) _ | refine bl_drewN ?_ _ | refine Below.drew ?_ | (refine bl_tr ?_ (by assumption))))⟩
  have hbl : l.length ≤ 1048576 := by omega
  by_cases hc : ((l.length : Int) == 2) = true
  case neg =>
    have hc' : ((l.length : Int) == 2) = false := by simpa using hc
    clear hc h
    go_enter Try.func54, Try.ntmps54
    go_wp2
    all_goals go_ret
    all_goals exact ⟨ret_bool (by first | (simp [moreB, *]; done) | (simp [moreB, *]; intros; omega)), by (repeat (with_reducible first | exact Below.refl _ _ | (refine bl_set ?_ (by first | omega | (simp; done) | (simp; omega)) _) | refine bl_gr ?_ _ | refine bl_al ?_ _ | refine below_setRow ?_ (by first | omega | (simp; done) | (simp; omega)) _ | refine bl_drewN ?_ _ | refine Below.drew ?_ | (refine bl_tr ?_ (by assumption))))⟩
  have hlen : 2 ≤ l.length := by have := beq_iff_eq.1 hc; omega
  obtain ⟨b, off, rfl⟩ := isV_addr h (by omega)
  obtain ⟨hb0, a00, a01, a02⟩ := h.v3 0 (by omega)
  simp only [Nat.zero_mul, Nat.add_zero, Nat.one_mul, Nat.reduceMul] at a00 a01 a02
  generalize hv0 : vAt l 0 = x0 at *
  obtain ⟨hb1, a10, a11, a12⟩ := h.v3 1 (by omega)
  simp only [Nat.zero_mul, Nat.add_zero, Nat.one_mul, Nat.reduceMul] at a10 a11 a12
  generalize hv1 : vAt l 1 = x1 at *
  have HV := Lib.hid (And.intro hv0 hv1)
  have nb : b ≠ w.heap.size := by omega
  clear h hv0 hv1
  go_enter Try.func54, Try.ntmps54
  go_wp2_with (first | (go_at_call 58; refine (callGr (number_any _ _ _ _)).mono ?_; rintro e w' ⟨pp, rfl, rfl⟩) | (go_at_call 57; refine (callGr (orNone_any _ _ _)).mono ?_; rintro e w' ⟨pp, rfl, rfl⟩))
  all_goals go_ret
  all_goals exact ⟨ret_bool (by first | (simp [moreB, HV.out.1, HV.out.2, *]; done) | (simp [moreB, HV.out.1, HV.out.2, *]; intros; omega)), by (repeat (with_reducible first | exact Below.refl _ _ | (refine bl_set ?_ (by first | omega | (simp; done) | (simp; omega)) _) | refine bl_gr ?_ _ | refine bl_al ?_ _ | refine below_setRow ?_ (by first | omega | (simp; done) | (simp; omega)) _ | refine bl_drewN ?_ _ | refine Below.drew ?_ | (refine bl_tr ?_ (by assumption))))⟩

set_option maxRecDepth 100000 in
set_option maxHeartbeats 4000000 in
theorem mo_7 (v : Value) (l : List Val) (w : World) (h : IsV w v l) :
    Calls Try.prog 54 #[.int .i64 7, v] w fun e w' => e = .returned (.bool (moreB 7 l)) ∧ Below w.heap.size w w' := by
  obtain ⟨A, cap, rfl, hcap, hm⟩ := h.form
  have H := Lib.hid h
  unfold maxLen at hm
  by_cases hbig : (1048576 : Int) < l.length
  · clear h
    go_enter Try.func54, Try.ntmps54
    go_wp2
    all_goals go_ret
    all_goals exact ⟨ret_bool (by first | (simp [moreB, *]; done) | (simp [moreB, *]; intros; omega)), by (repeat (with_reducible first | exact Below.refl _ _ | (refine bl_set ?_ (by first | omega | (simp; done) | (simp; omega)) _) | refine bl_gr ?_ _ | refine bl_al ?_ _ | refine below_setRow ?_ (by first | omega | (simp; done) | (simp; omega)) _ | refine bl_drewN ?_ _ | refine Below.drew ?_ | (refine bl_tr ?_ (by assumption))))⟩
  have hbl : l.length ≤ 1048576 := by omega
  by_cases hc : (4 : Int) ≤ l.length
  case neg =>
    clear h
    go_enter Try.func54, Try.ntmps54
    go_wp2
    all_goals go_ret
    all_goals exact ⟨ret_bool (by first | (simp [moreB, *]; done) | (simp [moreB, *]; intros; omega)), by (repeat (with_reducible first | exact Below.refl _ _ | (refine bl_set ?_ (by first | omega | (simp; done) | (simp; omega)) _) | refine bl_gr ?_ _ | refine bl_al ?_ _ | refine below_setRow ?_ (by first | omega | (simp; done) | (simp; omega)) _ | refine bl_drewN ?_ _ | refine Below.drew ?_ | (refine bl_tr ?_ (by assumption))))⟩
  have hlen : 4 ≤ l.length := by omega
  obtain ⟨b, off, rfl⟩ := isV_addr h (by omega)
  obtain ⟨hb2, a20, a21, a22⟩ := h.v3 2 (by omega)
  simp only [Nat.zero_mul, Nat.add_zero, Nat.one_mul, Nat.reduceMul] at a20 a21 a22
  generalize hv2 : vAt l 2 = x2 at *
  obtain ⟨hb3, a30, a31, a32⟩ := h.v3 3 (by omega)
  simp only [Nat.zero_mul, Nat.add_zero, Nat.one_mul, Nat.reduceMul] at a30 a31 a32
  generalize hv3 : vAt l 3 = x3 at *
  have HV := Lib.hid (And.intro hv2 hv3)
  have nb : b ≠ w.heap.size := by omega
  clear h hv2 hv3
  go_enter Try.func54, Try.ntmps54
  go_wp2_with (first | (go_at_call 58; refine (callGr (number_any _ _ _ _)).mono ?_; rintro e w' ⟨pp, rfl, rfl⟩) | (go_at_call 57; refine (callGr (orNone_any _ _ _)).mono ?_; rintro e w' ⟨pp, rfl, rfl⟩))
  all_goals go_ret
  all_goals exact ⟨ret_bool (by first | (simp [moreB, HV.out.1, HV.out.2, *]; done) | (simp [moreB, HV.out.1, HV.out.2, *]; intros; omega)), by (repeat (with_reducible first | exact Below.refl _ _ | (refine bl_set ?_ (by first | omega | (simp; done) | (simp; omega)) _) | refine bl_gr ?_ _ | refine bl_al ?_ _ | refine below_setRow ?_ (by first | omega | (simp; done) | (simp; omega)) _ | refine bl_drewN ?_ _ | refine Below.drew ?_ | (refine bl_tr ?_ (by assumption))))⟩

set_option maxRecDepth 100000 in
set_option maxHeartbeats 4000000 in
theorem mo_8 (v : Value) (l : List Val) (w : World) (h : IsV w v l) :
    Calls Try.prog 54 #[.int .i64 8, v] w fun e w' => e = .returned (.bool (moreB 8 l)) ∧ Below w.heap.size w w' := by
  obtain ⟨A, cap, rfl, hcap, hm⟩ := h.form
  have H := Lib.hid h
  unfold maxLen at hm
  by_cases hbig : (1048576 : Int) < l.length
  · clear h
    go_enter Try.func54, Try.ntmps54
    go_wp2
    all_goals go_ret
    all_goals exact ⟨ret_bool (by first | (simp [moreB, *]; done) | (simp [moreB, *]; intros; omega)), by (repeat (with_reducible first | exact Below.refl _ _ | (refine bl_set ?_ (by first | omega | (simp; done) | (simp; omega)) _) | refine bl_gr ?_ _ | refine bl_al ?_ _ | refine below_setRow ?_ (by first | omega | (simp; done) | (simp; omega)) _ | refine bl_drewN ?_ _ | refine Below.drew ?_ | (refine bl_tr ?_ (by assumption))))⟩
  have hbl : l.length ≤ 1048576 := by omega
  clear h
  go_enter Try.func54, Try.ntmps54
  go_wp2_with ((go_at_call 59; refine (callGr (entriesRight_any _ l 2 (.inl rfl) _ (H.out.below (by (repeat (with_reducible first | exact Below.refl _ _ | (refine bl_set ?_ (by first | omega | (simp; done) | (simp; omega)) _) | refine bl_gr ?_ _ | refine bl_al ?_ _ | refine below_setRow ?_ (by first | omega | (simp; done) | (simp; omega)) _ | refine bl_drewN ?_ _ | refine Below.drew ?_ | (refine bl_tr ?_ (by assumption)))))))).mono ?_; rintro e w' ⟨pp, rfl, rfl⟩))
  all_goals go_ret
  all_goals exact ⟨ret_bool (by first | (simp [moreB, *]; done) | (simp [moreB, *]; intros; omega)), by (repeat (with_reducible first | exact Below.refl _ _ | (refine bl_set ?_ (by first | omega | (simp; done) | (simp; omega)) _) | refine bl_gr ?_ _ | refine bl_al ?_ _ | refine below_setRow ?_ (by first | omega | (simp; done) | (simp; omega)) _ | refine bl_drewN ?_ _ | refine Below.drew ?_ | (refine bl_tr ?_ (by assumption))))⟩

set_option maxRecDepth 100000 in
set_option maxHeartbeats 4000000 in
theorem mo_9 (v : Value) (l : List Val) (w : World) (h : IsV w v l) :
    Calls Try.prog 54 #[.int .i64 9, v] w fun e w' => e = .returned (.bool (moreB 9 l)) ∧ Below w.heap.size w w' := by
  obtain ⟨A, cap, rfl, hcap, hm⟩ := h.form
  have H := Lib.hid h
  unfold maxLen at hm
  by_cases hbig : (1048576 : Int) < l.length
  · clear h
    go_enter Try.func54, Try.ntmps54
    go_wp2
    all_goals go_ret
    all_goals exact ⟨ret_bool (by first | (simp [moreB, *]; done) | (simp [moreB, *]; intros; omega)), by (repeat (with_reducible first | exact Below.refl _ _ | (refine bl_set ?_ (by first | omega | (simp; done) | (simp; omega)) _) | refine bl_gr ?_ _ | refine bl_al ?_ _ | refine below_setRow ?_ (by first | omega | (simp; done) | (simp; omega)) _ | refine bl_drewN ?_ _ | refine Below.drew ?_ | (refine bl_tr ?_ (by assumption))))⟩
  have hbl : l.length ≤ 1048576 := by omega
  by_cases hc : (2 : Int) ≤ l.length
  case neg =>
    clear h
    go_enter Try.func54, Try.ntmps54
    go_wp2
    all_goals go_ret
    all_goals exact ⟨ret_bool (by first | (simp [moreB, *]; done) | (simp [moreB, *]; intros; omega)), by (repeat (with_reducible first | exact Below.refl _ _ | (refine bl_set ?_ (by first | omega | (simp; done) | (simp; omega)) _) | refine bl_gr ?_ _ | refine bl_al ?_ _ | refine below_setRow ?_ (by first | omega | (simp; done) | (simp; omega)) _ | refine bl_drewN ?_ _ | refine Below.drew ?_ | (refine bl_tr ?_ (by assumption))))⟩
  have hlen : 2 ≤ l.length := by omega
  obtain ⟨b, off, rfl⟩ := isV_addr h (by omega)
  obtain ⟨hb0, a00, a01, a02⟩ := h.v3 0 (by omega)
  simp only [Nat.zero_mul, Nat.add_zero, Nat.one_mul, Nat.reduceMul] at a00 a01 a02
  generalize hv0 : vAt l 0 = x0 at *
  have HV := Lib.hid (hv0)
  have nb : b ≠ w.heap.size := by omega
  clear h hv0
  go_enter Try.func54, Try.ntmps54
  go_wp2_with (first | (go_at_call 58; refine (callGr (number_any _ _ _ _)).mono ?_; rintro e w' ⟨pp, rfl, rfl⟩) | (go_at_call 57; refine (callGr (orNone_any _ _ _)).mono ?_; rintro e w' ⟨pp, rfl, rfl⟩))
  all_goals go_ret
  all_goals exact ⟨ret_bool (by first | (simp [moreB, HV.out, *]; done) | (simp [moreB, HV.out, *]; intros; omega)), by (repeat (with_reducible first | exact Below.refl _ _ | (refine bl_set ?_ (by first | omega | (simp; done) | (simp; omega)) _) | refine bl_gr ?_ _ | refine bl_al ?_ _ | refine below_setRow ?_ (by first | omega | (simp; done) | (simp; omega)) _ | refine bl_drewN ?_ _ | refine Below.drew ?_ | (refine bl_tr ?_ (by assumption))))⟩

set_option maxRecDepth 100000 in
set_option maxHeartbeats 4000000 in
theorem mo_10 (v : Value) (l : List Val) (w : World) (h : IsV w v l) :
    Calls Try.prog 54 #[.int .i64 10, v] w fun e w' => e = .returned (.bool (moreB 10 l)) ∧ Below w.heap.size w w' := by
  obtain ⟨A, cap, rfl, hcap, hm⟩ := h.form
  have H := Lib.hid h
  unfold maxLen at hm
  by_cases hbig : (1048576 : Int) < l.length
  · clear h
    go_enter Try.func54, Try.ntmps54
    go_wp2
    all_goals go_ret
    all_goals exact ⟨ret_bool (by first | (simp [moreB, *]; done) | (simp [moreB, *]; intros; omega)), by (repeat (with_reducible first | exact Below.refl _ _ | (refine bl_set ?_ (by first | omega | (simp; done) | (simp; omega)) _) | refine bl_gr ?_ _ | refine bl_al ?_ _ | refine below_setRow ?_ (by first | omega | (simp; done) | (simp; omega)) _ | refine bl_drewN ?_ _ | refine Below.drew ?_ | (refine bl_tr ?_ (by assumption))))⟩
  have hbl : l.length ≤ 1048576 := by omega
  by_cases hc : (1 : Int) ≤ l.length
  case neg =>
    clear h
    go_enter Try.func54, Try.ntmps54
    go_wp2
    all_goals go_ret
    all_goals exact ⟨ret_bool (by first | (simp [moreB, *]; done) | (simp [moreB, *]; intros; omega)), by (repeat (with_reducible first | exact Below.refl _ _ | (refine bl_set ?_ (by first | omega | (simp; done) | (simp; omega)) _) | refine bl_gr ?_ _ | refine bl_al ?_ _ | refine below_setRow ?_ (by first | omega | (simp; done) | (simp; omega)) _ | refine bl_drewN ?_ _ | refine Below.drew ?_ | (refine bl_tr ?_ (by assumption))))⟩
  have hlen : 1 ≤ l.length := by omega
  obtain ⟨b, off, rfl⟩ := isV_addr h (by omega)
  obtain ⟨hb0, a00, a01, a02⟩ := h.v3 0 (by omega)
  simp only [Nat.zero_mul, Nat.add_zero, Nat.one_mul, Nat.reduceMul] at a00 a01 a02
  generalize hv0 : vAt l 0 = x0 at *
  have HV := Lib.hid (hv0)
  have nb : b ≠ w.heap.size := by omega
  have HD := Lib.hid (isV_drop h (by omega))
  have hz : ¬ (l.length : Int) < 1 := by omega
  have z1 : 1 ≤ cap := by omega
  clear h hv0
  by_cases hc1 : cap = 1
  · have hdd : l.drop 1 = [] := List.eq_nil_of_length_eq_zero (by simp; omega)
    have HDD := Lib.hid hdd
    have HE := Lib.hid (show IsV w (.slice (some ⟨b, off, none⟩) 0 0) [] by have := HD.out; rw [if_pos hc1, hc1, hdd] at this; have e1 : l.length - 1 = 0 := by omega
                                                                            rw [e1] at this; exact this)
    subst hc1
    clear HD hdd
    go_enter Try.func54, Try.ntmps54
    go_wp2_with ((go_at_call 59; refine (callGr (entriesRight_any _ [] 4 (.inr rfl) _ (HE.out.below (by (repeat (with_reducible first | exact Below.refl _ _ | (refine bl_set ?_ (by first | omega | (simp; done) | (simp; omega)) _) | refine bl_gr ?_ _ | refine bl_al ?_ _ | refine below_setRow ?_ (by first | omega | (simp; done) | (simp; omega)) _ | refine bl_drewN ?_ _ | refine Below.drew ?_ | (refine bl_tr ?_ (by assumption)))))))).mono ?_; rintro e w' ⟨pp, rfl, rfl⟩))
    all_goals go_ret
    all_goals exact ⟨ret_bool (by first | (simp [moreB, HV.out, HDD.out, *]; done) | (simp [moreB, HV.out, HDD.out, *]; intros; omega)), by (repeat (with_reducible first | exact Below.refl _ _ | (refine bl_set ?_ (by first | omega | (simp; done) | (simp; omega)) _) | refine bl_gr ?_ _ | refine bl_al ?_ _ | refine below_setRow ?_ (by first | omega | (simp; done) | (simp; omega)) _ | refine bl_drewN ?_ _ | refine Below.drew ?_ | (refine bl_tr ?_ (by assumption))))⟩
  · have HE := Lib.hid (show IsV w (.slice (some ⟨b, off + 3, none⟩) (l.length - 1) (cap - 1)) (l.drop 1) by have := HD.out; rw [if_neg hc1] at this; exact this)
    clear HD
    go_enter Try.func54, Try.ntmps54
    go_wp2_with ((go_at_call 59; refine (callGr (entriesRight_any _ (l.drop 1) 4 (.inr rfl) _ (HE.out.below (by (repeat (with_reducible first | exact Below.refl _ _ | (refine bl_set ?_ (by first | omega | (simp; done) | (simp; omega)) _) | refine bl_gr ?_ _ | refine bl_al ?_ _ | refine below_setRow ?_ (by first | omega | (simp; done) | (simp; omega)) _ | refine bl_drewN ?_ _ | refine Below.drew ?_ | (refine bl_tr ?_ (by assumption)))))))).mono ?_; rintro e w' ⟨pp, rfl, rfl⟩))
    all_goals go_ret
    all_goals exact ⟨ret_bool (by first | (simp [moreB, HV.out, *]; done) | (simp [moreB, HV.out, *]; intros; omega)), by (repeat (with_reducible first | exact Below.refl _ _ | (refine bl_set ?_ (by first | omega | (simp; done) | (simp; omega)) _) | refine bl_gr ?_ _ | refine bl_al ?_ _ | refine below_setRow ?_ (by first | omega | (simp; done) | (simp; omega)) _ | refine bl_drewN ?_ _ | refine Below.drew ?_ | (refine bl_tr ?_ (by assumption))))⟩

set_option maxRecDepth 100000 in
set_option maxHeartbeats 4000000 in
theorem mo_x (k : Int) (v : Value) (l : List Val) (w : World) (h : IsV w v l) (n1 : (k == 1) = false) (n2 : (k == 2) = false) (n3 : (k == 3) = false) (n4 : (k == 4) = false) (n5 : (k == 5) = false) (n6 : (k == 6) = false) (n7 : (k == 7) = false) (n8 : (k == 8) = false) (n9 : (k == 9) = false) (n10 : (k == 10) = false) :
    Calls Try.prog 54 #[.int .i64 k, v] w fun e w' => e = .returned (.bool (moreB k l)) ∧ Below w.heap.size w w' := by
  obtain ⟨A, cap, rfl, hcap, hm⟩ := h.form
  have H := Lib.hid h
  unfold maxLen at hm
  by_cases hbig : (1048576 : Int) < l.length
  · clear h
    go_enter Try.func54, Try.ntmps54
    go_wp2
    all_goals go_ret
    all_goals exact ⟨ret_bool (by first | (simp [moreB, *]; done) | (simp [moreB, *]; intros; omega)), by (repeat (with_reducible first | exact Below.refl _ _ | (refine bl_set ?_ (by first | omega | (simp; done) | (simp; omega)) _) | refine bl_gr ?_ _ | refine bl_al ?_ _ | refine below_setRow ?_ (by first | omega | (simp; done) | (simp; omega)) _ | refine bl_drewN ?_ _ | refine Below.drew ?_ | (refine bl_tr ?_ (by assumption))))⟩
  have hbl : l.length ≤ 1048576 := by omega
  clear h
  go_enter Try.func54, Try.ntmps54
  go_wp2
  all_goals go_ret
  all_goals exact ⟨ret_bool (by first | (simp [moreB, *]; done) | (simp [moreB, *]; intros; omega)), by (repeat (with_reducible first | exact Below.refl _ _ | (refine bl_set ?_ (by first | omega | (simp; done) | (simp; omega)) _) | refine bl_gr ?_ _ | refine bl_al ?_ _ | refine below_setRow ?_ (by first | omega | (simp; done) | (simp; omega)) _ | refine bl_drewN ?_ _ | refine Below.drew ?_ | (refine bl_tr ?_ (by assumption))))⟩
theorem moreRight_any (k : Int) (v : Value) (l : List Val) (w : World) (h : IsV w v l) :
    Calls Try.prog 54 #[.int .i64 k, v] w fun e w' => e = .returned (.bool (moreB k l)) ∧ Below w.heap.size w w' := by
  by_cases n1 : k = 1
  · subst n1
    exact mo_1 v l w h
  by_cases n2 : k = 2
  · subst n2
    exact mo_2 v l w h
  by_cases n3 : k = 3
  · subst n3
    exact mo_3 v l w h
  by_cases n4 : k = 4
  · subst n4
    exact mo_4 v l w h
  by_cases n5 : k = 5
  · subst n5
    exact mo_5 v l w h
  by_cases n6 : k = 6
  · subst n6
    exact mo_6 v l w h
  by_cases n7 : k = 7
  · subst n7
    exact mo_7 v l w h
  by_cases n8 : k = 8
  · subst n8
    exact mo_8 v l w h
  by_cases n9 : k = 9
  · subst n9
    exact mo_9 v l w h
  by_cases n10 : k = 10
  · subst n10
    exact mo_10 v l w h
  exact mo_x k v l w h (by simpa using n1) (by simpa using n2) (by simpa using n3) (by simpa using n4) (by simpa using n5) (by simpa using n6) (by simpa using n7) (by simpa using n8) (by simpa using n9) (by simpa using n10)
end Go.Proofs.Ytdikdkllbhanfaa
