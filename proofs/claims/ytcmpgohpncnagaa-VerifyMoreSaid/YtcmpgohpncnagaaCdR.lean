/- Operands, the reference's Part (printed by gen51R.py). -/
import Derived.Test.YtcmpgohpncnagaaCdJ
namespace Go.Proofs.Ytcmpgohpncnagaa
set_option linter.all false
open Go.ChangeShapes Go.WideShapes Go.ChangeAt Go.RowKit Go.Sort Go.Deep Go.Shelf

def rinB (n b : Int) : Bool := decide (0 ≤ n) && decide (n < b)
theorem rin_b (n b : Int) (w : World) : Calls Try.prog 71 #[.int .i64 n, .int .i64 b] w fun e w' => e = .returned (.bool (rinB n b)) ∧ w = w' := rin_any n b w
theorem rinB_in (n b : Int) : rinB n b = inB n 0 (b - 1) := by
  unfold rinB inB
  rw [decide_eq_decide.2 (show n < b ↔ n ≤ b - 1 by omega)]

set_option maxRecDepth 100000 in
set_option maxHeartbeats 4000000 in
theorem rpart_114 (c : CodeD) (i p k g : Value) (n : Int) (hr : 0 ≤ c.rg ∧ c.rg ≤ 4096) (hn : i64ok n) (w : World) (h : Cd4 w i p k g c) :
    Calls Try.prog 50 #[codeV c.nm c.kd c.ln c.rg i p k g, .int .u8 114, .int .i64 n] w fun e w' => e = .returned (.bool (prtC c 114 n)) ∧ Below w.heap.size w w' := by
  obtain ⟨A1, c1, A2, c2, A3, c3, A4, c4, rfl, rfl, rfl, rfl⟩ := h.forms
  have RS := Lib.hid (show prtC c 114 n = rinB n c.rg by rw [rinB_in]; simp [prtC])
  rw [RS.out]
  clear h
  go_enter Try.func50, Try.ntmps50
  go_wp2_with (go_at_call 71; refine (rin_b _ _ _).mono ?_; rintro e w' ⟨rfl, rfl⟩)
  all_goals go_ret
  all_goals exact ⟨ret_bool (by first | rfl | (simp [*]; done) | (simp [*]; omega)), by (repeat (with_reducible first | exact Below.refl _ _ | (refine bl_set ?_ (by first | omega | (simp; done) | (simp; omega)) _) | refine bl_gr ?_ _ | refine bl_al ?_ _ | refine below_setRow ?_ (by first | omega | (simp; done) | (simp; omega)) _ | refine bl_drewN ?_ _ | refine Below.drew ?_ | (refine bl_tr ?_ (by assumption))))⟩

set_option maxRecDepth 100000 in
set_option maxHeartbeats 4000000 in
theorem rpart_100 (c : CodeD) (i p k g : Value) (n : Int) (hr : 0 ≤ c.rg ∧ c.rg ≤ 4096) (hn : i64ok n) (w : World) (h : Cd4 w i p k g c) :
    Calls Try.prog 50 #[codeV c.nm c.kd c.ln c.rg i p k g, .int .u8 100, .int .i64 n] w fun e w' => e = .returned (.bool (prtC c 100 n)) ∧ Below w.heap.size w w' := by
  obtain ⟨A1, c1, A2, c2, A3, c3, A4, c4, rfl, rfl, rfl, rfl⟩ := h.forms
  have RS := Lib.hid (show prtC c 100 n = rinB n (c.rg - 1) by rw [rinB_in, show c.rg - 1 - 1 = c.rg - 2 by omega]; simp [prtC])
  rw [RS.out]
  have e1 : wrap64 (c.rg - 1) = c.rg - 1 := by unfold wrap64; omega
  clear h
  go_enter Try.func50, Try.ntmps50
  go_wp2_with (go_at_call 71; refine (rin_b _ _ _).mono ?_; rintro e w' ⟨rfl, rfl⟩)
  all_goals go_ret
  all_goals exact ⟨ret_bool (by first | rfl | (simp [*]; done) | (simp [*]; omega)), by (repeat (with_reducible first | exact Below.refl _ _ | (refine bl_set ?_ (by first | omega | (simp; done) | (simp; omega)) _) | refine bl_gr ?_ _ | refine bl_al ?_ _ | refine below_setRow ?_ (by first | omega | (simp; done) | (simp; omega)) _ | refine bl_drewN ?_ _ | refine Below.drew ?_ | (refine bl_tr ?_ (by assumption))))⟩

set_option maxRecDepth 100000 in
set_option maxHeartbeats 4000000 in
theorem rpart_113 (c : CodeD) (i p k g : Value) (n : Int) (hr : 0 ≤ c.rg ∧ c.rg ≤ 4096) (hn : i64ok n) (w : World) (h : Cd4 w i p k g c) :
    Calls Try.prog 50 #[codeV c.nm c.kd c.ln c.rg i p k g, .int .u8 113, .int .i64 n] w fun e w' => e = .returned (.bool (prtC c 113 n)) ∧ Below w.heap.size w w' := by
  obtain ⟨A1, c1, A2, c2, A3, c3, A4, c4, rfl, rfl, rfl, rfl⟩ := h.forms
  have RS := Lib.hid (show prtC c 113 n = (decide (0 ≤ n) && decide (n / 2 < c.rg)) by simp [prtC])
  by_cases h0 : 0 ≤ n
  · have RT := Lib.hid (show prtC c 113 n = rinB (n / 2) c.rg by rw [RS.out, decide_eq_true h0]; simp [rinB, Int.ediv_nonneg h0])
    rw [RT.out]
    have e1 : wrap64 (n.tdiv 2) = n / 2 := by rw [Int.tdiv_eq_ediv_of_nonneg h0]; unfold i64ok at hn; unfold wrap64; omega
    have RC := Lib.hid (fun W => rin_b (n / 2) c.rg W)
    generalize rinB (n / 2) c.rg = r at *
    clear h
    go_enter Try.func50, Try.ntmps50
    go_wp2_with (go_at_call 71; refine (RC.out _).mono ?_; rintro e w' ⟨rfl, rfl⟩)
    all_goals go_ret
    all_goals exact ⟨ret_bool (by first | rfl | (simp [*]; done) | (simp [*]; rw [Bool.eq_iff_iff]; simp [*]; done) | (simp [*]; omega)), by (repeat (with_reducible first | exact Below.refl _ _ | (refine bl_set ?_ (by first | omega | (simp; done) | (simp; omega)) _) | refine bl_gr ?_ _ | refine bl_al ?_ _ | refine below_setRow ?_ (by first | omega | (simp; done) | (simp; omega)) _ | refine bl_drewN ?_ _ | refine Below.drew ?_ | (refine bl_tr ?_ (by assumption))))⟩
  · have RT := Lib.hid (show prtC c 113 n = false by rw [RS.out, decide_eq_false h0]; rfl)
    rw [RT.out]
    clear h
    go_enter Try.func50, Try.ntmps50
    go_wp2
    all_goals go_ret
    all_goals exact ⟨ret_bool (by first | rfl | (simp [*]; done) | (simp [*]; omega)), by (repeat (with_reducible first | exact Below.refl _ _ | (refine bl_set ?_ (by first | omega | (simp; done) | (simp; omega)) _) | refine bl_gr ?_ _ | refine bl_al ?_ _ | refine below_setRow ?_ (by first | omega | (simp; done) | (simp; omega)) _ | refine bl_drewN ?_ _ | refine Below.drew ?_ | (refine bl_tr ?_ (by assumption))))⟩

set_option maxRecDepth 100000 in
set_option maxHeartbeats 4000000 in
theorem rpart_116 (c : CodeD) (i p k g : Value) (n : Int) (hr : 0 ≤ c.rg ∧ c.rg ≤ 4096) (hn : i64ok n) (w : World) (h : Cd4 w i p k g c) :
    Calls Try.prog 50 #[codeV c.nm c.kd c.ln c.rg i p k g, .int .u8 116, .int .i64 n] w fun e w' => e = .returned (.bool (prtC c 116 n)) ∧ Below w.heap.size w w' := by
  obtain ⟨A1, c1, A2, c2, A3, c3, A4, c4, rfl, rfl, rfl, rfl⟩ := h.forms
  have RS := Lib.hid (show prtC c 116 n = (decide (0 ≤ n) && decide (n / 4 < c.rg) && decide (n % 4 ≤ 2)) by simp [prtC])
  by_cases h0 : 0 ≤ n
  · have RT := Lib.hid (show prtC c 116 n = (rinB (n / 4) c.rg && !(n % 4 == 3)) by rw [RS.out, decide_eq_true h0]; rw [show decide (n % 4 ≤ 2) = !(n % 4 == 3) by rw [Bool.eq_iff_iff]; simp; omega]; simp [rinB, Int.ediv_nonneg h0])
    rw [RT.out]
    have e1 : wrap64 (n.tdiv 4) = n / 4 := by rw [Int.tdiv_eq_ediv_of_nonneg h0]; unfold i64ok at hn; unfold wrap64; omega
    have RC := Lib.hid (fun W => rin_b (n / 4) c.rg W)
    generalize rinB (n / 4) c.rg = r at *
    clear h
    go_enter Try.func50, Try.ntmps50
    go_wp2_with (go_at_call 71; refine (RC.out _).mono ?_; rintro e w' ⟨rfl, rfl⟩)
    all_goals go_ret
    all_goals exact ⟨ret_bool (by first | rfl | (simp [*]; done) | (simp [*]; rw [Bool.eq_iff_iff]; simp [*]; done) | (simp [*]; omega)), by (repeat (with_reducible first | exact Below.refl _ _ | (refine bl_set ?_ (by first | omega | (simp; done) | (simp; omega)) _) | refine bl_gr ?_ _ | refine bl_al ?_ _ | refine below_setRow ?_ (by first | omega | (simp; done) | (simp; omega)) _ | refine bl_drewN ?_ _ | refine Below.drew ?_ | (refine bl_tr ?_ (by assumption))))⟩
  · have RT := Lib.hid (show prtC c 116 n = false by rw [RS.out, decide_eq_false h0]; rfl)
    rw [RT.out]
    clear h
    go_enter Try.func50, Try.ntmps50
    go_wp2
    all_goals go_ret
    all_goals exact ⟨ret_bool (by first | rfl | (simp [*]; done) | (simp [*]; omega)), by (repeat (with_reducible first | exact Below.refl _ _ | (refine bl_set ?_ (by first | omega | (simp; done) | (simp; omega)) _) | refine bl_gr ?_ _ | refine bl_al ?_ _ | refine below_setRow ?_ (by first | omega | (simp; done) | (simp; omega)) _ | refine bl_drewN ?_ _ | refine Below.drew ?_ | (refine bl_tr ?_ (by assumption))))⟩

set_option maxRecDepth 100000 in
set_option maxHeartbeats 4000000 in
theorem rpart_112 (c : CodeD) (i p k g : Value) (n : Int) (hr : 0 ≤ c.rg ∧ c.rg ≤ 4096) (hn : i64ok n) (w : World) (h : Cd4 w i p k g c) :
    Calls Try.prog 50 #[codeV c.nm c.kd c.ln c.rg i p k g, .int .u8 112, .int .i64 n] w fun e w' => e = .returned (.bool (prtC c 112 n)) ∧ Below w.heap.size w w' := by
  obtain ⟨A1, c1, A2, c2, A3, c3, A4, c4, rfl, rfl, rfl, rfl⟩ := h.forms
  have RS := Lib.hid (show prtC c 112 n = rinB n (c.pl.length : Int) by rw [rinB_in]; simp [prtC])
  rw [RS.out]
  clear h
  go_enter Try.func50, Try.ntmps50
  go_wp2_with (go_at_call 71; refine (rin_b _ _ _).mono ?_; rintro e w' ⟨rfl, rfl⟩)
  all_goals go_ret
  all_goals exact ⟨ret_bool (by first | rfl | (simp [*]; done) | (simp [*]; omega)), by (repeat (with_reducible first | exact Below.refl _ _ | (refine bl_set ?_ (by first | omega | (simp; done) | (simp; omega)) _) | refine bl_gr ?_ _ | refine bl_al ?_ _ | refine below_setRow ?_ (by first | omega | (simp; done) | (simp; omega)) _ | refine bl_drewN ?_ _ | refine Below.drew ?_ | (refine bl_tr ?_ (by assumption))))⟩

set_option maxRecDepth 100000 in
set_option maxHeartbeats 4000000 in
theorem rpart_107 (c : CodeD) (i p k g : Value) (n : Int) (hr : 0 ≤ c.rg ∧ c.rg ≤ 4096) (hn : i64ok n) (w : World) (h : Cd4 w i p k g c) :
    Calls Try.prog 50 #[codeV c.nm c.kd c.ln c.rg i p k g, .int .u8 107, .int .i64 n] w fun e w' => e = .returned (.bool (prtC c 107 n)) ∧ Below w.heap.size w w' := by
  obtain ⟨A1, c1, A2, c2, A3, c3, A4, c4, rfl, rfl, rfl, rfl⟩ := h.forms
  have RS := Lib.hid (show prtC c 107 n = rinB n (c.ks.length : Int) by rw [rinB_in]; simp [prtC])
  rw [RS.out]
  clear h
  go_enter Try.func50, Try.ntmps50
  go_wp2_with (go_at_call 71; refine (rin_b _ _ _).mono ?_; rintro e w' ⟨rfl, rfl⟩)
  all_goals go_ret
  all_goals exact ⟨ret_bool (by first | rfl | (simp [*]; done) | (simp [*]; omega)), by (repeat (with_reducible first | exact Below.refl _ _ | (refine bl_set ?_ (by first | omega | (simp; done) | (simp; omega)) _) | refine bl_gr ?_ _ | refine bl_al ?_ _ | refine below_setRow ?_ (by first | omega | (simp; done) | (simp; omega)) _ | refine bl_drewN ?_ _ | refine Below.drew ?_ | (refine bl_tr ?_ (by assumption))))⟩

set_option maxRecDepth 100000 in
set_option maxHeartbeats 4000000 in
theorem rpart_106 (c : CodeD) (i p k g : Value) (n : Int) (hr : 0 ≤ c.rg ∧ c.rg ≤ 4096) (hn : i64ok n) (w : World) (h : Cd4 w i p k g c) :
    Calls Try.prog 50 #[codeV c.nm c.kd c.ln c.rg i p k g, .int .u8 106, .int .i64 n] w fun e w' => e = .returned (.bool (prtC c 106 n)) ∧ Below w.heap.size w w' := by
  obtain ⟨A1, c1, A2, c2, A3, c3, A4, c4, rfl, rfl, rfl, rfl⟩ := h.forms
  have RS := Lib.hid (show prtC c 106 n = rinB n (c.ins.length : Int) by rw [rinB_in]; simp [prtC])
  rw [RS.out]
  clear h
  go_enter Try.func50, Try.ntmps50
  go_wp2_with (go_at_call 71; refine (rin_b _ _ _).mono ?_; rintro e w' ⟨rfl, rfl⟩)
  all_goals go_ret
  all_goals exact ⟨ret_bool (by first | rfl | (simp [*]; done) | (simp [*]; omega)), by (repeat (with_reducible first | exact Below.refl _ _ | (refine bl_set ?_ (by first | omega | (simp; done) | (simp; omega)) _) | refine bl_gr ?_ _ | refine bl_al ?_ _ | refine below_setRow ?_ (by first | omega | (simp; done) | (simp; omega)) _ | refine bl_drewN ?_ _ | refine Below.drew ?_ | (refine bl_tr ?_ (by assumption))))⟩

set_option maxRecDepth 100000 in
set_option maxHeartbeats 4000000 in
theorem rpart_102 (c : CodeD) (i p k g : Value) (n : Int) (hr : 0 ≤ c.rg ∧ c.rg ≤ 4096) (hn : i64ok n) (w : World) (h : Cd4 w i p k g c) :
    Calls Try.prog 50 #[codeV c.nm c.kd c.ln c.rg i p k g, .int .u8 102, .int .i64 n] w fun e w' => e = .returned (.bool (prtC c 102 n)) ∧ Below w.heap.size w w' := by
  obtain ⟨A1, c1, A2, c2, A3, c3, A4, c4, rfl, rfl, rfl, rfl⟩ := h.forms
  have RS := Lib.hid (show prtC c 102 n = rinB n 4097 by rw [rinB_in]; simp [prtC])
  rw [RS.out]
  clear h
  go_enter Try.func50, Try.ntmps50
  go_wp2_with (go_at_call 71; refine (rin_b _ _ _).mono ?_; rintro e w' ⟨rfl, rfl⟩)
  all_goals go_ret
  all_goals exact ⟨ret_bool (by first | rfl | (simp [*]; done) | (simp [*]; omega)), by (repeat (with_reducible first | exact Below.refl _ _ | (refine bl_set ?_ (by first | omega | (simp; done) | (simp; omega)) _) | refine bl_gr ?_ _ | refine bl_al ?_ _ | refine below_setRow ?_ (by first | omega | (simp; done) | (simp; omega)) _ | refine bl_drewN ?_ _ | refine Below.drew ?_ | (refine bl_tr ?_ (by assumption))))⟩

set_option maxRecDepth 100000 in
set_option maxHeartbeats 4000000 in
theorem rpart_110 (c : CodeD) (i p k g : Value) (n : Int) (hr : 0 ≤ c.rg ∧ c.rg ≤ 4096) (hn : i64ok n) (w : World) (h : Cd4 w i p k g c) :
    Calls Try.prog 50 #[codeV c.nm c.kd c.ln c.rg i p k g, .int .u8 110, .int .i64 n] w fun e w' => e = .returned (.bool (prtC c 110 n)) ∧ Below w.heap.size w w' := by
  obtain ⟨A1, c1, A2, c2, A3, c3, A4, c4, rfl, rfl, rfl, rfl⟩ := h.forms
  have RS := Lib.hid (show prtC c 110 n = rinB n 65537 by rw [rinB_in]; simp [prtC])
  rw [RS.out]
  clear h
  go_enter Try.func50, Try.ntmps50
  go_wp2_with (go_at_call 71; refine (rin_b _ _ _).mono ?_; rintro e w' ⟨rfl, rfl⟩)
  all_goals go_ret
  all_goals exact ⟨ret_bool (by first | rfl | (simp [*]; done) | (simp [*]; omega)), by (repeat (with_reducible first | exact Below.refl _ _ | (refine bl_set ?_ (by first | omega | (simp; done) | (simp; omega)) _) | refine bl_gr ?_ _ | refine bl_al ?_ _ | refine below_setRow ?_ (by first | omega | (simp; done) | (simp; omega)) _ | refine bl_drewN ?_ _ | refine Below.drew ?_ | (refine bl_tr ?_ (by assumption))))⟩

set_option maxRecDepth 100000 in
set_option maxHeartbeats 4000000 in
theorem rpart_97 (c : CodeD) (i p k g : Value) (n : Int) (hr : 0 ≤ c.rg ∧ c.rg ≤ 4096) (hn : i64ok n) (w : World) (h : Cd4 w i p k g c) :
    Calls Try.prog 50 #[codeV c.nm c.kd c.ln c.rg i p k g, .int .u8 97, .int .i64 n] w fun e w' => e = .returned (.bool (prtC c 97 n)) ∧ Below w.heap.size w w' := by
  obtain ⟨A1, c1, A2, c2, A3, c3, A4, c4, rfl, rfl, rfl, rfl⟩ := h.forms
  have RS := Lib.hid (show prtC c 97 n = (decide (-1 ≤ n) && decide (n ≤ 1024)) by simp [prtC, inB])
  rw [RS.out]
  clear h
  go_enter Try.func50, Try.ntmps50
  go_wp2_with (go_at_call 71; refine (rin_b _ _ _).mono ?_; rintro e w' ⟨rfl, rfl⟩)
  all_goals go_ret
  all_goals exact ⟨ret_bool (by first | rfl | (simp [*]; done) | (simp [*]; omega)), by (repeat (with_reducible first | exact Below.refl _ _ | (refine bl_set ?_ (by first | omega | (simp; done) | (simp; omega)) _) | refine bl_gr ?_ _ | refine bl_al ?_ _ | refine below_setRow ?_ (by first | omega | (simp; done) | (simp; omega)) _ | refine bl_drewN ?_ _ | refine Below.drew ?_ | (refine bl_tr ?_ (by assumption))))⟩

set_option maxRecDepth 100000 in
set_option maxHeartbeats 4000000 in
theorem rpart_98 (c : CodeD) (i p k g : Value) (n : Int) (hr : 0 ≤ c.rg ∧ c.rg ≤ 4096) (hn : i64ok n) (w : World) (h : Cd4 w i p k g c) :
    Calls Try.prog 50 #[codeV c.nm c.kd c.ln c.rg i p k g, .int .u8 98, .int .i64 n] w fun e w' => e = .returned (.bool (prtC c 98 n)) ∧ Below w.heap.size w w' := by
  obtain ⟨A1, c1, A2, c2, A3, c3, A4, c4, rfl, rfl, rfl, rfl⟩ := h.forms
  have RS := Lib.hid (show prtC c 98 n = (n == 0 || n == 1) by simp only [prtC, inB]; rw [Bool.eq_iff_iff]; simp; omega)
  rw [RS.out]
  clear h
  go_enter Try.func50, Try.ntmps50
  go_wp2_with (go_at_call 71; refine (rin_b _ _ _).mono ?_; rintro e w' ⟨rfl, rfl⟩)
  all_goals go_ret
  all_goals exact ⟨ret_bool (by first | rfl | (simp [*]; done) | (simp [*]; omega)), by (repeat (with_reducible first | exact Below.refl _ _ | (refine bl_set ?_ (by first | omega | (simp; done) | (simp; omega)) _) | refine bl_gr ?_ _ | refine bl_al ?_ _ | refine below_setRow ?_ (by first | omega | (simp; done) | (simp; omega)) _ | refine bl_drewN ?_ _ | refine Below.drew ?_ | (refine bl_tr ?_ (by assumption))))⟩

set_option maxRecDepth 100000 in
set_option maxHeartbeats 4000000 in
theorem rpart_111 (c : CodeD) (i p k g : Value) (n : Int) (hr : 0 ≤ c.rg ∧ c.rg ≤ 4096) (hn : i64ok n) (w : World) (h : Cd4 w i p k g c) :
    Calls Try.prog 50 #[codeV c.nm c.kd c.ln c.rg i p k g, .int .u8 111, .int .i64 n] w fun e w' => e = .returned (.bool (prtC c 111 n)) ∧ Below w.heap.size w w' := by
  obtain ⟨A1, c1, A2, c2, A3, c3, A4, c4, rfl, rfl, rfl, rfl⟩ := h.forms
  have RS := Lib.hid (show prtC c 111 n = (rinB n (c.pl.length : Int) && (c.pl.getD n.toNat .zero).k == 5) by rw [rinB_in]; simp [prtC])
  rw [RS.out]
  by_cases hb : 0 ≤ n ∧ n < (c.pl.length : Int)
  · obtain ⟨m, rfl⟩ : ∃ m : Nat, n = (m : Int) := ⟨n.toNat, by omega⟩
    have hlt : m < c.pl.length := by omega
    have hi : rinB (m : Int) (c.pl.length : Int) = true := by simp [rinB, hb]
    have CI := Lib.hid (fun W => by have := rin_b (m : Int) (c.pl.length : Int) W; rw [hi] at this; exact this : ∀ W, Calls Try.prog 71 #[.int .i64 (m : Int), .int .i64 (c.pl.length : Int)] W fun e w' => e = .returned (.bool true) ∧ W = w')
    rw [hi, Int.toNat_natCast]
    obtain ⟨x, hx⟩ : ∃ x, c.pl[m]? = some x := ⟨_, List.getElem?_eq_getElem hlt⟩
    have hg : c.pl.getD m .zero = x := by rw [List.getD_eq_getElem?_getD, hx]; rfl
    rw [hg]
    obtain ⟨b, off, cap', e2, lb, h0, h1, h2⟩ := at_Vl h.p hx
    simp only [Value.slice.injEq] at e2
    obtain ⟨rfl, -, -⟩ := e2
    have q0 : ¬ (m : Int) < 0 := by omega
    have q1 : (m : Int) < (c.pl.length : Int) := by omega
    have lbn : ∀ u, b < w.heap.size + u := fun u => Nat.lt_of_lt_of_le lb (Nat.le_add_right _ _)
    clear h hb hlt hi hx hg hn
    go_enter Try.func50, Try.ntmps50
    go_wp2_with (go_at_call 71; refine (CI.out _).mono ?_; rintro e w' ⟨rfl, rfl⟩)
    all_goals go_ret
    all_goals exact ⟨ret_bool (by first | rfl | (simp [*]; done)), by (repeat (with_reducible first | exact Below.refl _ _ | (refine bl_set ?_ (by first | omega | (simp; done) | (simp; omega)) _) | refine bl_gr ?_ _ | refine bl_al ?_ _ | refine below_setRow ?_ (by first | omega | (simp; done) | (simp; omega)) _ | refine bl_drewN ?_ _ | refine Below.drew ?_ | (refine bl_tr ?_ (by assumption))))⟩
  · have hi : rinB n (c.pl.length : Int) = false := by simp only [rinB, Bool.and_eq_false_iff, decide_eq_false_iff_not]; omega
    have CI := Lib.hid (fun W => by have := rin_b n (c.pl.length : Int) W; rw [hi] at this; exact this : ∀ W, Calls Try.prog 71 #[.int .i64 n, .int .i64 (c.pl.length : Int)] W fun e w' => e = .returned (.bool false) ∧ W = w')
    rw [hi]
    clear h hb hi
    go_enter Try.func50, Try.ntmps50
    go_wp2_with (go_at_call 71; refine (CI.out _).mono ?_; rintro e w' ⟨rfl, rfl⟩)
    all_goals go_ret
    all_goals exact ⟨ret_bool (by simp), by (repeat (with_reducible first | exact Below.refl _ _ | (refine bl_set ?_ (by first | omega | (simp; done) | (simp; omega)) _) | refine bl_gr ?_ _ | refine bl_al ?_ _ | refine below_setRow ?_ (by first | omega | (simp; done) | (simp; omega)) _ | refine bl_drewN ?_ _ | refine Below.drew ?_ | (refine bl_tr ?_ (by assumption))))⟩

set_option maxRecDepth 100000 in
set_option maxHeartbeats 4000000 in
theorem rpart_103 (c : CodeD) (i p k g : Value) (n : Int) (hr : 0 ≤ c.rg ∧ c.rg ≤ 4096) (hn : i64ok n) (w : World) (h : Cd4 w i p k g c) :
    Calls Try.prog 50 #[codeV c.nm c.kd c.ln c.rg i p k g, .int .u8 103, .int .i64 n] w fun e w' => e = .returned (.bool (prtC c 103 n)) ∧ Below w.heap.size w w' := by
  obtain ⟨A1, c1, A2, c2, A3, c3, A4, c4, rfl, rfl, rfl, rfl⟩ := h.forms
  have RS := Lib.hid (show prtC c 103 n = (rinB n (c.ks.length : Int) && (c.ks.getD n.toNat .zero).k == 1) by rw [rinB_in]; simp [prtC])
  rw [RS.out]
  by_cases hb : 0 ≤ n ∧ n < (c.ks.length : Int)
  · obtain ⟨m, rfl⟩ : ∃ m : Nat, n = (m : Int) := ⟨n.toNat, by omega⟩
    have hlt : m < c.ks.length := by omega
    have hi : rinB (m : Int) (c.ks.length : Int) = true := by simp [rinB, hb]
    have CI := Lib.hid (fun W => by have := rin_b (m : Int) (c.ks.length : Int) W; rw [hi] at this; exact this : ∀ W, Calls Try.prog 71 #[.int .i64 (m : Int), .int .i64 (c.ks.length : Int)] W fun e w' => e = .returned (.bool true) ∧ W = w')
    rw [hi, Int.toNat_natCast]
    obtain ⟨x, hx⟩ : ∃ x, c.ks[m]? = some x := ⟨_, List.getElem?_eq_getElem hlt⟩
    have hg : c.ks.getD m .zero = x := by rw [List.getD_eq_getElem?_getD, hx]; rfl
    rw [hg]
    obtain ⟨b, off, cap', e2, lb, h0, h1, h2⟩ := at_Ky h.k hx
    simp only [Value.slice.injEq] at e2
    obtain ⟨rfl, -, -⟩ := e2
    have q0 : ¬ (m : Int) < 0 := by omega
    have q1 : (m : Int) < (c.ks.length : Int) := by omega
    have lbn : ∀ u, b < w.heap.size + u := fun u => Nat.lt_of_lt_of_le lb (Nat.le_add_right _ _)
    clear h hb hlt hi hx hg hn
    go_enter Try.func50, Try.ntmps50
    go_wp2_with (go_at_call 71; refine (CI.out _).mono ?_; rintro e w' ⟨rfl, rfl⟩)
    all_goals go_ret
    all_goals exact ⟨ret_bool (by first | rfl | (simp [*]; done)), by (repeat (with_reducible first | exact Below.refl _ _ | (refine bl_set ?_ (by first | omega | (simp; done) | (simp; omega)) _) | refine bl_gr ?_ _ | refine bl_al ?_ _ | refine below_setRow ?_ (by first | omega | (simp; done) | (simp; omega)) _ | refine bl_drewN ?_ _ | refine Below.drew ?_ | (refine bl_tr ?_ (by assumption))))⟩
  · have hi : rinB n (c.ks.length : Int) = false := by simp only [rinB, Bool.and_eq_false_iff, decide_eq_false_iff_not]; omega
    have CI := Lib.hid (fun W => by have := rin_b n (c.ks.length : Int) W; rw [hi] at this; exact this : ∀ W, Calls Try.prog 71 #[.int .i64 n, .int .i64 (c.ks.length : Int)] W fun e w' => e = .returned (.bool false) ∧ W = w')
    rw [hi]
    clear h hb hi
    go_enter Try.func50, Try.ntmps50
    go_wp2_with (go_at_call 71; refine (CI.out _).mono ?_; rintro e w' ⟨rfl, rfl⟩)
    all_goals go_ret
    all_goals exact ⟨ret_bool (by simp), by (repeat (with_reducible first | exact Below.refl _ _ | (refine bl_set ?_ (by first | omega | (simp; done) | (simp; omega)) _) | refine bl_gr ?_ _ | refine bl_al ?_ _ | refine below_setRow ?_ (by first | omega | (simp; done) | (simp; omega)) _ | refine bl_drewN ?_ _ | refine Below.drew ?_ | (refine bl_tr ?_ (by assumption))))⟩

set_option maxRecDepth 100000 in
set_option maxHeartbeats 4000000 in
theorem rpart_45 (c : CodeD) (i p k g : Value) (n : Int) (hr : 0 ≤ c.rg ∧ c.rg ≤ 4096) (hn : i64ok n) (w : World) (h : Cd4 w i p k g c) :
    Calls Try.prog 50 #[codeV c.nm c.kd c.ln c.rg i p k g, .int .u8 45, .int .i64 n] w fun e w' => e = .returned (.bool (prtC c 45 n)) ∧ Below w.heap.size w w' := by
  obtain ⟨A1, c1, A2, c2, A3, c3, A4, c4, rfl, rfl, rfl, rfl⟩ := h.forms
  have RS := Lib.hid (show prtC c 45 n = (n == 0) by simp [prtC])
  rw [RS.out]
  clear h
  go_enter Try.func50, Try.ntmps50
  go_wp2_with (go_at_call 71; refine (rin_b _ _ _).mono ?_; rintro e w' ⟨rfl, rfl⟩)
  all_goals go_ret
  all_goals exact ⟨ret_bool (by first | rfl | (simp [*]; done) | (simp [*]; omega)), by (repeat (with_reducible first | exact Below.refl _ _ | (refine bl_set ?_ (by first | omega | (simp; done) | (simp; omega)) _) | refine bl_gr ?_ _ | refine bl_al ?_ _ | refine below_setRow ?_ (by first | omega | (simp; done) | (simp; omega)) _ | refine bl_drewN ?_ _ | refine Below.drew ?_ | (refine bl_tr ?_ (by assumption))))⟩

theorem rpart_any (c : CodeD) (i p k g : Value) (s : Nat) (hs : kindOk s = true) (n : Int) (hr : 0 ≤ c.rg ∧ c.rg ≤ 4096) (hn : i64ok n) (w : World) (h : Cd4 w i p k g c) :
    Calls Try.prog 50 #[codeV c.nm c.kd c.ln c.rg i p k g, .int .u8 (s : Int), .int .i64 n] w fun e w' => e = .returned (.bool (prtC c s n)) ∧ Below w.heap.size w w' := by
  simp only [kindOk, List.contains_cons, List.contains_nil, Bool.or_false, Bool.or_eq_true, beq_iff_eq] at hs
  rcases hs with rfl | rfl | rfl | rfl | rfl | rfl | rfl | rfl | rfl | rfl | rfl | rfl | rfl
  · exact rpart_45 c i p k g n hr hn w h
  · exact rpart_114 c i p k g n hr hn w h
  · exact rpart_112 c i p k g n hr hn w h
  · exact rpart_110 c i p k g n hr hn w h
  · exact rpart_103 c i p k g n hr hn w h
  · exact rpart_98 c i p k g n hr hn w h
  · exact rpart_116 c i p k g n hr hn w h
  · exact rpart_113 c i p k g n hr hn w h
  · exact rpart_97 c i p k g n hr hn w h
  · exact rpart_102 c i p k g n hr hn w h
  · exact rpart_100 c i p k g n hr hn w h
  · exact rpart_111 c i p k g n hr hn w h
  · exact rpart_106 c i p k g n hr hn w h
end Go.Proofs.Ytcmpgohpncnagaa
