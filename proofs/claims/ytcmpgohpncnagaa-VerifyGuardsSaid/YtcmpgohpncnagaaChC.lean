/- The reference's part (printed by gen51N.py). -/
import Derived.Test.YtcmpgohpncnagaaChB
import Derived.Test.YtcmpgohpncnagaaCdS
namespace Go.Proofs.Ytcmpgohpncnagaa
set_option linter.all false
open Go.ChangeShapes Go.WideShapes Go.ChangeAt Go.RowKit Go.Sort Go.Deep Go.Shelf

/-- an image of n codes, by value -/
abbrev imA (As : Option Addr) (n cs : Nat) : Value := .agg #[.slice As n cs]
theorem step_name (op : Int) : ((nameM op).toList == [115, 116, 101, 112]) = (op == 45) := by
  by_cases h : 0 ≤ op ∧ op < 55
  · obtain ⟨n, rfl⟩ : ∃ n : Nat, op = (n : Int) := ⟨op.toNat, by omega⟩
    have hn : n < 55 := by omega
    have : ∀ i : Fin 55, ((nameM (i.val : Int)).toList == [115, 116, 101, 112]) = ((i.val : Int) == 45) := by decide +kernel
    exact this ⟨n, hn⟩
  · rw [show nameM op = ⟨#[]⟩ by unfold nameM; rw [if_neg h], ByteArray.toList_eq]
    have h1 : (op == 45) = false := by simp; omega
    rw [h1]
    rfl

set_option maxRecDepth 100000 in
set_option maxHeartbeats 4000000 in
theorem rpe_114 (As : Option Addr) (N cs : Nat) (c : CodeD) (i p k g : Value) (at_ : Nat) (n : Int) (hN : 1 ≤ N ∧ N ≤ 4096) (hr : 0 ≤ c.rg ∧ c.rg ≤ 4096) (hn : i64ok n) (w : World) (h : Cd4 w i p k g c) :
    Calls Try.prog 75 #[imA As N cs, codeV c.nm c.kd c.ln c.rg i p k g, .int .i64 (at_ : Int), .int .u8 114, .int .i64 n] w fun e w' => e = .returned (.int .i64 (prtE (N : Int) c at_ 114 n)) ∧ Below w.heap.size w w' := by
  obtain ⟨A1, c1, A2, c2, A3, c3, A4, c4, rfl, rfl, rfl, rfl⟩ := h.forms
  have PT := Lib.hid (fun W hW => rpart_any c (.slice A1 c.ins.length c1) (.slice A2 c.pl.length c2) (.slice A3 c.ks.length c3) (.slice A4 c.gs.length c4) 114 rfl n hr hn W (h.below hW) : ∀ W, Below w.heap.size w W → _)
  have RS := Lib.hid (show prtE (N : Int) c at_ 114 n = if prtC c 114 n = true then 0 else 41 by simp [prtE, errK])
  rw [RS.out]
  generalize prtC c 114 n = r at *
  clear h hn
  cases r
  all_goals
    go_enter Try.func75, Try.ntmps75
    go_wp2_with (go_at_call 50; refine (callGr (PT.out _ (by (repeat (with_reducible first | exact Below.refl _ _ | (refine bl_set ?_ (by first | omega | (simp; done) | (simp; omega)) _) | refine bl_gr ?_ _ | refine bl_al ?_ _ | refine below_setRow ?_ (by first | omega | (simp; done) | (simp; omega)) _ | refine bl_drewN ?_ _ | refine Below.drew ?_ | (refine bl_tr ?_ (by assumption))))))).mono ?_; rintro e w' ⟨pp, rfl, rfl⟩)
    all_goals go_ret
    all_goals exact ⟨ret_int (by simp), by (repeat (with_reducible first | exact Below.refl _ _ | (refine bl_set ?_ (by first | omega | (simp; done) | (simp; omega)) _) | refine bl_gr ?_ _ | refine bl_al ?_ _ | refine below_setRow ?_ (by first | omega | (simp; done) | (simp; omega)) _ | refine bl_drewN ?_ _ | refine Below.drew ?_ | (refine bl_tr ?_ (by assumption))))⟩

set_option maxRecDepth 100000 in
set_option maxHeartbeats 4000000 in
theorem rpe_100 (As : Option Addr) (N cs : Nat) (c : CodeD) (i p k g : Value) (at_ : Nat) (n : Int) (hN : 1 ≤ N ∧ N ≤ 4096) (hr : 0 ≤ c.rg ∧ c.rg ≤ 4096) (hn : i64ok n) (w : World) (h : Cd4 w i p k g c) :
    Calls Try.prog 75 #[imA As N cs, codeV c.nm c.kd c.ln c.rg i p k g, .int .i64 (at_ : Int), .int .u8 100, .int .i64 n] w fun e w' => e = .returned (.int .i64 (prtE (N : Int) c at_ 100 n)) ∧ Below w.heap.size w w' := by
  obtain ⟨A1, c1, A2, c2, A3, c3, A4, c4, rfl, rfl, rfl, rfl⟩ := h.forms
  have PT := Lib.hid (fun W hW => rpart_any c (.slice A1 c.ins.length c1) (.slice A2 c.pl.length c2) (.slice A3 c.ks.length c3) (.slice A4 c.gs.length c4) 100 rfl n hr hn W (h.below hW) : ∀ W, Below w.heap.size w W → _)
  have RS := Lib.hid (show prtE (N : Int) c at_ 100 n = if prtC c 100 n = true then 0 else 41 by simp [prtE, errK])
  rw [RS.out]
  generalize prtC c 100 n = r at *
  clear h hn
  cases r
  all_goals
    go_enter Try.func75, Try.ntmps75
    go_wp2_with (go_at_call 50; refine (callGr (PT.out _ (by (repeat (with_reducible first | exact Below.refl _ _ | (refine bl_set ?_ (by first | omega | (simp; done) | (simp; omega)) _) | refine bl_gr ?_ _ | refine bl_al ?_ _ | refine below_setRow ?_ (by first | omega | (simp; done) | (simp; omega)) _ | refine bl_drewN ?_ _ | refine Below.drew ?_ | (refine bl_tr ?_ (by assumption))))))).mono ?_; rintro e w' ⟨pp, rfl, rfl⟩)
    all_goals go_ret
    all_goals exact ⟨ret_int (by simp), by (repeat (with_reducible first | exact Below.refl _ _ | (refine bl_set ?_ (by first | omega | (simp; done) | (simp; omega)) _) | refine bl_gr ?_ _ | refine bl_al ?_ _ | refine below_setRow ?_ (by first | omega | (simp; done) | (simp; omega)) _ | refine bl_drewN ?_ _ | refine Below.drew ?_ | (refine bl_tr ?_ (by assumption))))⟩

set_option maxRecDepth 100000 in
set_option maxHeartbeats 4000000 in
theorem rpe_113 (As : Option Addr) (N cs : Nat) (c : CodeD) (i p k g : Value) (at_ : Nat) (n : Int) (hN : 1 ≤ N ∧ N ≤ 4096) (hr : 0 ≤ c.rg ∧ c.rg ≤ 4096) (hn : i64ok n) (w : World) (h : Cd4 w i p k g c) :
    Calls Try.prog 75 #[imA As N cs, codeV c.nm c.kd c.ln c.rg i p k g, .int .i64 (at_ : Int), .int .u8 113, .int .i64 n] w fun e w' => e = .returned (.int .i64 (prtE (N : Int) c at_ 113 n)) ∧ Below w.heap.size w w' := by
  obtain ⟨A1, c1, A2, c2, A3, c3, A4, c4, rfl, rfl, rfl, rfl⟩ := h.forms
  have PT := Lib.hid (fun W hW => rpart_any c (.slice A1 c.ins.length c1) (.slice A2 c.pl.length c2) (.slice A3 c.ks.length c3) (.slice A4 c.gs.length c4) 113 rfl n hr hn W (h.below hW) : ∀ W, Below w.heap.size w W → _)
  have RS := Lib.hid (show prtE (N : Int) c at_ 113 n = if prtC c 113 n = true then 0 else 41 by simp [prtE, errK])
  rw [RS.out]
  generalize prtC c 113 n = r at *
  clear h hn
  cases r
  all_goals
    go_enter Try.func75, Try.ntmps75
    go_wp2_with (go_at_call 50; refine (callGr (PT.out _ (by (repeat (with_reducible first | exact Below.refl _ _ | (refine bl_set ?_ (by first | omega | (simp; done) | (simp; omega)) _) | refine bl_gr ?_ _ | refine bl_al ?_ _ | refine below_setRow ?_ (by first | omega | (simp; done) | (simp; omega)) _ | refine bl_drewN ?_ _ | refine Below.drew ?_ | (refine bl_tr ?_ (by assumption))))))).mono ?_; rintro e w' ⟨pp, rfl, rfl⟩)
    all_goals go_ret
    all_goals exact ⟨ret_int (by simp), by (repeat (with_reducible first | exact Below.refl _ _ | (refine bl_set ?_ (by first | omega | (simp; done) | (simp; omega)) _) | refine bl_gr ?_ _ | refine bl_al ?_ _ | refine below_setRow ?_ (by first | omega | (simp; done) | (simp; omega)) _ | refine bl_drewN ?_ _ | refine Below.drew ?_ | (refine bl_tr ?_ (by assumption))))⟩

set_option maxRecDepth 100000 in
set_option maxHeartbeats 4000000 in
theorem rpe_112 (As : Option Addr) (N cs : Nat) (c : CodeD) (i p k g : Value) (at_ : Nat) (n : Int) (hN : 1 ≤ N ∧ N ≤ 4096) (hr : 0 ≤ c.rg ∧ c.rg ≤ 4096) (hn : i64ok n) (w : World) (h : Cd4 w i p k g c) :
    Calls Try.prog 75 #[imA As N cs, codeV c.nm c.kd c.ln c.rg i p k g, .int .i64 (at_ : Int), .int .u8 112, .int .i64 n] w fun e w' => e = .returned (.int .i64 (prtE (N : Int) c at_ 112 n)) ∧ Below w.heap.size w w' := by
  obtain ⟨A1, c1, A2, c2, A3, c3, A4, c4, rfl, rfl, rfl, rfl⟩ := h.forms
  have PT := Lib.hid (fun W hW => rpart_any c (.slice A1 c.ins.length c1) (.slice A2 c.pl.length c2) (.slice A3 c.ks.length c3) (.slice A4 c.gs.length c4) 112 rfl n hr hn W (h.below hW) : ∀ W, Below w.heap.size w W → _)
  have RS := Lib.hid (show prtE (N : Int) c at_ 112 n = if prtC c 112 n = true then 0 else 43 by simp [prtE, errK])
  rw [RS.out]
  generalize prtC c 112 n = r at *
  clear h hn
  cases r
  all_goals
    go_enter Try.func75, Try.ntmps75
    go_wp2_with (go_at_call 50; refine (callGr (PT.out _ (by (repeat (with_reducible first | exact Below.refl _ _ | (refine bl_set ?_ (by first | omega | (simp; done) | (simp; omega)) _) | refine bl_gr ?_ _ | refine bl_al ?_ _ | refine below_setRow ?_ (by first | omega | (simp; done) | (simp; omega)) _ | refine bl_drewN ?_ _ | refine Below.drew ?_ | (refine bl_tr ?_ (by assumption))))))).mono ?_; rintro e w' ⟨pp, rfl, rfl⟩)
    all_goals go_ret
    all_goals exact ⟨ret_int (by simp), by (repeat (with_reducible first | exact Below.refl _ _ | (refine bl_set ?_ (by first | omega | (simp; done) | (simp; omega)) _) | refine bl_gr ?_ _ | refine bl_al ?_ _ | refine below_setRow ?_ (by first | omega | (simp; done) | (simp; omega)) _ | refine bl_drewN ?_ _ | refine Below.drew ?_ | (refine bl_tr ?_ (by assumption))))⟩

set_option maxRecDepth 100000 in
set_option maxHeartbeats 4000000 in
theorem rpe_111 (As : Option Addr) (N cs : Nat) (c : CodeD) (i p k g : Value) (at_ : Nat) (n : Int) (hN : 1 ≤ N ∧ N ≤ 4096) (hr : 0 ≤ c.rg ∧ c.rg ≤ 4096) (hn : i64ok n) (w : World) (h : Cd4 w i p k g c) :
    Calls Try.prog 75 #[imA As N cs, codeV c.nm c.kd c.ln c.rg i p k g, .int .i64 (at_ : Int), .int .u8 111, .int .i64 n] w fun e w' => e = .returned (.int .i64 (prtE (N : Int) c at_ 111 n)) ∧ Below w.heap.size w w' := by
  obtain ⟨A1, c1, A2, c2, A3, c3, A4, c4, rfl, rfl, rfl, rfl⟩ := h.forms
  have PT := Lib.hid (fun W hW => rpart_any c (.slice A1 c.ins.length c1) (.slice A2 c.pl.length c2) (.slice A3 c.ks.length c3) (.slice A4 c.gs.length c4) 111 rfl n hr hn W (h.below hW) : ∀ W, Below w.heap.size w W → _)
  have RS := Lib.hid (show prtE (N : Int) c at_ 111 n = if prtC c 111 n = true then 0 else 43 by simp [prtE, errK])
  rw [RS.out]
  generalize prtC c 111 n = r at *
  clear h hn
  cases r
  all_goals
    go_enter Try.func75, Try.ntmps75
    go_wp2_with (go_at_call 50; refine (callGr (PT.out _ (by (repeat (with_reducible first | exact Below.refl _ _ | (refine bl_set ?_ (by first | omega | (simp; done) | (simp; omega)) _) | refine bl_gr ?_ _ | refine bl_al ?_ _ | refine below_setRow ?_ (by first | omega | (simp; done) | (simp; omega)) _ | refine bl_drewN ?_ _ | refine Below.drew ?_ | (refine bl_tr ?_ (by assumption))))))).mono ?_; rintro e w' ⟨pp, rfl, rfl⟩)
    all_goals go_ret
    all_goals exact ⟨ret_int (by simp), by (repeat (with_reducible first | exact Below.refl _ _ | (refine bl_set ?_ (by first | omega | (simp; done) | (simp; omega)) _) | refine bl_gr ?_ _ | refine bl_al ?_ _ | refine below_setRow ?_ (by first | omega | (simp; done) | (simp; omega)) _ | refine bl_drewN ?_ _ | refine Below.drew ?_ | (refine bl_tr ?_ (by assumption))))⟩

set_option maxRecDepth 100000 in
set_option maxHeartbeats 4000000 in
theorem rpe_103 (As : Option Addr) (N cs : Nat) (c : CodeD) (i p k g : Value) (at_ : Nat) (n : Int) (hN : 1 ≤ N ∧ N ≤ 4096) (hr : 0 ≤ c.rg ∧ c.rg ≤ 4096) (hn : i64ok n) (w : World) (h : Cd4 w i p k g c) :
    Calls Try.prog 75 #[imA As N cs, codeV c.nm c.kd c.ln c.rg i p k g, .int .i64 (at_ : Int), .int .u8 103, .int .i64 n] w fun e w' => e = .returned (.int .i64 (prtE (N : Int) c at_ 103 n)) ∧ Below w.heap.size w w' := by
  obtain ⟨A1, c1, A2, c2, A3, c3, A4, c4, rfl, rfl, rfl, rfl⟩ := h.forms
  have PT := Lib.hid (fun W hW => rpart_any c (.slice A1 c.ins.length c1) (.slice A2 c.pl.length c2) (.slice A3 c.ks.length c3) (.slice A4 c.gs.length c4) 103 rfl n hr hn W (h.below hW) : ∀ W, Below w.heap.size w W → _)
  have RS := Lib.hid (show prtE (N : Int) c at_ 103 n = if prtC c 103 n = true then 0 else 43 by simp [prtE, errK])
  rw [RS.out]
  generalize prtC c 103 n = r at *
  clear h hn
  cases r
  all_goals
    go_enter Try.func75, Try.ntmps75
    go_wp2_with (go_at_call 50; refine (callGr (PT.out _ (by (repeat (with_reducible first | exact Below.refl _ _ | (refine bl_set ?_ (by first | omega | (simp; done) | (simp; omega)) _) | refine bl_gr ?_ _ | refine bl_al ?_ _ | refine below_setRow ?_ (by first | omega | (simp; done) | (simp; omega)) _ | refine bl_drewN ?_ _ | refine Below.drew ?_ | (refine bl_tr ?_ (by assumption))))))).mono ?_; rintro e w' ⟨pp, rfl, rfl⟩)
    all_goals go_ret
    all_goals exact ⟨ret_int (by simp), by (repeat (with_reducible first | exact Below.refl _ _ | (refine bl_set ?_ (by first | omega | (simp; done) | (simp; omega)) _) | refine bl_gr ?_ _ | refine bl_al ?_ _ | refine below_setRow ?_ (by first | omega | (simp; done) | (simp; omega)) _ | refine bl_drewN ?_ _ | refine Below.drew ?_ | (refine bl_tr ?_ (by assumption))))⟩

set_option maxRecDepth 100000 in
set_option maxHeartbeats 4000000 in
theorem rpe_110 (As : Option Addr) (N cs : Nat) (c : CodeD) (i p k g : Value) (at_ : Nat) (n : Int) (hN : 1 ≤ N ∧ N ≤ 4096) (hr : 0 ≤ c.rg ∧ c.rg ≤ 4096) (hn : i64ok n) (w : World) (h : Cd4 w i p k g c) :
    Calls Try.prog 75 #[imA As N cs, codeV c.nm c.kd c.ln c.rg i p k g, .int .i64 (at_ : Int), .int .u8 110, .int .i64 n] w fun e w' => e = .returned (.int .i64 (prtE (N : Int) c at_ 110 n)) ∧ Below w.heap.size w w' := by
  obtain ⟨A1, c1, A2, c2, A3, c3, A4, c4, rfl, rfl, rfl, rfl⟩ := h.forms
  have PT := Lib.hid (fun W hW => rpart_any c (.slice A1 c.ins.length c1) (.slice A2 c.pl.length c2) (.slice A3 c.ks.length c3) (.slice A4 c.gs.length c4) 110 rfl n hr hn W (h.below hW) : ∀ W, Below w.heap.size w W → _)
  have RS := Lib.hid (show prtE (N : Int) c at_ 110 n = if prtC c 110 n = true then 0 else 1 by simp [prtE, errK])
  rw [RS.out]
  generalize prtC c 110 n = r at *
  clear h hn
  cases r
  all_goals
    go_enter Try.func75, Try.ntmps75
    go_wp2_with (go_at_call 50; refine (callGr (PT.out _ (by (repeat (with_reducible first | exact Below.refl _ _ | (refine bl_set ?_ (by first | omega | (simp; done) | (simp; omega)) _) | refine bl_gr ?_ _ | refine bl_al ?_ _ | refine below_setRow ?_ (by first | omega | (simp; done) | (simp; omega)) _ | refine bl_drewN ?_ _ | refine Below.drew ?_ | (refine bl_tr ?_ (by assumption))))))).mono ?_; rintro e w' ⟨pp, rfl, rfl⟩)
    all_goals go_ret
    all_goals exact ⟨ret_int (by simp), by (repeat (with_reducible first | exact Below.refl _ _ | (refine bl_set ?_ (by first | omega | (simp; done) | (simp; omega)) _) | refine bl_gr ?_ _ | refine bl_al ?_ _ | refine below_setRow ?_ (by first | omega | (simp; done) | (simp; omega)) _ | refine bl_drewN ?_ _ | refine Below.drew ?_ | (refine bl_tr ?_ (by assumption))))⟩

set_option maxRecDepth 100000 in
set_option maxHeartbeats 4000000 in
theorem rpe_97 (As : Option Addr) (N cs : Nat) (c : CodeD) (i p k g : Value) (at_ : Nat) (n : Int) (hN : 1 ≤ N ∧ N ≤ 4096) (hr : 0 ≤ c.rg ∧ c.rg ≤ 4096) (hn : i64ok n) (w : World) (h : Cd4 w i p k g c) :
    Calls Try.prog 75 #[imA As N cs, codeV c.nm c.kd c.ln c.rg i p k g, .int .i64 (at_ : Int), .int .u8 97, .int .i64 n] w fun e w' => e = .returned (.int .i64 (prtE (N : Int) c at_ 97 n)) ∧ Below w.heap.size w w' := by
  obtain ⟨A1, c1, A2, c2, A3, c3, A4, c4, rfl, rfl, rfl, rfl⟩ := h.forms
  have PT := Lib.hid (fun W hW => rpart_any c (.slice A1 c.ins.length c1) (.slice A2 c.pl.length c2) (.slice A3 c.ks.length c3) (.slice A4 c.gs.length c4) 97 rfl n hr hn W (h.below hW) : ∀ W, Below w.heap.size w W → _)
  have RS := Lib.hid (show prtE (N : Int) c at_ 97 n = if prtC c 97 n = true then 0 else 1 by simp [prtE, errK])
  rw [RS.out]
  generalize prtC c 97 n = r at *
  clear h hn
  cases r
  all_goals
    go_enter Try.func75, Try.ntmps75
    go_wp2_with (go_at_call 50; refine (callGr (PT.out _ (by (repeat (with_reducible first | exact Below.refl _ _ | (refine bl_set ?_ (by first | omega | (simp; done) | (simp; omega)) _) | refine bl_gr ?_ _ | refine bl_al ?_ _ | refine below_setRow ?_ (by first | omega | (simp; done) | (simp; omega)) _ | refine bl_drewN ?_ _ | refine Below.drew ?_ | (refine bl_tr ?_ (by assumption))))))).mono ?_; rintro e w' ⟨pp, rfl, rfl⟩)
    all_goals go_ret
    all_goals exact ⟨ret_int (by simp), by (repeat (with_reducible first | exact Below.refl _ _ | (refine bl_set ?_ (by first | omega | (simp; done) | (simp; omega)) _) | refine bl_gr ?_ _ | refine bl_al ?_ _ | refine below_setRow ?_ (by first | omega | (simp; done) | (simp; omega)) _ | refine bl_drewN ?_ _ | refine Below.drew ?_ | (refine bl_tr ?_ (by assumption))))⟩

set_option maxRecDepth 100000 in
set_option maxHeartbeats 4000000 in
theorem rpe_98 (As : Option Addr) (N cs : Nat) (c : CodeD) (i p k g : Value) (at_ : Nat) (n : Int) (hN : 1 ≤ N ∧ N ≤ 4096) (hr : 0 ≤ c.rg ∧ c.rg ≤ 4096) (hn : i64ok n) (w : World) (h : Cd4 w i p k g c) :
    Calls Try.prog 75 #[imA As N cs, codeV c.nm c.kd c.ln c.rg i p k g, .int .i64 (at_ : Int), .int .u8 98, .int .i64 n] w fun e w' => e = .returned (.int .i64 (prtE (N : Int) c at_ 98 n)) ∧ Below w.heap.size w w' := by
  obtain ⟨A1, c1, A2, c2, A3, c3, A4, c4, rfl, rfl, rfl, rfl⟩ := h.forms
  have PT := Lib.hid (fun W hW => rpart_any c (.slice A1 c.ins.length c1) (.slice A2 c.pl.length c2) (.slice A3 c.ks.length c3) (.slice A4 c.gs.length c4) 98 rfl n hr hn W (h.below hW) : ∀ W, Below w.heap.size w W → _)
  have RS := Lib.hid (show prtE (N : Int) c at_ 98 n = if prtC c 98 n = true then 0 else 1 by simp [prtE, errK])
  rw [RS.out]
  generalize prtC c 98 n = r at *
  clear h hn
  cases r
  all_goals
    go_enter Try.func75, Try.ntmps75
    go_wp2_with (go_at_call 50; refine (callGr (PT.out _ (by (repeat (with_reducible first | exact Below.refl _ _ | (refine bl_set ?_ (by first | omega | (simp; done) | (simp; omega)) _) | refine bl_gr ?_ _ | refine bl_al ?_ _ | refine below_setRow ?_ (by first | omega | (simp; done) | (simp; omega)) _ | refine bl_drewN ?_ _ | refine Below.drew ?_ | (refine bl_tr ?_ (by assumption))))))).mono ?_; rintro e w' ⟨pp, rfl, rfl⟩)
    all_goals go_ret
    all_goals exact ⟨ret_int (by simp), by (repeat (with_reducible first | exact Below.refl _ _ | (refine bl_set ?_ (by first | omega | (simp; done) | (simp; omega)) _) | refine bl_gr ?_ _ | refine bl_al ?_ _ | refine below_setRow ?_ (by first | omega | (simp; done) | (simp; omega)) _ | refine bl_drewN ?_ _ | refine Below.drew ?_ | (refine bl_tr ?_ (by assumption))))⟩

set_option maxRecDepth 100000 in
set_option maxHeartbeats 4000000 in
theorem rpe_45 (As : Option Addr) (N cs : Nat) (c : CodeD) (i p k g : Value) (at_ : Nat) (n : Int) (hN : 1 ≤ N ∧ N ≤ 4096) (hr : 0 ≤ c.rg ∧ c.rg ≤ 4096) (hn : i64ok n) (w : World) (h : Cd4 w i p k g c) :
    Calls Try.prog 75 #[imA As N cs, codeV c.nm c.kd c.ln c.rg i p k g, .int .i64 (at_ : Int), .int .u8 45, .int .i64 n] w fun e w' => e = .returned (.int .i64 (prtE (N : Int) c at_ 45 n)) ∧ Below w.heap.size w w' := by
  obtain ⟨A1, c1, A2, c2, A3, c3, A4, c4, rfl, rfl, rfl, rfl⟩ := h.forms
  have PT := Lib.hid (fun W hW => rpart_any c (.slice A1 c.ins.length c1) (.slice A2 c.pl.length c2) (.slice A3 c.ks.length c3) (.slice A4 c.gs.length c4) 45 rfl n hr hn W (h.below hW) : ∀ W, Below w.heap.size w W → _)
  have RS := Lib.hid (show prtE (N : Int) c at_ 45 n = if prtC c 45 n = true then 0 else 1 by simp [prtE, errK])
  rw [RS.out]
  generalize prtC c 45 n = r at *
  clear h hn
  cases r
  all_goals
    go_enter Try.func75, Try.ntmps75
    go_wp2_with (go_at_call 50; refine (callGr (PT.out _ (by (repeat (with_reducible first | exact Below.refl _ _ | (refine bl_set ?_ (by first | omega | (simp; done) | (simp; omega)) _) | refine bl_gr ?_ _ | refine bl_al ?_ _ | refine below_setRow ?_ (by first | omega | (simp; done) | (simp; omega)) _ | refine bl_drewN ?_ _ | refine Below.drew ?_ | (refine bl_tr ?_ (by assumption))))))).mono ?_; rintro e w' ⟨pp, rfl, rfl⟩)
    all_goals go_ret
    all_goals exact ⟨ret_int (by simp), by (repeat (with_reducible first | exact Below.refl _ _ | (refine bl_set ?_ (by first | omega | (simp; done) | (simp; omega)) _) | refine bl_gr ?_ _ | refine bl_al ?_ _ | refine below_setRow ?_ (by first | omega | (simp; done) | (simp; omega)) _ | refine bl_drewN ?_ _ | refine Below.drew ?_ | (refine bl_tr ?_ (by assumption))))⟩

set_option maxRecDepth 100000 in
set_option maxHeartbeats 4000000 in
theorem rpe_102 (As : Option Addr) (N cs : Nat) (c : CodeD) (i p k g : Value) (at_ : Nat) (n : Int) (hN : 1 ≤ N ∧ N ≤ 4096) (hr : 0 ≤ c.rg ∧ c.rg ≤ 4096) (hn : i64ok n) (w : World) (h : Cd4 w i p k g c) :
    Calls Try.prog 75 #[imA As N cs, codeV c.nm c.kd c.ln c.rg i p k g, .int .i64 (at_ : Int), .int .u8 102, .int .i64 n] w fun e w' => e = .returned (.int .i64 (prtE (N : Int) c at_ 102 n)) ∧ Below w.heap.size w w' := by
  obtain ⟨A1, c1, A2, c2, A3, c3, A4, c4, rfl, rfl, rfl, rfl⟩ := h.forms
  have PT := Lib.hid (fun W hW => rpart_any c (.slice A1 c.ins.length c1) (.slice A2 c.pl.length c2) (.slice A3 c.ks.length c3) (.slice A4 c.gs.length c4) 102 rfl n hr hn W (h.below hW) : ∀ W, Below w.heap.size w W → _)
  have RS := Lib.hid (show prtE (N : Int) c at_ 102 n = if inB n 1 ((N : Int) - 1) = true then 0 else 43 by simp [prtE])
  rw [RS.out]
  clear h hn PT
  by_cases h1 : n < 1
  · have RI := Lib.hid (show inB n 1 ((N : Int) - 1) = false by simp [inB]; omega)
    rw [RI.out]
    go_enter Try.func75, Try.ntmps75
    go_wp2
    all_goals go_ret
    all_goals exact ⟨ret_int (by simp), by (repeat (with_reducible first | exact Below.refl _ _ | (refine bl_set ?_ (by first | omega | (simp; done) | (simp; omega)) _) | refine bl_gr ?_ _ | refine bl_al ?_ _ | refine below_setRow ?_ (by first | omega | (simp; done) | (simp; omega)) _ | refine bl_drewN ?_ _ | refine Below.drew ?_ | (refine bl_tr ?_ (by assumption))))⟩
  · by_cases h2 : (N : Int) ≤ n
    · have RI := Lib.hid (show inB n 1 ((N : Int) - 1) = false by simp [inB]; omega)
      rw [RI.out]
      go_enter Try.func75, Try.ntmps75
      go_wp2
      all_goals go_ret
      all_goals exact ⟨ret_int (by simp), by (repeat (with_reducible first | exact Below.refl _ _ | (refine bl_set ?_ (by first | omega | (simp; done) | (simp; omega)) _) | refine bl_gr ?_ _ | refine bl_al ?_ _ | refine below_setRow ?_ (by first | omega | (simp; done) | (simp; omega)) _ | refine bl_drewN ?_ _ | refine Below.drew ?_ | (refine bl_tr ?_ (by assumption))))⟩
    · have RI := Lib.hid (show inB n 1 ((N : Int) - 1) = true by simp [inB]; omega)
      rw [RI.out]
      go_enter Try.func75, Try.ntmps75
      go_wp2
      all_goals go_ret
      all_goals exact ⟨ret_int (by simp), by (repeat (with_reducible first | exact Below.refl _ _ | (refine bl_set ?_ (by first | omega | (simp; done) | (simp; omega)) _) | refine bl_gr ?_ _ | refine bl_al ?_ _ | refine below_setRow ?_ (by first | omega | (simp; done) | (simp; omega)) _ | refine bl_drewN ?_ _ | refine Below.drew ?_ | (refine bl_tr ?_ (by assumption))))⟩

set_option maxRecDepth 100000 in
set_option maxHeartbeats 4000000 in
theorem rpe_116 (As : Option Addr) (N cs : Nat) (c : CodeD) (i p k g : Value) (at_ : Nat) (n : Int) (hN : 1 ≤ N ∧ N ≤ 4096) (hr : 0 ≤ c.rg ∧ c.rg ≤ 4096) (hn : i64ok n) (w : World) (h : Cd4 w i p k g c) :
    Calls Try.prog 75 #[imA As N cs, codeV c.nm c.kd c.ln c.rg i p k g, .int .i64 (at_ : Int), .int .u8 116, .int .i64 n] w fun e w' => e = .returned (.int .i64 (prtE (N : Int) c at_ 116 n)) ∧ Below w.heap.size w w' := by
  obtain ⟨A1, c1, A2, c2, A3, c3, A4, c4, rfl, rfl, rfl, rfl⟩ := h.forms
  have PT := Lib.hid (fun W hW => rpart_any c (.slice A1 c.ins.length c1) (.slice A2 c.pl.length c2) (.slice A3 c.ks.length c3) (.slice A4 c.gs.length c4) 116 rfl n hr hn W (h.below hW) : ∀ W, Below w.heap.size w W → _)
  have e1 : 0 ≤ n → wrap64 (n.tdiv 4) = n / 4 := fun h0 => by rw [Int.tdiv_eq_ediv_of_nonneg h0]; unfold i64ok at hn; unfold wrap64; omega
  by_cases h0 : 0 ≤ n
  · have e1 := e1 h0
    by_cases h1 : n / 4 < c.rg
    · by_cases h2 : n % 4 ≤ 2
      · have RS := Lib.hid (show prtE (N : Int) c at_ 116 n = 0 by simp [prtE, h0, h1, h2])
        have RP := Lib.hid (show prtC c 116 n = true by simp [prtC, h0, h1, h2])
        rw [RP.out] at PT
        rw [RS.out]
        clear h hn
        go_enter Try.func75, Try.ntmps75
        go_wp2_with (go_at_call 50; refine (callGr (PT.out _ (by (repeat (with_reducible first | exact Below.refl _ _ | (refine bl_set ?_ (by first | omega | (simp; done) | (simp; omega)) _) | refine bl_gr ?_ _ | refine bl_al ?_ _ | refine below_setRow ?_ (by first | omega | (simp; done) | (simp; omega)) _ | refine bl_drewN ?_ _ | refine Below.drew ?_ | (refine bl_tr ?_ (by assumption))))))).mono ?_; rintro e w' ⟨pp, rfl, rfl⟩)
        all_goals go_ret
        all_goals exact ⟨rfl, by (repeat (with_reducible first | exact Below.refl _ _ | (refine bl_set ?_ (by first | omega | (simp; done) | (simp; omega)) _) | refine bl_gr ?_ _ | refine bl_al ?_ _ | refine below_setRow ?_ (by first | omega | (simp; done) | (simp; omega)) _ | refine bl_drewN ?_ _ | refine Below.drew ?_ | (refine bl_tr ?_ (by assumption))))⟩
      · have RS := Lib.hid (show prtE (N : Int) c at_ 116 n = 1 by simp [prtE, h0, h1, h2])
        have RP := Lib.hid (show prtC c 116 n = false by simp [prtC, h0, h1, h2]; try omega)
        rw [RP.out] at PT
        rw [RS.out]
        clear h hn
        go_enter Try.func75, Try.ntmps75
        go_wp2_with (go_at_call 50; refine (callGr (PT.out _ (by (repeat (with_reducible first | exact Below.refl _ _ | (refine bl_set ?_ (by first | omega | (simp; done) | (simp; omega)) _) | refine bl_gr ?_ _ | refine bl_al ?_ _ | refine below_setRow ?_ (by first | omega | (simp; done) | (simp; omega)) _ | refine bl_drewN ?_ _ | refine Below.drew ?_ | (refine bl_tr ?_ (by assumption))))))).mono ?_; rintro e w' ⟨pp, rfl, rfl⟩)
        all_goals go_ret
        all_goals exact ⟨rfl, by (repeat (with_reducible first | exact Below.refl _ _ | (refine bl_set ?_ (by first | omega | (simp; done) | (simp; omega)) _) | refine bl_gr ?_ _ | refine bl_al ?_ _ | refine below_setRow ?_ (by first | omega | (simp; done) | (simp; omega)) _ | refine bl_drewN ?_ _ | refine Below.drew ?_ | (refine bl_tr ?_ (by assumption))))⟩
    · have RS := Lib.hid (show prtE (N : Int) c at_ 116 n = 41 by simp [prtE, h0, h1])
      have RP := Lib.hid (show prtC c 116 n = false by simp [prtC, h0, h1])
      rw [RP.out] at PT
      rw [RS.out]
      clear h hn
      go_enter Try.func75, Try.ntmps75
      go_wp2_with (go_at_call 50; refine (callGr (PT.out _ (by (repeat (with_reducible first | exact Below.refl _ _ | (refine bl_set ?_ (by first | omega | (simp; done) | (simp; omega)) _) | refine bl_gr ?_ _ | refine bl_al ?_ _ | refine below_setRow ?_ (by first | omega | (simp; done) | (simp; omega)) _ | refine bl_drewN ?_ _ | refine Below.drew ?_ | (refine bl_tr ?_ (by assumption))))))).mono ?_; rintro e w' ⟨pp, rfl, rfl⟩)
      all_goals go_ret
      all_goals exact ⟨rfl, by (repeat (with_reducible first | exact Below.refl _ _ | (refine bl_set ?_ (by first | omega | (simp; done) | (simp; omega)) _) | refine bl_gr ?_ _ | refine bl_al ?_ _ | refine below_setRow ?_ (by first | omega | (simp; done) | (simp; omega)) _ | refine bl_drewN ?_ _ | refine Below.drew ?_ | (refine bl_tr ?_ (by assumption))))⟩
  · have RS := Lib.hid (show prtE (N : Int) c at_ 116 n = 41 by simp [prtE, h0])
    have RP := Lib.hid (show prtC c 116 n = false by simp [prtC, h0])
    rw [RP.out] at PT
    rw [RS.out]
    clear h hn e1
    go_enter Try.func75, Try.ntmps75
    go_wp2_with (go_at_call 50; refine (callGr (PT.out _ (by (repeat (with_reducible first | exact Below.refl _ _ | (refine bl_set ?_ (by first | omega | (simp; done) | (simp; omega)) _) | refine bl_gr ?_ _ | refine bl_al ?_ _ | refine below_setRow ?_ (by first | omega | (simp; done) | (simp; omega)) _ | refine bl_drewN ?_ _ | refine Below.drew ?_ | (refine bl_tr ?_ (by assumption))))))).mono ?_; rintro e w' ⟨pp, rfl, rfl⟩)
    all_goals go_ret
    all_goals exact ⟨rfl, by (repeat (with_reducible first | exact Below.refl _ _ | (refine bl_set ?_ (by first | omega | (simp; done) | (simp; omega)) _) | refine bl_gr ?_ _ | refine bl_al ?_ _ | refine below_setRow ?_ (by first | omega | (simp; done) | (simp; omega)) _ | refine bl_drewN ?_ _ | refine Below.drew ?_ | (refine bl_tr ?_ (by assumption))))⟩

set_option maxRecDepth 100000 in
set_option maxHeartbeats 4000000 in
theorem rpe_106 (As : Option Addr) (N cs : Nat) (c : CodeD) (i p k g : Value) (at_ : Nat) (n : Int) (hN : 1 ≤ N ∧ N ≤ 4096) (hr : 0 ≤ c.rg ∧ c.rg ≤ 4096) (hn : i64ok n) (w : World) (h : Cd4 w i p k g c) :
    Calls Try.prog 75 #[imA As N cs, codeV c.nm c.kd c.ln c.rg i p k g, .int .i64 (at_ : Int), .int .u8 106, .int .i64 n] w fun e w' => e = .returned (.int .i64 (prtE (N : Int) c at_ 106 n)) ∧ Below w.heap.size w w' := by
  obtain ⟨A1, c1, A2, c2, A3, c3, A4, c4, rfl, rfl, rfl, rfl⟩ := h.forms
  have PT := Lib.hid (fun W hW => rpart_any c (.slice A1 c.ins.length c1) (.slice A2 c.pl.length c2) (.slice A3 c.ks.length c3) (.slice A4 c.gs.length c4) 106 rfl n hr hn W (h.below hW) : ∀ W, Below w.heap.size w W → _)
  have RS := Lib.hid (show prtE (N : Int) c at_ 106 n = if plcC c at_ n = true then 0 else 42 by simp [prtE])
  rw [RS.out]
  by_cases hb : 0 ≤ n ∧ n ≤ (c.ins.length : Int) - 1
  · obtain ⟨m, rfl⟩ : ∃ m : Nat, n = (m : Int) := ⟨n.toNat, by omega⟩
    have hlt : m < c.ins.length := by omega
    have hi : inB (m : Int) 0 ((c.ins.length : Int) - 1) = true := by simp [inB, hb]
    have RP := Lib.hid (show prtC c 106 (m : Int) = true by simp [prtC, hi])
    obtain ⟨x, hx⟩ : ∃ x, c.ins[m]? = some x := ⟨_, List.getElem?_eq_getElem hlt⟩
    have RL := Lib.hid (show plcC c at_ (m : Int) = (decide (at_ < m) || ((nameM x.op).toList == [115, 116, 101, 112])) by
      unfold plcC
      rw [hi, Int.toNat_natCast, show c.ins.getD m default = x by rw [List.getD_eq_getElem?_getD, hx]; rfl, step_name, show decide ((at_ : Int) < (m : Int)) = decide (at_ < m) from decide_eq_decide.2 (by omega)]
      rfl)
    rw [RP.out] at PT
    rw [RL.out]
    have RN := Lib.hid (rname_any x.op)
    generalize nameM x.op = nm at *
    obtain ⟨b, off, cap', e2, lb, h0, h1, h2, h3⟩ := at_In h.i hx
    simp only [Value.slice.injEq] at e2
    obtain ⟨rfl, -, -⟩ := e2
    have q0 : ¬ (m : Int) < 0 := by omega
    have q1 : (m : Int) < (c.ins.length : Int) := by omega
    have lbn : ∀ u, b < w.heap.size + u := fun u => Nat.lt_of_lt_of_le lb (Nat.le_add_right _ _)
    by_cases ha : at_ < m
    · have q2 : ¬ (m : Int) ≤ (at_ : Int) := by omega
      have q2' : decide (m ≤ at_) = false := decide_eq_false (by omega)
      have qd : decide (at_ < m) = true := decide_eq_true ha
      clear h hb hlt hi hx hn ha
      go_enter Try.func75, Try.ntmps75
      go_wp2_with (go_at_call 50; refine (callGr (PT.out _ (by (repeat (with_reducible first | exact Below.refl _ _ | (refine bl_set ?_ (by first | omega | (simp; done) | (simp; omega)) _) | refine bl_gr ?_ _ | refine bl_al ?_ _ | refine below_setRow ?_ (by first | omega | (simp; done) | (simp; omega)) _ | refine bl_drewN ?_ _ | refine Below.drew ?_ | (refine bl_tr ?_ (by assumption))))))).mono ?_; rintro e w' ⟨pp, rfl, rfl⟩)
      all_goals go_ret
      all_goals exact ⟨ret_int (by simp [qd]), by (repeat (with_reducible first | exact Below.refl _ _ | (refine bl_set ?_ (by first | omega | (simp; done) | (simp; omega)) _) | refine bl_gr ?_ _ | refine bl_al ?_ _ | refine below_setRow ?_ (by first | omega | (simp; done) | (simp; omega)) _ | refine bl_drewN ?_ _ | refine Below.drew ?_ | (refine bl_tr ?_ (by assumption))))⟩
    · have q2 : (m : Int) ≤ (at_ : Int) := by omega
      have q2' : decide (m ≤ at_) = true := decide_eq_true (by omega)
      have qd : decide (at_ < m) = false := decide_eq_false ha
      clear h hb hlt hi hx hn ha
      cases hk : (nm.toList == [115, 116, 101, 112])
      all_goals
        go_enter Try.func75, Try.ntmps75
        go_wp2_with (first | (go_at_call 50; refine (callGr (PT.out _ (by (repeat (with_reducible first | exact Below.refl _ _ | (refine bl_set ?_ (by first | omega | (simp; done) | (simp; omega)) _) | refine bl_gr ?_ _ | refine bl_al ?_ _ | refine below_setRow ?_ (by first | omega | (simp; done) | (simp; omega)) _ | refine bl_drewN ?_ _ | refine Below.drew ?_ | (refine bl_tr ?_ (by assumption))))))).mono ?_; rintro e w' ⟨pp, rfl, rfl⟩) | (go_at_call 73; refine (callGr (RN.out _)).mono ?_; rintro e w' ⟨pp, rfl, rfl⟩))
        all_goals go_ret
        all_goals exact ⟨ret_int (by simp [qd]), by (repeat (with_reducible first | exact Below.refl _ _ | (refine bl_set ?_ (by first | omega | (simp; done) | (simp; omega)) _) | refine bl_gr ?_ _ | refine bl_al ?_ _ | refine below_setRow ?_ (by first | omega | (simp; done) | (simp; omega)) _ | refine bl_drewN ?_ _ | refine Below.drew ?_ | (refine bl_tr ?_ (by assumption))))⟩
  · have hi : inB n 0 ((c.ins.length : Int) - 1) = false := by simp only [inB, Bool.and_eq_false_iff, decide_eq_false_iff_not]; omega
    have RP := Lib.hid (show prtC c 106 n = false by simp [prtC, hi])
    have RL := Lib.hid (show plcC c at_ n = false by unfold plcC; rw [hi]; rfl)
    rw [RP.out] at PT
    rw [RL.out]
    clear h hb hi hn
    go_enter Try.func75, Try.ntmps75
    go_wp2_with (go_at_call 50; refine (callGr (PT.out _ (by (repeat (with_reducible first | exact Below.refl _ _ | (refine bl_set ?_ (by first | omega | (simp; done) | (simp; omega)) _) | refine bl_gr ?_ _ | refine bl_al ?_ _ | refine below_setRow ?_ (by first | omega | (simp; done) | (simp; omega)) _ | refine bl_drewN ?_ _ | refine Below.drew ?_ | (refine bl_tr ?_ (by assumption))))))).mono ?_; rintro e w' ⟨pp, rfl, rfl⟩)
    all_goals go_ret
    all_goals exact ⟨ret_int (by simp), by (repeat (with_reducible first | exact Below.refl _ _ | (refine bl_set ?_ (by first | omega | (simp; done) | (simp; omega)) _) | refine bl_gr ?_ _ | refine bl_al ?_ _ | refine below_setRow ?_ (by first | omega | (simp; done) | (simp; omega)) _ | refine bl_drewN ?_ _ | refine Below.drew ?_ | (refine bl_tr ?_ (by assumption))))⟩

theorem rpe_any (As : Option Addr) (N cs : Nat) (c : CodeD) (i p k g : Value) (at_ : Nat) (s : Nat) (hs : kindOk s = true) (n : Int) (hN : 1 ≤ N ∧ N ≤ 4096) (hr : 0 ≤ c.rg ∧ c.rg ≤ 4096) (hn : i64ok n) (w : World) (h : Cd4 w i p k g c) :
    Calls Try.prog 75 #[imA As N cs, codeV c.nm c.kd c.ln c.rg i p k g, .int .i64 (at_ : Int), .int .u8 (s : Int), .int .i64 n] w fun e w' => e = .returned (.int .i64 (prtE (N : Int) c at_ s n)) ∧ Below w.heap.size w w' := by
  simp only [kindOk, List.contains_cons, List.contains_nil, Bool.or_false, Bool.or_eq_true, beq_iff_eq] at hs
  rcases hs with rfl | rfl | rfl | rfl | rfl | rfl | rfl | rfl | rfl | rfl | rfl | rfl | rfl
  · exact rpe_45 As N cs c i p k g at_ n hN hr hn w h
  · exact rpe_114 As N cs c i p k g at_ n hN hr hn w h
  · exact rpe_112 As N cs c i p k g at_ n hN hr hn w h
  · exact rpe_110 As N cs c i p k g at_ n hN hr hn w h
  · exact rpe_103 As N cs c i p k g at_ n hN hr hn w h
  · exact rpe_98 As N cs c i p k g at_ n hN hr hn w h
  · exact rpe_116 As N cs c i p k g at_ n hN hr hn w h
  · exact rpe_113 As N cs c i p k g at_ n hN hr hn w h
  · exact rpe_97 As N cs c i p k g at_ n hN hr hn w h
  · exact rpe_102 As N cs c i p k g at_ n hN hr hn w h
  · exact rpe_100 As N cs c i p k g at_ n hN hr hn w h
  · exact rpe_111 As N cs c i p k g at_ n hN hr hn w h
  · exact rpe_106 As N cs c i p k g at_ n hN hr hn w h
end Go.Proofs.Ytcmpgohpncnagaa
