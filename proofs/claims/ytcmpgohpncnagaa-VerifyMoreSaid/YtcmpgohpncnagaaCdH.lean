/- Constants and handlers. -/
import Derived.Test.YtcmpgohpncnagaaCdG
namespace Go.Proofs.Ytcmpgohpncnagaa
set_option linter.all false
open Go.ChangeShapes Go.WideShapes Go.ChangeAt Go.RowKit Go.Sort Go.Deep Go.Shelf

def emptyB (s : ByteArray) : Bool := s.toList == []
def constM (v : Val) : Bool :=
  if v.k == 5 then v.n == 0 && decide (v.s.size ≤ 65536)
  else if v.k == 2 then inB v.n 0 1 && emptyB v.s
  else if v.k == 3 then inB v.n (-9007199254740992) 9007199254740992 && emptyB v.s
  else if v.k == 0 || v.k == 1 || v.k == 4 || v.k == 8 then v.n == 0 && emptyB v.s
  else false
set_option maxRecDepth 100000 in
set_option maxHeartbeats 8000000 in
theorem constant_any (v : Val) (w : World) : Calls Try.prog 37 #[v.agg] w fun e w' => e = .returned (.bool (constM v)) ∧ Below w.heap.size w w' := by
  have RS := Lib.hid (show constM v = (if v.k == 5 then v.n == 0 && decide ((v.s.size : Int) ≤ 65536)
    else if v.k == 2 then inB v.n 0 1 && (v.s.toList == [])
    else if v.k == 3 then inB v.n (-9007199254740992) 9007199254740992 && (v.s.toList == [])
    else if v.k == 0 || v.k == 1 || v.k == 4 || v.k == 8 then v.n == 0 && (v.s.toList == [])
    else false) by unfold constM emptyB; rw [show decide ((v.s.size : Int) ≤ 65536) = decide (v.s.size ≤ 65536) from decide_eq_decide.2 (by omega)])
  rw [RS.out]
  have C1 := Lib.hid (fun W => cin_any v.n 0 1 W)
  have C3 := Lib.hid (fun W => cin_any v.n (-9007199254740992) 9007199254740992 W)
  generalize inB v.n 0 1 = i1 at *
  generalize inB v.n (-9007199254740992) 9007199254740992 = i3 at *
  cases e5 : v.k == 5
  · cases e2 : v.k == 2
    · cases e3 : v.k == 3
      · go_enter Try.func37, Try.ntmps37
        go_wp2
        all_goals go_ret
        all_goals exact ⟨ret_bool (by simp [*]), by (repeat (with_reducible first | exact Below.refl _ _ | (refine bl_set ?_ (by first | omega | (simp; done) | (simp; omega)) _) | refine bl_gr ?_ _ | refine bl_al ?_ _ | refine below_setRow ?_ (by first | omega | (simp; done) | (simp; omega)) _ | refine bl_drewN ?_ _ | refine Below.drew ?_ | (refine bl_tr ?_ (by assumption))))⟩
      · cases i3
        all_goals
          go_enter Try.func37, Try.ntmps37
          go_wp2_with (go_at_call 35; refine (C3.out _).mono ?_; rintro e w' ⟨rfl, rfl⟩)
          all_goals go_ret
          all_goals exact ⟨ret_bool (by simp [*]), by (repeat (with_reducible first | exact Below.refl _ _ | (refine bl_set ?_ (by first | omega | (simp; done) | (simp; omega)) _) | refine bl_gr ?_ _ | refine bl_al ?_ _ | refine below_setRow ?_ (by first | omega | (simp; done) | (simp; omega)) _ | refine bl_drewN ?_ _ | refine Below.drew ?_ | (refine bl_tr ?_ (by assumption))))⟩
    · cases i1
      all_goals
        go_enter Try.func37, Try.ntmps37
        go_wp2_with (go_at_call 35; refine (C1.out _).mono ?_; rintro e w' ⟨rfl, rfl⟩)
        all_goals go_ret
        all_goals exact ⟨ret_bool (by simp [*]), by (repeat (with_reducible first | exact Below.refl _ _ | (refine bl_set ?_ (by first | omega | (simp; done) | (simp; omega)) _) | refine bl_gr ?_ _ | refine bl_al ?_ _ | refine below_setRow ?_ (by first | omega | (simp; done) | (simp; omega)) _ | refine bl_drewN ?_ _ | refine Below.drew ?_ | (refine bl_tr ?_ (by assumption))))⟩
  · go_enter Try.func37, Try.ntmps37
    go_wp2
    all_goals go_ret
    all_goals exact ⟨ret_bool (by simp [*]), by (repeat (with_reducible first | exact Below.refl _ _ | (refine bl_set ?_ (by first | omega | (simp; done) | (simp; omega)) _) | refine bl_gr ?_ _ | refine bl_al ?_ _ | refine below_setRow ?_ (by first | omega | (simp; done) | (simp; omega)) _ | refine bl_drewN ?_ _ | refine Below.drew ?_ | (refine bl_tr ?_ (by assumption))))⟩
def gdM (c : CodeD) (g : GrdD) : Bool := decide (0 ≤ g.f) && (decide (g.f < g.t) && (decide (g.t ≤ (c.ins.length : Int)) && (prtC c 106 g.g && prtC c 114 g.r)))
set_option maxRecDepth 100000 in
set_option maxHeartbeats 8000000 in
theorem guardRight_any (c : CodeD) (i p k g : Value) (x : GrdD) (hr : 0 ≤ c.rg ∧ c.rg ≤ 4096) (hx : x.ok) (w : World) (h : Cd4 w i p k g c) :
    Calls Try.prog 45 #[codeV c.nm c.kd c.ln c.rg i p k g, x.agg] w fun e w' => e = .returned (.bool (gdM c x)) ∧ Below w.heap.size w w' := by
  obtain ⟨A1, c1, A2, c2, A3, c3, A4, c4, rfl, rfl, rfl, rfl⟩ := h.forms
  have P0 := Lib.hid (fun W h => part_any c (.slice A1 c.ins.length c1) (.slice A2 c.pl.length c2) (.slice A3 c.ks.length c3) (.slice A4 c.gs.length c4) 106 rfl x.g hr hx.2.2.1 W h)
  have P1 := Lib.hid (fun W h => part_any c (.slice A1 c.ins.length c1) (.slice A2 c.pl.length c2) (.slice A3 c.ks.length c3) (.slice A4 c.gs.length c4) 114 rfl x.r hr hx.2.2.2 W h)
  have RS := Lib.hid (show gdM c x = (decide (0 ≤ x.f) && (decide (x.f < x.t) && (decide (x.t ≤ (c.ins.length : Int)) && (prtC c 106 x.g && prtC c 114 x.r)))) from rfl)
  rw [RS.out]
  have CD := Lib.hid h
  clear h hr hx
  generalize prtC c 106 x.g = r0 at *
  generalize prtC c 114 x.r = r1 at *
  by_cases h0 : 0 ≤ x.f
  · by_cases h1 : x.f < x.t
    · by_cases h2 : x.t ≤ (c.ins.length : Int)
      · cases r0
        · go_enter Try.func45, Try.ntmps45
          go_wp2_with (go_at_call 66; refine (callGr (P0.out _ (CD.out.below (by (repeat (with_reducible first | exact Below.refl _ _ | (refine bl_set ?_ (by first | omega | (simp; done) | (simp; omega)) _) | refine bl_gr ?_ _ | refine bl_al ?_ _ | refine below_setRow ?_ (by first | omega | (simp; done) | (simp; omega)) _ | refine bl_drewN ?_ _ | refine Below.drew ?_ | (refine bl_tr ?_ (by assumption)))))))).mono ?_; rintro e w' ⟨pp, rfl, rfl⟩)
          all_goals go_ret
          all_goals exact ⟨ret_bool (by simp), by (repeat (with_reducible first | exact Below.refl _ _ | (refine bl_set ?_ (by first | omega | (simp; done) | (simp; omega)) _) | refine bl_gr ?_ _ | refine bl_al ?_ _ | refine below_setRow ?_ (by first | omega | (simp; done) | (simp; omega)) _ | refine bl_drewN ?_ _ | refine Below.drew ?_ | (refine bl_tr ?_ (by assumption))))⟩
        · go_enter Try.func45, Try.ntmps45
          go_wp2_with (first | (go_at_call_of 66 (Value.int IntKind.u8 106); refine (callGr (P0.out _ (CD.out.below (by (repeat (with_reducible first | exact Below.refl _ _ | (refine bl_set ?_ (by first | omega | (simp; done) | (simp; omega)) _) | refine bl_gr ?_ _ | refine bl_al ?_ _ | refine below_setRow ?_ (by first | omega | (simp; done) | (simp; omega)) _ | refine bl_drewN ?_ _ | refine Below.drew ?_ | (refine bl_tr ?_ (by assumption)))))))).mono ?_; rintro e w' ⟨pp, rfl, rfl⟩) | (go_at_call_of 66 (Value.int IntKind.u8 114); refine (callGr (P1.out _ (CD.out.below (by (repeat (with_reducible first | exact Below.refl _ _ | (refine bl_set ?_ (by first | omega | (simp; done) | (simp; omega)) _) | refine bl_gr ?_ _ | refine bl_al ?_ _ | refine below_setRow ?_ (by first | omega | (simp; done) | (simp; omega)) _ | refine bl_drewN ?_ _ | refine Below.drew ?_ | (refine bl_tr ?_ (by assumption)))))))).mono ?_; rintro e w' ⟨pp, rfl, rfl⟩))
          all_goals go_ret
          all_goals exact ⟨ret_bool (by simp [*]), by (repeat (with_reducible first | exact Below.refl _ _ | (refine bl_set ?_ (by first | omega | (simp; done) | (simp; omega)) _) | refine bl_gr ?_ _ | refine bl_al ?_ _ | refine below_setRow ?_ (by first | omega | (simp; done) | (simp; omega)) _ | refine bl_drewN ?_ _ | refine Below.drew ?_ | (refine bl_tr ?_ (by assumption))))⟩
      · go_enter Try.func45, Try.ntmps45
        go_wp2
        all_goals go_ret
        all_goals exact ⟨ret_bool (by simp; intros; omega), by (repeat (with_reducible first | exact Below.refl _ _ | (refine bl_set ?_ (by first | omega | (simp; done) | (simp; omega)) _) | refine bl_gr ?_ _ | refine bl_al ?_ _ | refine below_setRow ?_ (by first | omega | (simp; done) | (simp; omega)) _ | refine bl_drewN ?_ _ | refine Below.drew ?_ | (refine bl_tr ?_ (by assumption))))⟩
    · go_enter Try.func45, Try.ntmps45
      go_wp2
      all_goals go_ret
      all_goals exact ⟨ret_bool (by simp; intros; omega), by (repeat (with_reducible first | exact Below.refl _ _ | (refine bl_set ?_ (by first | omega | (simp; done) | (simp; omega)) _) | refine bl_gr ?_ _ | refine bl_al ?_ _ | refine below_setRow ?_ (by first | omega | (simp; done) | (simp; omega)) _ | refine bl_drewN ?_ _ | refine Below.drew ?_ | (refine bl_tr ?_ (by assumption))))⟩
  · go_enter Try.func45, Try.ntmps45
    go_wp2
    all_goals go_ret
    all_goals exact ⟨ret_bool (by simp; intros; omega), by (repeat (with_reducible first | exact Below.refl _ _ | (refine bl_set ?_ (by first | omega | (simp; done) | (simp; omega)) _) | refine bl_gr ?_ _ | refine bl_al ?_ _ | refine below_setRow ?_ (by first | omega | (simp; done) | (simp; omega)) _ | refine bl_drewN ?_ _ | refine Below.drew ?_ | (refine bl_tr ?_ (by assumption))))⟩
end Go.Proofs.Ytcmpgohpncnagaa
