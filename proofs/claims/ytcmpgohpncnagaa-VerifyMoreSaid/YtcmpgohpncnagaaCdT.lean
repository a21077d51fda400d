/- The reference's constant and Right (printed by gen51T.py). -/
import Derived.Test.YtcmpgohpncnagaaCdS
namespace Go.Proofs.Ytcmpgohpncnagaa
set_option linter.all false
open Go.ChangeShapes Go.WideShapes Go.ChangeAt Go.RowKit Go.Sort Go.Deep Go.Shelf

set_option maxRecDepth 100000 in
set_option maxHeartbeats 8000000 in
theorem rconstant_any (v : Val) (w : World) : Calls Try.prog 48 #[v.agg] w fun e w' => e = .returned (.bool (constM v)) ∧ Below w.heap.size w w' := by
  have RS := Lib.hid (show constM v = (if v.k == 5 then v.n == 0 && decide ((v.s.size : Int) ≤ 65536)
    else if v.k == 2 then (decide (0 ≤ v.n) && decide (v.n ≤ 1)) && (v.s.toList == [])
    else if v.k == 3 then (decide (-9007199254740992 ≤ v.n) && decide (v.n ≤ 9007199254740992)) && (v.s.toList == [])
    else if v.k == 0 || v.k == 1 || v.k == 4 || v.k == 8 then v.n == 0 && (v.s.toList == [])
    else false) by unfold constM emptyB inB; rw [show decide ((v.s.size : Int) ≤ 65536) = decide (v.s.size ≤ 65536) from decide_eq_decide.2 (by omega)])
  rw [RS.out]
  cases e5 : v.k == 5
  · cases es : v.s.toList == []
    · go_enter Try.func48, Try.ntmps48
      go_wp2
      all_goals go_ret
      all_goals exact ⟨ret_bool (by simp [*]), by (repeat (with_reducible first | exact Below.refl _ _ | (refine bl_set ?_ (by first | omega | (simp; done) | (simp; omega)) _) | refine bl_gr ?_ _ | refine bl_al ?_ _ | refine below_setRow ?_ (by first | omega | (simp; done) | (simp; omega)) _ | refine bl_drewN ?_ _ | refine Below.drew ?_ | (refine bl_tr ?_ (by assumption))))⟩
    · cases e2 : v.k == 2
      · go_enter Try.func48, Try.ntmps48
        go_wp2
        all_goals go_ret
        all_goals exact ⟨ret_bool (by first | (simp [*]; done) | (simp [*]; omega) | (rw [Bool.eq_iff_iff]; simp; omega)), by (repeat (with_reducible first | exact Below.refl _ _ | (refine bl_set ?_ (by first | omega | (simp; done) | (simp; omega)) _) | refine bl_gr ?_ _ | refine bl_al ?_ _ | refine below_setRow ?_ (by first | omega | (simp; done) | (simp; omega)) _ | refine bl_drewN ?_ _ | refine Below.drew ?_ | (refine bl_tr ?_ (by assumption))))⟩
      · have RB := Lib.hid (show (decide (0 ≤ v.n) && decide (v.n ≤ 1)) = (v.n == 0 || v.n == 1) by rw [Bool.eq_iff_iff]; simp; omega)
        rw [RB.out]
        clear RB
        go_enter Try.func48, Try.ntmps48
        go_wp2
        all_goals go_ret
        all_goals exact ⟨ret_bool (by first | (simp [*]; done) | (simp [*]; omega) | (rw [Bool.eq_iff_iff]; simp; omega)), by (repeat (with_reducible first | exact Below.refl _ _ | (refine bl_set ?_ (by first | omega | (simp; done) | (simp; omega)) _) | refine bl_gr ?_ _ | refine bl_al ?_ _ | refine below_setRow ?_ (by first | omega | (simp; done) | (simp; omega)) _ | refine bl_drewN ?_ _ | refine Below.drew ?_ | (refine bl_tr ?_ (by assumption))))⟩
  · go_enter Try.func48, Try.ntmps48
    go_wp2
    all_goals go_ret
    all_goals exact ⟨ret_bool (by first | (simp [*]; done) | (simp [*]; omega) | (rw [Bool.eq_iff_iff]; simp; omega)), by (repeat (with_reducible first | exact Below.refl _ _ | (refine bl_set ?_ (by first | omega | (simp; done) | (simp; omega)) _) | refine bl_gr ?_ _ | refine bl_al ?_ _ | refine below_setRow ?_ (by first | omega | (simp; done) | (simp; omega)) _ | refine bl_drewN ?_ _ | refine Below.drew ?_ | (refine bl_tr ?_ (by assumption))))⟩
theorem right_in {c : CodeD} (h : ∃ x ∈ c.ins, insC c x = false) : rightC c = false := by
  obtain ⟨x, hx, hp⟩ := h
  have : c.ins.all (insC c) = false := by rw [List.all_eq_false]; exact ⟨x, hx, by rw [hp]; simp⟩
  simp [rightC, this]
theorem right_pl {c : CodeD} (h : ∃ x ∈ c.pl, constM x = false) : rightC c = false := by
  obtain ⟨x, hx, hp⟩ := h
  have : c.pl.all constM = false := by rw [List.all_eq_false]; exact ⟨x, hx, by rw [hp]; simp⟩
  simp [rightC, this]
theorem right_ks {c : CodeD} (h : ∃ x ∈ c.ks, keyM x = false) : rightC c = false := by
  obtain ⟨x, hx, hp⟩ := h
  have : c.ks.all keyM = false := by rw [List.all_eq_false]; exact ⟨x, hx, by rw [hp]; simp⟩
  simp [rightC, this]
theorem right_gs {c : CodeD} (h : ∃ x ∈ c.gs, gdM c x = false) : rightC c = false := by
  obtain ⟨x, hx, hp⟩ := h
  have : c.gs.all (gdM c) = false := by rw [List.all_eq_false]; exact ⟨x, hx, by rw [hp]; simp⟩
  simp [rightC, this]
theorem takeAll {α : Type} {p : α → Bool} {l : List α} {k : Nat} {x : α} (h : ∀ y ∈ l.take k, p y = true) (hx : l[k]? = some x) (hp : p x = true) : ∀ y ∈ l.take (k + 1), p y = true := by
  intro y hy
  rw [List.take_add_one, hx] at hy
  rcases List.mem_append.1 hy with hy | hy
  · exact h y hy
  · simp at hy
    rw [hy]
    exact hp
/-- the header and the lengths are valid -/
def HYES (c : CodeD) : Prop := 0 ≤ c.kd ∧ c.kd ≤ 255 ∧ 0 ≤ c.ln ∧ c.ln ≤ 1024 ∧ 0 ≤ c.rg ∧ c.rg ≤ 4096 ∧ c.nm.size ≤ 65536 ∧ c.ins.length ≤ 65536 ∧ c.pl.length ≤ 65536 ∧ c.ks.length ≤ 65536 ∧ c.gs.length ≤ 65536

set_option maxRecDepth 100000 in
set_option maxHeartbeats 16000000 in
theorem rrightC_no (c : CodeD) (i p k g : Value) (hc : c.ok) (w : World) (h : Cd4 w i p k g c) (hno : ¬ HYES c) :
    Calls Try.prog 22 #[codeV c.nm c.kd c.ln c.rg i p k g] w fun e w' => e = .returned (.bool (rightC c)) ∧ Below w.heap.size w w' := by
  obtain ⟨A1, c1, A2, c2, A3, c3, A4, c4, rfl, rfl, rfl, rfl⟩ := h.forms
  have H := Lib.hid h
  have HC := Lib.hid hc
  clear h hc
  by_cases t0 : c.kd < 0
  · have RS := Lib.hid (show rightC c = false by have : hdC c = false := (by unfold hdC inB; rw [decide_eq_false (show ¬ (0 ≤ c.kd) by omega)]; simp); simp [rightC, this])
    rw [RS.out]
    go_enter Try.func22, Try.ntmps22
    go_wp2
    all_goals go_ret
    all_goals exact ⟨rfl, by (repeat (with_reducible first | exact Below.refl _ _ | (refine bl_set ?_ (by first | omega | (simp; done) | (simp; omega)) _) | refine bl_gr ?_ _ | refine bl_al ?_ _ | refine below_setRow ?_ (by first | omega | (simp; done) | (simp; omega)) _ | refine bl_drewN ?_ _ | refine Below.drew ?_ | (refine bl_tr ?_ (by assumption))))⟩
  by_cases t1 : 255 < c.kd
  · have RS := Lib.hid (show rightC c = false by have : hdC c = false := (by unfold hdC inB; rw [decide_eq_false (show ¬ (c.kd ≤ 255) by omega)]; simp); simp [rightC, this])
    rw [RS.out]
    go_enter Try.func22, Try.ntmps22
    go_wp2
    all_goals go_ret
    all_goals exact ⟨rfl, by (repeat (with_reducible first | exact Below.refl _ _ | (refine bl_set ?_ (by first | omega | (simp; done) | (simp; omega)) _) | refine bl_gr ?_ _ | refine bl_al ?_ _ | refine below_setRow ?_ (by first | omega | (simp; done) | (simp; omega)) _ | refine bl_drewN ?_ _ | refine Below.drew ?_ | (refine bl_tr ?_ (by assumption))))⟩
  by_cases t2 : c.ln < 0
  · have RS := Lib.hid (show rightC c = false by have : hdC c = false := (by unfold hdC inB; rw [decide_eq_false (show ¬ (0 ≤ c.ln) by omega)]; simp); simp [rightC, this])
    rw [RS.out]
    go_enter Try.func22, Try.ntmps22
    go_wp2
    all_goals go_ret
    all_goals exact ⟨rfl, by (repeat (with_reducible first | exact Below.refl _ _ | (refine bl_set ?_ (by first | omega | (simp; done) | (simp; omega)) _) | refine bl_gr ?_ _ | refine bl_al ?_ _ | refine below_setRow ?_ (by first | omega | (simp; done) | (simp; omega)) _ | refine bl_drewN ?_ _ | refine Below.drew ?_ | (refine bl_tr ?_ (by assumption))))⟩
  by_cases t3 : 1024 < c.ln
  · have RS := Lib.hid (show rightC c = false by have : hdC c = false := (by unfold hdC inB; rw [decide_eq_false (show ¬ (c.ln ≤ 1024) by omega)]; simp); simp [rightC, this])
    rw [RS.out]
    go_enter Try.func22, Try.ntmps22
    go_wp2
    all_goals go_ret
    all_goals exact ⟨rfl, by (repeat (with_reducible first | exact Below.refl _ _ | (refine bl_set ?_ (by first | omega | (simp; done) | (simp; omega)) _) | refine bl_gr ?_ _ | refine bl_al ?_ _ | refine below_setRow ?_ (by first | omega | (simp; done) | (simp; omega)) _ | refine bl_drewN ?_ _ | refine Below.drew ?_ | (refine bl_tr ?_ (by assumption))))⟩
  by_cases t4 : c.rg < 0
  · have RS := Lib.hid (show rightC c = false by have : hdC c = false := (by unfold hdC inB; rw [decide_eq_false (show ¬ (0 ≤ c.rg) by omega)]; simp); simp [rightC, this])
    rw [RS.out]
    go_enter Try.func22, Try.ntmps22
    go_wp2
    all_goals go_ret
    all_goals exact ⟨rfl, by (repeat (with_reducible first | exact Below.refl _ _ | (refine bl_set ?_ (by first | omega | (simp; done) | (simp; omega)) _) | refine bl_gr ?_ _ | refine bl_al ?_ _ | refine below_setRow ?_ (by first | omega | (simp; done) | (simp; omega)) _ | refine bl_drewN ?_ _ | refine Below.drew ?_ | (refine bl_tr ?_ (by assumption))))⟩
  by_cases t5 : 4096 < c.rg
  · have RS := Lib.hid (show rightC c = false by have : hdC c = false := (by unfold hdC inB; rw [decide_eq_false (show ¬ (c.rg ≤ 4096) by omega)]; simp); simp [rightC, this])
    rw [RS.out]
    go_enter Try.func22, Try.ntmps22
    go_wp2
    all_goals go_ret
    all_goals exact ⟨rfl, by (repeat (with_reducible first | exact Below.refl _ _ | (refine bl_set ?_ (by first | omega | (simp; done) | (simp; omega)) _) | refine bl_gr ?_ _ | refine bl_al ?_ _ | refine below_setRow ?_ (by first | omega | (simp; done) | (simp; omega)) _ | refine bl_drewN ?_ _ | refine Below.drew ?_ | (refine bl_tr ?_ (by assumption))))⟩
  by_cases t6 : 65536 < (c.nm.size : Int)
  · have RS := Lib.hid (show rightC c = false by have : hdC c = false := (by unfold hdC; rw [decide_eq_false (show ¬ c.nm.size ≤ 65536 by omega)]; simp); simp [rightC, this])
    rw [RS.out]
    go_enter Try.func22, Try.ntmps22
    go_wp2
    all_goals go_ret
    all_goals exact ⟨rfl, by (repeat (with_reducible first | exact Below.refl _ _ | (refine bl_set ?_ (by first | omega | (simp; done) | (simp; omega)) _) | refine bl_gr ?_ _ | refine bl_al ?_ _ | refine below_setRow ?_ (by first | omega | (simp; done) | (simp; omega)) _ | refine bl_drewN ?_ _ | refine Below.drew ?_ | (refine bl_tr ?_ (by assumption))))⟩
  by_cases t7 : 65536 < (c.ins.length : Int)
  · have RS := Lib.hid (show rightC c = false by have : decide (c.ins.length ≤ 65536) = false := decide_eq_false (by omega); simp [rightC, this])
    rw [RS.out]
    go_enter Try.func22, Try.ntmps22
    go_wp2
    all_goals go_ret
    all_goals exact ⟨rfl, by (repeat (with_reducible first | exact Below.refl _ _ | (refine bl_set ?_ (by first | omega | (simp; done) | (simp; omega)) _) | refine bl_gr ?_ _ | refine bl_al ?_ _ | refine below_setRow ?_ (by first | omega | (simp; done) | (simp; omega)) _ | refine bl_drewN ?_ _ | refine Below.drew ?_ | (refine bl_tr ?_ (by assumption))))⟩
  by_cases t8 : 65536 < (c.pl.length : Int)
  · have RS := Lib.hid (show rightC c = false by have : decide (c.pl.length ≤ 65536) = false := decide_eq_false (by omega); simp [rightC, this])
    rw [RS.out]
    go_enter Try.func22, Try.ntmps22
    go_wp2
    all_goals go_ret
    all_goals exact ⟨rfl, by (repeat (with_reducible first | exact Below.refl _ _ | (refine bl_set ?_ (by first | omega | (simp; done) | (simp; omega)) _) | refine bl_gr ?_ _ | refine bl_al ?_ _ | refine below_setRow ?_ (by first | omega | (simp; done) | (simp; omega)) _ | refine bl_drewN ?_ _ | refine Below.drew ?_ | (refine bl_tr ?_ (by assumption))))⟩
  by_cases t9 : 65536 < (c.ks.length : Int)
  · have RS := Lib.hid (show rightC c = false by have : decide (c.ks.length ≤ 65536) = false := decide_eq_false (by omega); simp [rightC, this])
    rw [RS.out]
    go_enter Try.func22, Try.ntmps22
    go_wp2
    all_goals go_ret
    all_goals exact ⟨rfl, by (repeat (with_reducible first | exact Below.refl _ _ | (refine bl_set ?_ (by first | omega | (simp; done) | (simp; omega)) _) | refine bl_gr ?_ _ | refine bl_al ?_ _ | refine below_setRow ?_ (by first | omega | (simp; done) | (simp; omega)) _ | refine bl_drewN ?_ _ | refine Below.drew ?_ | (refine bl_tr ?_ (by assumption))))⟩
  by_cases t10 : 65536 < (c.gs.length : Int)
  · have RS := Lib.hid (show rightC c = false by have : decide (c.gs.length ≤ 65536) = false := decide_eq_false (by omega); simp [rightC, this])
    rw [RS.out]
    go_enter Try.func22, Try.ntmps22
    go_wp2
    all_goals go_ret
    all_goals exact ⟨rfl, by (repeat (with_reducible first | exact Below.refl _ _ | (refine bl_set ?_ (by first | omega | (simp; done) | (simp; omega)) _) | refine bl_gr ?_ _ | refine bl_al ?_ _ | refine below_setRow ?_ (by first | omega | (simp; done) | (simp; omega)) _ | refine bl_drewN ?_ _ | refine Below.drew ?_ | (refine bl_tr ?_ (by assumption))))⟩
  exact absurd (by unfold HYES; omega) hno
end Go.Proofs.Ytcmpgohpncnagaa
