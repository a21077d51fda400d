/- The reference's off and set. -/
import Derived.Test.YtcmpgohpncnagaaWzB
namespace Go.Proofs.Ytcmpgohpncnagaa
set_option linter.all false
open Go.ChangeShapes Go.WideShapes Go.ChangeAt Go.RowKit Go.Sort Go.Deep Go.Shelf

set_option maxRecDepth 100000 in
set_option maxHeartbeats 8000000 in
theorem roff_any (c : CodeD) (hr : rightC c = true) (i p k g : Value) (hc : c.ok) (w : World) (h : Cd4 w i p k g c) :
    Calls Try.prog 29 #[codeV c.nm c.kd c.ln c.rg i p k g] w fun e w' => e = .returned (.int .i64 (openC c)) ∧ Below w.heap.size w w' := by
  obtain ⟨A1, c1, A2, c2, A3, c3, A4, c4, rfl, rfl, rfl, rfl⟩ := h.forms
  have RT := Lib.hid (fun W hW => rreaches_any c (.slice A1 c.ins.length c1) (.slice A2 c.pl.length c2) (.slice A3 c.ks.length c3) (.slice A4 c.gs.length c4) hc W (h.below hW) : ∀ W, Below w.heap.size w W → _)
  have hn := rightC_len hr
  have RL := Lib.hid (show (reachC c).length = c.ins.length by unfold reachC; rw [hr]; exact rchL_len)
  by_cases h0 : c.ins.length = 0
  · have RS := Lib.hid (show openC c = -1 by unfold openC; rw [if_neg (by omega)])
    have RF := Lib.hid (fun (w3 : World) (v : Value) (hB : IsB w3 v (reachC c)) => by
      obtain ⟨A, cp, e, _⟩ := hB.form
      rw [RL.out, h0] at e
      exact ⟨A, cp, e⟩ : ∀ (w3 : World) (v : Value), IsB w3 v (reachC c) → ∃ A cp, v = .slice A 0 cp)
    rw [RS.out]
    clear h hc hr h0 hn
    go_enter Try.func29, Try.ntmps29
    go_wp2_with (go_at_call 11; go_loud (refine (RT.out _ (by (repeat (with_reducible first | exact Below.refl _ _ | (refine bl_set ?_ (by first | omega | (simp; done) | (simp; omega)) _) | refine bl_gr ?_ _ | refine bl_al ?_ _ | refine below_setRow ?_ (by first | omega | (simp; done) | (simp; omega)) _ | refine bl_drewN ?_ _ | refine Below.drew ?_ | (refine bl_tr ?_ (by assumption)))))).mono ?_; rintro e w3 ⟨v, rfl, hB, hb⟩; obtain ⟨A, cp, rfl⟩ := RF.out w3 v hB; have B3 := Lib.hid (bl_tr (show Below w.heap.size w _ by (repeat (with_reducible first | exact Below.refl _ _ | (refine bl_set ?_ (by first | omega | (simp; done) | (simp; omega)) _) | refine bl_gr ?_ _ | refine bl_al ?_ _ | refine below_setRow ?_ (by first | omega | (simp; done) | (simp; omega)) _ | refine bl_drewN ?_ _ | refine Below.drew ?_ | (refine bl_tr ?_ (by assumption))))) hb); clear hB hb))
    all_goals go_ret
    all_goals exact ⟨rfl, B3.out⟩
  · obtain ⟨m, hm⟩ : ∃ m, c.ins.length = m + 1 := ⟨c.ins.length - 1, by omega⟩
    obtain ⟨x, hx⟩ : ∃ x, c.ins[m]? = some x := ⟨_, List.getElem?_eq_getElem (by rw [hm]; omega)⟩
    obtain ⟨b, off, cap', e1, lb, f0, f1, f2, f3⟩ := at_In h.i hx
    simp only [Value.slice.injEq] at e1
    obtain ⟨rfl, _, rfl⟩ := e1
    have FL := Lib.hid (rfalls_any x.op)
    have EX := Lib.hid (show c.ins.getD (c.ins.length - 1) default = x by rw [hm, Nat.add_sub_cancel, List.getD_eq_getElem?_getD, hx]; rfl)
    have q1 : ¬ (m : Int) < 0 := by omega
    have q2 : (m : Int) < (c.ins.length : Int) := by omega
    have q3 : (0 : Int) < (c.ins.length : Int) := by omega
    have q4 : decide (0 < c.ins.length) = true := decide_eq_true (by omega)
    have q5 : ¬ ((c.ins.length : Int) ≤ 0) := by omega
    have HM := Lib.hid hm
    have FX := Lib.hid (And.intro f0 (And.intro f1 (And.intro f2 f3)))
    obtain ⟨r, er⟩ : ∃ r, r = (reachC c).getD m false := ⟨_, rfl⟩
    obtain ⟨f, ef⟩ : ∃ f, f = fallsM x.op := ⟨_, rfl⟩
    have RS := Lib.hid (show openC c = if r = true ∧ f = true then (m : Int) else -1 by
      unfold openC
      rw [EX.out, ← ef, show c.ins.length - 1 = m by omega, ← er, show (c.ins.length : Int) - 1 = (m : Int) by omega]
      cases r
      · cases f <;> simp
      · cases f
        · simp
        · rw [if_pos ⟨by omega, rfl, rfl⟩, if_pos ⟨rfl, rfl⟩])
    have RB := Lib.hid (fun (w3 : World) (v : Value) (hB : IsB w3 v (reachC c)) => by
      have hl := RL.out
      obtain ⟨b5, off5, cap5, e5, _, lb5, h5⟩ := hB.at_ (by rw [hl, hm]; exact Nat.succ_pos m)
      rw [hl] at e5
      refine ⟨b5, off5, cap5, e5, lb5, ?_⟩
      have := h5 m r (by rw [er, List.getD_eq_getElem?_getD, List.getElem?_eq_getElem (by rw [hl, hm]; exact Nat.lt_succ_self m)]; rfl) 0 _ rfl
      simpa using this : ∀ (w3 : World) (v : Value), IsB w3 v (reachC c) → ∃ b5 off5 cap5, v = .slice (some ⟨b5, off5, none⟩) c.ins.length cap5 ∧ b5 < w3.heap.size ∧ w3.cell? ⟨b5, off5 + m, none⟩ = some (.bool r))
    rw [← ef] at FL
    have em : wrap64 ((c.ins.length : Int) - 1) = (m : Int) := w64c (by omega) (by omega)
    have lw := (show b < w.heap.size from lb)
    clear h hc hr h0 hn hm er ef hx f0 f1 f2 f3
    cases r <;> cases f
    all_goals
      go_enter Try.func29, Try.ntmps29
      go_wp2_with (first | (go_at_call 52; refine (callGr (FL.out _)).mono ?_; rintro e w' ⟨pp, rfl, rfl⟩) | (go_at_call 11; go_loud (refine (RT.out _ (by (repeat (with_reducible first | exact Below.refl _ _ | (refine bl_set ?_ (by first | omega | (simp; done) | (simp; omega)) _) | refine bl_gr ?_ _ | refine bl_al ?_ _ | refine below_setRow ?_ (by first | omega | (simp; done) | (simp; omega)) _ | refine bl_drewN ?_ _ | refine Below.drew ?_ | (refine bl_tr ?_ (by assumption)))))).mono ?_; rintro e w3 ⟨v, rfl, hB, hb⟩; obtain ⟨b5, off5, cap5, rfl, lb5, c5⟩ := RB.out w3 v hB; obtain ⟨⟨a0, a1, a2, a3, a4, a5, a6, a7⟩, -⟩ := cells8 ((hb.block _ (by simp)).trans (heap_alloc_new w (codeO c.nm c.kd c.ln c.rg (.slice (some ⟨b, off, none⟩) c.ins.length c1) (.slice A2 c.pl.length c2) (.slice A3 c.ks.length c3) (.slice A4 c.gs.length c4)))); have l0 : w.heap.size < w3.heap.size := Nat.lt_of_lt_of_le (by simp) hb.size; have l9 : b < w3.heap.size := Nat.lt_trans lw l0; obtain ⟨z0, z1, z2, z3⟩ := AtIn.below FX.out lw (bl_tr (show Below w.heap.size w _ by (repeat (with_reducible first | exact Below.refl _ _ | (refine bl_set ?_ (by first | omega | (simp; done) | (simp; omega)) _) | refine bl_gr ?_ _ | refine bl_al ?_ _ | refine below_setRow ?_ (by first | omega | (simp; done) | (simp; omega)) _ | refine bl_drewN ?_ _ | refine Below.drew ?_ | (refine bl_tr ?_ (by assumption))))) hb); have B3 := Lib.hid (bl_tr (show Below w.heap.size w _ by (repeat (with_reducible first | exact Below.refl _ _ | (refine bl_set ?_ (by first | omega | (simp; done) | (simp; omega)) _) | refine bl_gr ?_ _ | refine bl_al ?_ _ | refine below_setRow ?_ (by first | omega | (simp; done) | (simp; omega)) _ | refine bl_drewN ?_ _ | refine Below.drew ?_ | (refine bl_tr ?_ (by assumption))))) hb); clear hB hb)))
      all_goals go_ret
      all_goals exact ⟨ret_int (by rw [RS.out]; first | rfl | (rw [em]; simp; done) | (simp [em]; done)), bl_tr B3.out (by (repeat (with_reducible first | exact Below.refl _ _ | (refine bl_set ?_ (by first | omega | (simp; done) | (simp; omega)) _) | refine bl_gr ?_ _ | refine bl_al ?_ _ | refine below_setRow ?_ (by first | omega | (simp; done) | (simp; omega)) _ | refine bl_drewN ?_ _ | refine Below.drew ?_ | (refine bl_tr ?_ (by assumption)))))⟩

/-- labels and flags, as set leaves them -/
def dsM (o : List Int) (m bad : Bool) (t : Nat) (d : Int) : List Int × Bool × Bool :=
  if d < 0 ∨ (o.getD t 0 ≠ -1 ∧ o.getD t 0 ≠ d) then (o, m, true) else if o.getD t 0 = -1 then (o.set t d, true, bad) else (o, m, bad)
/-- .. in memory -/
structure RdI (n B bo : Nat) (s : List Int × Bool × Bool) (Z : World) : Prop where
  hd : Z.heap[B]? = some (.cells #[.slice (some ⟨bo, 0, none⟩) n n, .bool s.2.1, .bool s.2.2] 63)
  ob : Z.heap[bo]? = some (.cells (s.1.map vI).toArray 3)
  len : s.1.length = n
theorem RdI.ne {n B bo : Nat} {s : List Int × Bool × Bool} {Z : World} (h : RdI n B bo s Z) : B ≠ bo := fun e => by
  have h1 := h.hd
  have h2 := h.ob
  subst e
  exact cells_ne h1 h2 (by decide)
abbrev FD (B bo : Nat) (k : Nat) : Prop := k = B ∨ k = bo
theorem RdI.bad {n B bo : Nat} {o : List Int} {m bad : Bool} {Z : World} (h : RdI n B bo (o, m, bad) Z) (u : Bool) : RdI n B bo (o, m, u) (Z.setCell ⟨B, 2, none⟩ (.bool u)) ∧ Touch (FD B bo) Z (Z.setCell ⟨B, 2, none⟩ (.bool u)) :=
  ⟨⟨heap_setCell_same Z B 2 _ _ _ h.hd, (heap_setCell_other Z _ _ _ (by exact fun e => h.ne e.symm)).trans h.ob, h.len⟩, (Touch.refl _ _).set (.inl (.inl rfl)) _⟩
theorem RdI.more {n B bo : Nat} {o : List Int} {m bad : Bool} {Z : World} (h : RdI n B bo (o, m, bad) Z) (u : Bool) : RdI n B bo (o, u, bad) (Z.setCell ⟨B, 1, none⟩ (.bool u)) ∧ Touch (FD B bo) Z (Z.setCell ⟨B, 1, none⟩ (.bool u)) :=
  ⟨⟨heap_setCell_same Z B 1 _ _ _ h.hd, (heap_setCell_other Z _ _ _ (by exact fun e => h.ne e.symm)).trans h.ob, h.len⟩, (Touch.refl _ _).set (.inl (.inl rfl)) _⟩
theorem RdI.lab {n B bo : Nat} {o : List Int} {m bad : Bool} {Z : World} (h : RdI n B bo (o, m, bad) Z) (t : Nat) (d : Int) : RdI n B bo (o.set t d, m, bad) (Z.setCell ⟨bo, t, none⟩ (.int .i64 d)) ∧ Touch (FD B bo) Z (Z.setCell ⟨bo, t, none⟩ (.int .i64 d)) := by
  refine ⟨⟨(heap_setCell_other Z _ _ _ (by exact h.ne)).trans h.hd, ?_, by simpa using h.len⟩, (Touch.refl _ _).set (.inl (.inr rfl)) _⟩
  rw [heap_setCell_same Z bo t _ _ _ h.ob]
  congr 2
  simp [List.map_set, vI]
theorem RdI.cells {n B bo : Nat} {o : List Int} {m bad : Bool} {Z : World} (h : RdI n B bo (o, m, bad) Z) : Z.cell? ⟨B, 0, none⟩ = some (.slice (some ⟨bo, 0, none⟩) n n) ∧ Z.cell? ⟨B, 1, none⟩ = some (.bool m) ∧ Z.cell? ⟨B, 2, none⟩ = some (.bool bad) ∧ (∀ j, Z.frozen? ⟨B, j, none⟩ = false) ∧ B < Z.heap.size ∧ bo < Z.heap.size ∧ (∀ j, Z.frozen? ⟨bo, j, none⟩ = false) ∧
    ∀ (t : Nat) (v : Int), o[t]? = some v → Z.cell? ⟨bo, t, none⟩ = some (.int .i64 v) :=
  ⟨by rw [cell_of_row Z B _ _ _ _ h.hd]; rfl, by rw [cell_of_row Z B _ _ _ _ h.hd]; rfl, by rw [cell_of_row Z B _ _ _ _ h.hd]; rfl, fun j => frozen_of_row Z B j _ _ h.hd, (Array.getElem?_eq_some_iff.1 h.hd).1, (Array.getElem?_eq_some_iff.1 h.ob).1, fun j => frozen_of_row Z bo j _ _ h.ob,
    fun t v hv => by rw [cell_of_row Z bo _ _ _ _ h.ob]; simp [hv, vI]⟩
theorem RdI.touch {n B bo : Nat} {s : List Int × Bool × Bool} {Z Y : World} (h : RdI n B bo s Z) (hb : Below Z.heap.size Z Y) : RdI n B bo s Y :=
  ⟨(hb.block _ (Array.getElem?_eq_some_iff.1 h.hd).1).trans h.hd, (hb.block _ (Array.getElem?_eq_some_iff.1 h.ob).1).trans h.ob, h.len⟩
def RetS (n B bo : Nat) (s : List Int × Bool × Bool) (W : World) (e : Ending) (W' : World) : Prop := e = .returned (.tuple #[]) ∧ RdI n B bo s W' ∧ Touch (FD B bo) W W'
theorem touch_tr {F : Nat → Prop} {a b c : World} (h : Touch F a b) (k : Touch F b c) : Touch F a c := h.trans k fun _ _ h => h
set_option maxRecDepth 100000 in
set_option maxHeartbeats 8000000 in
theorem rset_any (n B bo : Nat) (o : List Int) (m bad : Bool) (t : Nat) (d : Int) (ht : t < n) (W : World) (h : RdI n B bo (o, m, bad) W) :
    Calls Try.prog 30 #[.pointer (some ⟨B, 0, none⟩), .int .i64 (t : Int), .int .i64 d] W (RetS n B bo (dsM o m bad t d) W) := by
  have HH := Lib.hid h
  obtain ⟨c0, c1, c2, fB, lB, lo, fo, co⟩ := h.cells
  obtain ⟨v, hv⟩ : ∃ v, o[t]? = some v := ⟨_, List.getElem?_eq_getElem (by have := h.len; dsimp only at this; omega)⟩
  have cv := co t v hv
  have hg : o.getD t 0 = v := by rw [List.getD_eq_getElem?_getD, hv]; rfl
  have q0 : (t : Int) < (n : Int) := by omega
  have q1 : ¬ (t : Int) < 0 := by omega
  have n1 : B ≠ bo := h.ne
  have n2 : bo ≠ B := fun e => n1 e.symm
  have f1 := fB 1
  have f2 := fB 2
  have ft := fo t
  by_cases hd : d < 0
  · have RS := Lib.hid (show dsM o m bad t d = (o, m, true) by unfold dsM; rw [if_pos (.inl hd)])
    rw [RS.out]
    clear h hv co fB fo hg ht
    go_enter Try.func30, Try.ntmps30
    go_wp2
    go_end0
    exact ⟨rfl, HH.out.bad true⟩
  · by_cases h1 : v = -1
    · have RS := Lib.hid (show dsM o m bad t d = (o.set t d, true, bad) by unfold dsM; rw [hg, if_neg (by rintro (h | h); exact hd h; exact h.1 h1), if_pos h1])
      rw [RS.out]
      subst h1
      clear h hv co fB fo hg ht
      go_enter Try.func30, Try.ntmps30
      go_wp2
      go_end0
      have h2 := HH.out.lab t d
      have h3 := h2.1.more true
      exact ⟨rfl, h3.1, touch_tr h2.2 h3.2⟩
    · have e1 : (v != -1) = true := by simpa using h1
      have e1' : (v == -1) = false := by simpa using h1
      by_cases h2 : v = d
      · have RS := Lib.hid (show dsM o m bad t d = (o, m, bad) by unfold dsM; rw [hg, if_neg (by rintro (h | h); exact hd h; exact h.2 h2), if_neg h1])
        rw [RS.out]
        subst h2
        clear h hv co fB fo hg ht
        go_enter Try.func30, Try.ntmps30
        go_wp2
        go_end0
        exact ⟨rfl, HH.out, Touch.refl _ _⟩
      · have e2 : (v != d) = true := by simpa using h2
        have RS := Lib.hid (show dsM o m bad t d = (o, m, true) by unfold dsM; rw [hg, if_pos (.inr ⟨h1, h2⟩)])
        rw [RS.out]
        clear h hv co fB fo hg ht
        go_enter Try.func30, Try.ntmps30
        go_wp2
        go_end0
        exact ⟨rfl, HH.out.bad true⟩
end Go.Proofs.Ytcmpgohpncnagaa
