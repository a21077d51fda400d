/- verify.behind, open; the second closure of Deep. -/
import Derived.Test.YtcmpgohpncnagaaWyE
namespace Go.Proofs.Ytcmpgohpncnagaa
set_option linter.all false
open Go.ChangeShapes Go.WideShapes Go.ChangeAt Go.RowKit Go.Sort Go.Deep Go.Shelf

/-- the depth behind an operation -/
def behM (op d : Int) : Int := if op == 50 then wrap64 (d + 1) else if op == 51 then wrap64 (d - 1) else d
set_option maxRecDepth 100000 in
set_option maxHeartbeats 8000000 in
theorem behind_any (op d : Int) (w : World) : Calls Try.prog 26 #[.int .i64 op, .int .i64 d] w fun e w' => e = .returned (.int .i64 (behM op d)) ∧ w = w' := by
  have RS := Lib.hid (show behM op d = if op == 50 then wrap64 (d + 1) else if op == 51 then wrap64 (d - 1) else d from rfl)
  rw [RS.out]
  cases h0 : op == 50
  · cases h1 : op == 51
    all_goals
      go_enter Try.func26, Try.ntmps26
      go_wp2
      all_goals go_ret
      all_goals exact ⟨ret_int (by simp), rfl⟩
  · go_enter Try.func26, Try.ntmps26
    go_wp2
    all_goals go_ret
    all_goals exact ⟨ret_int (by simp), rfl⟩
def nxC (c : CodeD) (a : Nat) (d : Int) : Int := behM ((c.ins.getD a default).op) d
theorem nxC_at {c : CodeD} {a : Nat} {x : InsD} (hx : c.ins[a]? = some x) (d : Int) : nxC c a d = behM x.op d := by
  unfold nxC
  rw [List.getD_eq_getElem?_getD, hx]
  rfl

/-- what the second closure of Deep stands on -/
structure St2 (n b4 bo b6 b7 g0 sz b8 b10 b11 a : Nat) (v0 nx : Int) (s : LS) (W : World) : Prop where
  st : StD n b4 bo b6 b7 g0 sz s W
  c8 : W.heap[b8]? = some (.cells #[.func (.func 25) #[] #[.pointer (some ⟨b4, 0, none⟩), .pointer (some ⟨b6, 0, none⟩), .pointer (some ⟨b7, 0, none⟩)]] 57)
  c10 : W.heap[b10]? = some (.cells #[.int .i64 (a : Int)] 3)
  c11 : W.heap[b11]? = some (.cells #[.int .i64 nx] 3)
  lab : s.o[a]? = some v0
theorem St2.below {n b4 bo b6 b7 g0 sz b8 b10 b11 a : Nat} {v0 nx : Int} {s : LS} {W W' : World} (h : St2 n b4 bo b6 b7 g0 sz b8 b10 b11 a v0 nx s W) (hb : Below W.heap.size W W') : St2 n b4 bo b6 b7 g0 sz b8 b10 b11 a v0 nx s W' :=
  ⟨h.st.below hb, (hb.block _ (Array.getElem?_eq_some_iff.1 h.c8).1).trans h.c8, (hb.block _ (Array.getElem?_eq_some_iff.1 h.c10).1).trans h.c10, (hb.block _ (Array.getElem?_eq_some_iff.1 h.c11).1).trans h.c11, h.lab⟩
theorem lay_keep {s : LS} {a t : Nat} {v0 d : Int} (h : s.o[a]? = some v0) (h0 : 0 ≤ v0) : (lay s t d).o[a]? = some v0 := by
  unfold lay
  split
  · rename_i hn
    dsimp only
    have e : t ≠ a := fun e => by
      subst e
      rw [List.getD_eq_getElem?_getD, h] at hn
      simp at hn
      omega
    rw [List.getElem?_set, if_neg e]
    exact h
  · exact h
def f2 (v0 nx : Int) (s : LS) (p : Nat × Bool) : LS := lay s p.1 (if p.2 then v0 else nx)
set_option maxRecDepth 100000 in
set_option maxHeartbeats 8000000 in
theorem deep2_any (n b4 bo b6 b7 g0 sz b8 b10 b11 a : Nat) (v0 nx : Int) (h0 : 0 ≤ v0) (h1 : 0 ≤ nx) (k8 : KD bo b6 b7 g0 sz b8) (k10 : KD bo b6 b7 g0 sz b10) (k11 : KD bo b6 b7 g0 sz b11) (s : LS) (t : Nat) (g : Bool) (ht : t < n) (W : World) (hS : St2 n b4 bo b6 b7 g0 sz b8 b10 b11 a v0 nx s W) :
    Calls Try.prog 28 #[.int .i64 (t : Int), .bool g, .pointer (some ⟨b8, 0, none⟩), .pointer (some ⟨b4, 0, none⟩), .pointer (some ⟨b10, 0, none⟩), .pointer (some ⟨b11, 0, none⟩)] W fun e W' => e = .returned (.tuple #[]) ∧ St2 n b4 bo b6 b7 g0 sz b8 b10 b11 a v0 nx (f2 v0 nx s (t, g)) W' ∧ Kp (KD bo b6 b7 g0 sz) W W' := by
  have HS := Lib.hid hS
  have KK := Lib.hid (And.intro k8 (And.intro k10 k11))
  have D1 := Lib.hid (fun W (hW : Below W.heap.size W W → StD n b4 bo b6 b7 g0 sz s W) => deep1_any n b4 bo b6 b7 g0 sz s t (if g then v0 else nx) (by cases g; exact h1; exact h0) ht W (hW (Below.refl _ _)))
  have LK := Lib.hid (show (f2 v0 nx s (t, g)).o[a]? = some v0 from lay_keep hS.lab h0)
  have FE := Lib.hid (show f2 v0 nx s (t, g) = lay s t (if g then v0 else nx) from rfl)
  have fin : ∀ W', StD n b4 bo b6 b7 g0 sz (lay s t (if g then v0 else nx)) W' → Kp (KD bo b6 b7 g0 sz) W W' → St2 n b4 bo b6 b7 g0 sz b8 b10 b11 a v0 nx (f2 v0 nx s (t, g)) W' := fun W' h1 h2 =>
    ⟨h1, h2.blk _ _ HS.out.c8 (.inl KK.out.1), h2.blk _ _ HS.out.c10 (.inl KK.out.2.1), h2.blk _ _ HS.out.c11 (.inl KK.out.2.2), LK.out⟩
  have FN := Lib.hid fin
  have e8 : W.cell? ⟨b8, 0, none⟩ = some (.func (.func 25) #[] #[.pointer (some ⟨b4, 0, none⟩), .pointer (some ⟨b6, 0, none⟩), .pointer (some ⟨b7, 0, none⟩)]) := by rw [cell_of_row W b8 _ _ _ _ hS.c8]; rfl
  have e10 : W.cell? ⟨b10, 0, none⟩ = some (.int .i64 (a : Int)) := by rw [cell_of_row W b10 _ _ _ _ hS.c10]; rfl
  have e11 : W.cell? ⟨b11, 0, none⟩ = some (.int .i64 nx) := by rw [cell_of_row W b11 _ _ _ _ hS.c11]; rfl
  have e4 : W.cell? ⟨b4, 0, none⟩ = some (.slice (some ⟨bo, 0, none⟩) n n) := by rw [cell_of_row W b4 _ _ _ _ hS.st.hd]; rfl
  have eo : W.cell? ⟨bo, a, none⟩ = some (.int .i64 v0) := by rw [cell_of_row W bo _ _ _ _ hS.st.ob, List.getElem?_toArray, List.getElem?_map, hS.lab]; rfl
  have m8 := (Array.getElem?_eq_some_iff.1 hS.c8).1
  have m10 := (Array.getElem?_eq_some_iff.1 hS.c10).1
  have m11 := (Array.getElem?_eq_some_iff.1 hS.c11).1
  have m4 := (Array.getElem?_eq_some_iff.1 hS.st.hd).1
  have mo := (Array.getElem?_eq_some_iff.1 hS.st.ob).1
  have q0 : (a : Int) < (n : Int) := by
    have := (List.getElem?_eq_some_iff.1 hS.lab).1
    rw [hS.st.len] at this
    omega
  have q1 : ¬ (a : Int) < 0 := by omega
  clear fin hS k8 k10 k11 h0 h1 ht
  cases g
  · simp only [Bool.false_eq_true, if_false] at D1 FN
    go_enter Try.func28, Try.ntmps28
    go_wp2_with (go_at_call 25; go_loud (refine (D1.out _ (fun _ => HS.out.st)).mono ?_; rintro e W3 ⟨rfl, hs, hk⟩; have WY := Lib.hid (And.intro hs hk); clear hs hk))
    go_end0
    exact ⟨rfl, FN.out _ WY.out.1 WY.out.2, WY.out.2⟩
  · simp only [if_true] at D1 FN
    go_enter Try.func28, Try.ntmps28
    go_upto_region 1 with fail
    ((first | (with_reducible refine wp_tail_gr 6 Try.mixed ?_ ?_) | (with_reducible refine wp_tail_any 6 Try.mixed ?_ ?_)); (next => kernel_rfl); simp only [List.take_succ_cons, List.take_zero, List.drop_succ_cons, List.drop_zero]; (repeat (with_reducible refine wpQuiet_step (fun K hK => ?_); go_simp; first | (refine hK _ ?_; clear hK K) | (apply Exists.intro; refine ⟨fun _ => ?_, hK _ ?_⟩; (fail); clear hK K))); refine wpQuiet_nil ?_; intro pq)
    go_wp2_with (go_at_call 25; go_loud (refine (D1.out _ (fun _ => HS.out.st.below (by (repeat (with_reducible first | exact Below.refl _ _ | (refine bl_set ?_ (by first | omega | (simp; done) | (simp; omega)) _) | refine bl_gr ?_ _ | refine bl_al ?_ _ | refine below_setRow ?_ (by first | omega | (simp; done) | (simp; omega)) _ | refine bl_drewN ?_ _ | refine Below.drew ?_ | (refine bl_tr ?_ (by assumption))))))).mono ?_; rintro e W3 ⟨rfl, hs, hk⟩; have WY := Lib.hid (And.intro hs ((Kp.of_below (show Below W.heap.size W _ by (repeat (with_reducible first | exact Below.refl _ _ | (refine bl_set ?_ (by first | omega | (simp; done) | (simp; omega)) _) | refine bl_gr ?_ _ | refine bl_al ?_ _ | refine below_setRow ?_ (by first | omega | (simp; done) | (simp; omega)) _ | refine bl_drewN ?_ _ | refine Below.drew ?_ | (refine bl_tr ?_ (by assumption)))))).trans hk)); clear hs hk))
    go_end0
    exact ⟨rfl, FN.out _ WY.out.1 WY.out.2, WY.out.2⟩

/-- the reachable instruction that falls off the end, or -1 -/
noncomputable def openC (c : CodeD) : Int := if 0 < c.ins.length ∧ fallsM (c.ins.getD (c.ins.length - 1) default).op = true ∧ (reachC c).getD (c.ins.length - 1) false = true then (c.ins.length : Int) - 1 else -1
set_option maxRecDepth 100000 in
set_option maxHeartbeats 8000000 in
theorem open_any (c : CodeD) (hr : rightC c = true) (i p k g : Value) (hc : c.ok) (w : World) (h : Cd4 w i p k g c) :
    Calls Try.prog 24 #[codeV c.nm c.kd c.ln c.rg i p k g] w fun e w' => e = .returned (.int .i64 (openC c)) ∧ Below w.heap.size w w' := by
  obtain ⟨A1, c1, A2, c2, A3, c3, A4, c4, rfl, rfl, rfl, rfl⟩ := h.forms
  have RT := Lib.hid (fun W hW => reaches_any c (.slice A1 c.ins.length c1) (.slice A2 c.pl.length c2) (.slice A3 c.ks.length c3) (.slice A4 c.gs.length c4) hc W (h.below hW) : ∀ W, Below w.heap.size w W → _)
  have hn := rightC_len hr
  by_cases h0 : c.ins.length = 0
  · have RS := Lib.hid (show openC c = -1 by unfold openC; rw [if_neg (by omega)])
    rw [RS.out]
    have z0 : (c.ins.length : Int) = 0 := by omega
    rw [h0]
    clear h hc hr RT h0 z0 hn
    go_enter Try.func24, Try.ntmps24
    go_wp2
    all_goals go_ret
    all_goals exact ⟨rfl, by (repeat (with_reducible first | exact Below.refl _ _ | (refine bl_set ?_ (by first | omega | (simp; done) | (simp; omega)) _) | refine bl_gr ?_ _ | refine bl_al ?_ _ | refine below_setRow ?_ (by first | omega | (simp; done) | (simp; omega)) _ | refine bl_drewN ?_ _ | refine Below.drew ?_ | (refine bl_tr ?_ (by assumption))))⟩
  · obtain ⟨m, hm⟩ : ∃ m, c.ins.length = m + 1 := ⟨c.ins.length - 1, by omega⟩
    have em : wrap64 ((c.ins.length : Int) - 1) = (m : Int) := w64c (by omega) (by omega)
    obtain ⟨x, hx⟩ : ∃ x, c.ins[m]? = some x := ⟨_, List.getElem?_eq_getElem (by rw [hm]; omega)⟩
    obtain ⟨b, off, cap', e1, lb, f0, f1, f2, f3⟩ := at_In h.i hx
    simp only [Value.slice.injEq] at e1
    obtain ⟨rfl, _, rfl⟩ := e1
    have FL := Lib.hid (falls_any x.op)
    have EX := Lib.hid (show c.ins.getD (c.ins.length - 1) default = x by rw [hm, Nat.add_sub_cancel, List.getD_eq_getElem?_getD, hx]; rfl)
    have HM := Lib.hid hm
    have RL := Lib.hid (show (reachC c).length = c.ins.length by unfold reachC; rw [hr]; exact rchL_len)
    clear hx
    have q1 : ¬ (m : Int) < 0 := by clear em; omega
    have q2 : (m : Int) < (c.ins.length : Int) := by clear em; omega
    have lbn : ∀ u, b < w.heap.size + u := fun u => Nat.lt_of_lt_of_le lb (Nat.le_add_right _ _)
    cases hf : fallsM x.op
    · have RS := Lib.hid (show openC c = -1 by unfold openC; rw [EX.out, hf, if_neg (by simp)])
      rw [RS.out]
      rw [hf] at FL
      clear h hc hr RT h0 hn hm hf
      go_enter Try.func24, Try.ntmps24
      go_wp2_with (go_at_call 19; refine (FL.out _).mono ?_; rintro e w' ⟨rfl, rfl⟩)
      all_goals go_ret
      all_goals exact ⟨rfl, by (repeat (with_reducible first | exact Below.refl _ _ | (refine bl_set ?_ (by first | omega | (simp; done) | (simp; omega)) _) | refine bl_gr ?_ _ | refine bl_al ?_ _ | refine below_setRow ?_ (by first | omega | (simp; done) | (simp; omega)) _ | refine bl_drewN ?_ _ | refine Below.drew ?_ | (refine bl_tr ?_ (by assumption))))⟩
    · obtain ⟨r, er⟩ : ∃ r, r = (reachC c).getD m false := ⟨_, rfl⟩
      have RS := Lib.hid (show openC c = if r = true then (m : Int) else -1 by
        unfold openC
        rw [EX.out, hf, show c.ins.length - 1 = m by clear em; omega, ← er, show (c.ins.length : Int) - 1 = (m : Int) by clear em; omega]
        cases r
        · simp
        · rw [if_pos ⟨by clear em; omega, rfl, rfl⟩]; rfl)
      have RB := Lib.hid (fun (w3 : World) (v : Value) (hB : IsB w3 v (reachC c)) => by
        have hl := RL.out
        obtain ⟨b5, off5, cap5, e5, _, lb5, h5⟩ := hB.at_ (by rw [hl, hm]; exact Nat.succ_pos m)
        rw [hl] at e5
        refine ⟨b5, off5, cap5, e5, lb5, ?_⟩
        have := h5 m r (by rw [er, List.getD_eq_getElem?_getD, List.getElem?_eq_getElem (by rw [hl, hm]; exact Nat.lt_succ_self m)]; rfl) 0 _ rfl
        simpa using this : ∀ (w3 : World) (v : Value), IsB w3 v (reachC c) → ∃ b5 off5 cap5, v = .slice (some ⟨b5, off5, none⟩) c.ins.length cap5 ∧ b5 < w3.heap.size ∧ w3.cell? ⟨b5, off5 + m, none⟩ = some (.bool r))
      rw [hf] at FL
      clear h hc hr h0 hn hm hf er
      cases r
      all_goals
        go_enter Try.func24, Try.ntmps24
        go_wp2_with (first | (go_at_call 19; refine (FL.out _).mono ?_; rintro e w' ⟨rfl, rfl⟩) | (go_at_call 10; go_loud (refine (RT.out _ (by (repeat (with_reducible first | exact Below.refl _ _ | (refine bl_set ?_ (by first | omega | (simp; done) | (simp; omega)) _) | refine bl_gr ?_ _ | refine bl_al ?_ _ | refine below_setRow ?_ (by first | omega | (simp; done) | (simp; omega)) _ | refine bl_drewN ?_ _ | refine Below.drew ?_ | (refine bl_tr ?_ (by assumption)))))).mono ?_; rintro e w3 ⟨v, rfl, hB, hb⟩; obtain ⟨b5, off5, cap5, rfl, lb5, c5⟩ := RB.out w3 v hB; have B3 := Lib.hid (bl_tr (show Below w.heap.size w _ by (repeat (with_reducible first | exact Below.refl _ _ | (refine bl_set ?_ (by first | omega | (simp; done) | (simp; omega)) _) | refine bl_gr ?_ _ | refine bl_al ?_ _ | refine below_setRow ?_ (by first | omega | (simp; done) | (simp; omega)) _ | refine bl_drewN ?_ _ | refine Below.drew ?_ | (refine bl_tr ?_ (by assumption))))) hb); clear hB hb)))
        all_goals go_ret
        all_goals exact ⟨ret_int (by rw [RS.out]; rfl), B3.out⟩
end Go.Proofs.Ytcmpgohpncnagaa
