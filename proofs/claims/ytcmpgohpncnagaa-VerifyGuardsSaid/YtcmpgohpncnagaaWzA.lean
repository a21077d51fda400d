/- The reference's ways and behind. -/
import Derived.Test.YtcmpgohpncnagaaWyG
import Derived.Test.YtcmpgohpncnagaaCdU
namespace Go.Proofs.Ytcmpgohpncnagaa
set_option linter.all false
open Go.ChangeShapes Go.WideShapes Go.ChangeAt Go.RowKit Go.Sort Go.Deep Go.Shelf

abbrev IsN (w : World) (v : Value) (l : List Nat) : Prop := SlOf w 1 enN v l
/-- the successors as the reference lists them: also one past the end, no handlers -/
def rwlC (a : Nat) (x : InsD) : List Nat := (if fallsM x.op = true then [a + 1] else []) ++ jkC x 3
structure RwI (w : World) (x : InsD) (lv : Value) (l : List Nat) (Z : World) : Prop where
  own : OwnI Z lv l
  hb : ∀ g, lv.ownBlock = some g → w.heap.size + 2 ≤ g
  io : Z.heap[w.heap.size + 1]? = some (InO x)
  lo : Below w.heap.size w Z
  sz : w.heap.size + 2 ≤ Z.heap.size
theorem RwI.grow {w : World} {x : InsD} {lv : Value} {l : List Nat} {Z Y : World} (h : RwI w x lv l Z) (hb : Below Z.heap.size Z Y) : RwI w x lv l Y :=
  ⟨ownsRow_below h.own hb, h.hb, (hb.block _ (Array.getElem?_eq_some_iff.1 h.io).1).trans h.io, bl_tr h.lo hb, Nat.le_trans h.sz hb.size⟩
theorem RwI.app {w : World} {x : InsD} {lv : Value} {l : List Nat} {Z Y w5 : World} (h : RwI w x lv l Z) (hb : Below Z.heap.size Z Y) {g' cap' m : Nat} {t : Nat} (o5 : OwnI w5 (.slice (some ⟨g', 0, none⟩) m cap') (l ++ [t])) (g5 : Y.grownBy w5 lv.ownBlock) (d5 : lv.ownBlock = some g' ∨ g' = Y.heap.size) : RwI w x (.slice (some ⟨g', 0, none⟩) m cap') (l ++ [t]) w5 := by
  have hY := h.grow hb
  have hs := hY.sz
  have hlow : Below (w.heap.size + 2) Y w5 := ⟨g5.os, g5.tape, g5.output, g5.size, fun k hk => g5.block k (by omega) (fun e => by have := h.hb k e.symm; omega)⟩
  refine ⟨o5, fun g hg => ?_, (hlow.block _ (by omega)).trans hY.io, hY.lo.trans (hlow.mono (by omega)), Nat.le_trans hs g5.size⟩
  simp only [Value.ownBlock, Option.some.injEq] at hg
  rcases d5 with d | d
  · have := h.hb g' d
    omega
  · omega
def RetN (w : World) (l : List Nat) (e : Ending) (w' : World) : Prop := ∃ v, e = .returned v ∧ OwnI w' v l ∧ (∀ g, v.ownBlock = some g → w.heap.size ≤ g) ∧ Below w.heap.size w w'
theorem RwI.ret {w : World} {x : InsD} {lv : Value} {l k : List Nat} {Z : World} (h : RwI w x lv l Z) (e : k = l) : RetN w k (.returned lv) Z := ⟨lv, rfl, by rw [e]; exact h.own, fun g hg => by have := h.hb g hg; omega, h.lo⟩
theorem ite_nil (P Q : Prop) [Decidable P] [Decidable Q] (l : List Nat) (h : P ↔ Q) : (if P then l else []) = (if Q then l else []) := by
  by_cases hp : P
  · rw [if_pos hp, if_pos (h.1 hp)]
  · rw [if_neg hp, if_neg (fun q => hp (h.2 q))]
set_option maxRecDepth 100000 in
set_option maxHeartbeats 16000000 in
theorem rways_any (c : CodeD) (i p k g : Value) (at_ : Nat) (x : InsD) (hx : c.ins[at_]? = some x) (hop : 0 ≤ x.op ∧ x.op < 55) (hj : ∀ j, sgn x.op j = 106 → 0 ≤ opd x j) (w : World) (h : Cd4 w i p k g c) :
    Calls Try.prog 23 #[codeV c.nm c.kd c.ln c.rg i p k g, .int .i64 (at_ : Int)] w (RetN w (rwlC at_ x)) := by
  obtain ⟨A1, c1, A2, c2, A3, c3, A4, c4, rfl, rfl, rfl, rfl⟩ := h.forms
  have hlt := (List.getElem?_eq_some_iff.1 hx).1
  obtain ⟨_, _, _, _, hm⟩ := h.i.form
  obtain ⟨b, off, cap', e1, lb, h0, h1, h2, h3⟩ := at_In h.i hx
  simp only [Value.slice.injEq] at e1
  obtain ⟨rfl, _, rfl⟩ := e1
  obtain ⟨b0, b1, b2, hp, s0, s1, s2, -⟩ := part_three x.op hop
  have PT := Lib.hid (rparts_any x.op)
  rw [hp] at PT
  have FL := Lib.hid (rfalls_any x.op)
  have q0 : (at_ : Int) < (c.ins.length : Int) := by omega
  have q1 : ¬ (at_ : Int) < 0 := by omega
  have tb : ∀ b : UInt8, (((b.toNat : Int) == 106) = true ↔ b.toNat = 106) := fun b => by simp; omega
  have RS := Lib.hid (show rwlC at_ x = (if fallsM x.op = true then [at_ + 1] else []) ++ ((if ((((⟨#[b0, b1, b2]⟩ : ByteArray)[0]'(show 0 < 3 by decide)).toNat : Int) == 106) = true then [x.a.toNat] else []) ++ ((if ((((⟨#[b0, b1, b2]⟩ : ByteArray)[1]'(show 1 < 3 by decide)).toNat : Int) == 106) = true then [x.b.toNat] else []) ++ (if ((((⟨#[b0, b1, b2]⟩ : ByteArray)[2]'(show 2 < 3 by decide)).toNat : Int) == 106) = true then [x.c.toNat] else []))) by
    unfold rwlC
    rw [show jkC x 3 = joC x 0 ++ (joC x 1 ++ (joC x 2 ++ [])) from rfl, List.append_nil]
    unfold joC
    rw [s0, s1, s2]
    congr 1
    congr 1
    · exact ite_nil _ _ _ (tb b0).symm
    · congr 1
      · exact ite_nil _ _ _ (tb b1).symm
      · exact ite_nil _ _ _ (tb b2).symm)
  have E0 := Lib.hid (fun hh => Int.toNat_of_nonneg (hj 0 (by rw [s0]; exact (tb b0).1 hh)) : ((((⟨#[b0, b1, b2]⟩ : ByteArray)[0]'(show 0 < 3 by decide)).toNat : Int) == 106) = true → (x.a.toNat : Int) = x.a)
  have E1 := Lib.hid (fun hh => Int.toNat_of_nonneg (hj 1 (by rw [s1]; exact (tb b1).1 hh)) : ((((⟨#[b0, b1, b2]⟩ : ByteArray)[1]'(show 1 < 3 by decide)).toNat : Int) == 106) = true → (x.b.toNat : Int) = x.b)
  have E2 := Lib.hid (fun hh => Int.toNat_of_nonneg (hj 2 (by rw [s2]; exact (tb b2).1 hh)) : ((((⟨#[b0, b1, b2]⟩ : ByteArray)[2]'(show 2 < 3 by decide)).toNat : Int) == 106) = true → (x.c.toNat : Int) = x.c)
  obtain ⟨t, ht, et⟩ : ∃ t : Nat, t = at_ + 1 ∧ wrap64 ((at_ : Int) + 1) = (t : Int) := ⟨at_ + 1, rfl, w64c rfl (by unfold maxLen at hm; omega)⟩
  rw [← ht] at RS
  clear h hx hop hj hlt hm hp s0 s1 s2 tb ht
  generalize hTF : fallsM x.op = TF at RS FL
  generalize hT0 : ((((⟨#[b0, b1, b2]⟩ : ByteArray)[0]'(show 0 < 3 by decide)).toNat : Int) == 106) = T0 at RS E0
  generalize hT1 : ((((⟨#[b0, b1, b2]⟩ : ByteArray)[1]'(show 1 < 3 by decide)).toNat : Int) == 106) = T1 at RS E1
  generalize hT2 : ((((⟨#[b0, b1, b2]⟩ : ByteArray)[2]'(show 2 < 3 by decide)).toNat : Int) == 106) = T2 at RS E2
  clear hTF
  cases TF <;> cases T0 <;> cases T1 <;> cases T2
  all_goals
    go_enter Try.func23, Try.ntmps23
    go_upto_region 3 with fail
    refine wpc_world (RwI w x (.slice none 0 0) []) ⟨⟨rfl, .inl ⟨rfl, rfl⟩⟩, fun g hg => (by simp [Value.ownBlock] at hg), (by have := heap_alloc_new (w.alloc (codeO c.nm c.kd c.ln c.rg (.slice (some ⟨b, off, none⟩) c.ins.length c1) (.slice A2 c.pl.length c2) (.slice A3 c.ks.length c3) (.slice A4 c.gs.length c4))) (InO x); simpa using this), bl_al (bl_al (Below.refl _ _) _) _, by simp⟩ ?_
    intro X hX
    have RW := Lib.hid hX
    obtain ⟨⟨f0, f1, f2, f3⟩, -⟩ := cells_In hX.io
    have l1 := (Array.getElem?_eq_some_iff.1 hX.io).1
    clear hX h0 h1 h2 h3
    go_wp2_with (first | (go_at_call 51; refine (callGr (PT.out _)).mono ?_; rintro e w' ⟨pp, rfl, rfl⟩) | (go_at_call 52; refine (callGr (FL.out _)).mono ?_; rintro e w' ⟨pp, rfl, rfl⟩) | (at_builtin; first | (refine wpList_appI rfl _ _ rfl _ t rfl rfl (RW.out.grow (by (repeat (with_reducible first | exact Below.refl _ _ | (refine bl_set ?_ (by first | omega | (simp; done) | (simp; omega)) _) | refine bl_gr ?_ _ | refine bl_al ?_ _ | refine below_setRow ?_ (by first | omega | (simp; done) | (simp; omega)) _ | refine bl_drewN ?_ _ | refine Below.drew ?_ | (refine bl_tr ?_ (by assumption)))))).own (by first | exact heap_alloc_new _ _ | (rw [← gr_size]; exact heap_alloc_new _ _)) (by simp) ?_; intro g' cap' w5 o5 g5 d5; have RX := Lib.hid (RW.out.app (by (repeat (with_reducible first | exact Below.refl _ _ | (refine bl_set ?_ (by first | omega | (simp; done) | (simp; omega)) _) | refine bl_gr ?_ _ | refine bl_al ?_ _ | refine below_setRow ?_ (by first | omega | (simp; done) | (simp; omega)) _ | refine bl_drewN ?_ _ | refine Below.drew ?_ | (refine bl_tr ?_ (by assumption))))) o5 g5 d5); clear RW o5 g5 d5; have RW := RX; clear RX; obtain ⟨⟨f0, f1, f2, f3⟩, -⟩ := cells_In RW.out.io; have l1 := (Array.getElem?_eq_some_iff.1 RW.out.io).1) | (refine wpList_appI rfl _ _ rfl _ x.a.toNat rfl rfl (RW.out.grow (by (repeat (with_reducible first | exact Below.refl _ _ | (refine bl_set ?_ (by first | omega | (simp; done) | (simp; omega)) _) | refine bl_gr ?_ _ | refine bl_al ?_ _ | refine below_setRow ?_ (by first | omega | (simp; done) | (simp; omega)) _ | refine bl_drewN ?_ _ | refine Below.drew ?_ | (refine bl_tr ?_ (by assumption)))))).own (by rw [E0.out (by simp)]; first | exact heap_alloc_new _ _ | (rw [← gr_size]; exact heap_alloc_new _ _)) (by simp) ?_; intro g' cap' w5 o5 g5 d5; have RX := Lib.hid (RW.out.app (by (repeat (with_reducible first | exact Below.refl _ _ | (refine bl_set ?_ (by first | omega | (simp; done) | (simp; omega)) _) | refine bl_gr ?_ _ | refine bl_al ?_ _ | refine below_setRow ?_ (by first | omega | (simp; done) | (simp; omega)) _ | refine bl_drewN ?_ _ | refine Below.drew ?_ | (refine bl_tr ?_ (by assumption))))) o5 g5 d5); clear RW o5 g5 d5; have RW := RX; clear RX; obtain ⟨⟨f0, f1, f2, f3⟩, -⟩ := cells_In RW.out.io; have l1 := (Array.getElem?_eq_some_iff.1 RW.out.io).1) | (refine wpList_appI rfl _ _ rfl _ x.b.toNat rfl rfl (RW.out.grow (by (repeat (with_reducible first | exact Below.refl _ _ | (refine bl_set ?_ (by first | omega | (simp; done) | (simp; omega)) _) | refine bl_gr ?_ _ | refine bl_al ?_ _ | refine below_setRow ?_ (by first | omega | (simp; done) | (simp; omega)) _ | refine bl_drewN ?_ _ | refine Below.drew ?_ | (refine bl_tr ?_ (by assumption)))))).own (by rw [E1.out (by simp)]; first | exact heap_alloc_new _ _ | (rw [← gr_size]; exact heap_alloc_new _ _)) (by simp) ?_; intro g' cap' w5 o5 g5 d5; have RX := Lib.hid (RW.out.app (by (repeat (with_reducible first | exact Below.refl _ _ | (refine bl_set ?_ (by first | omega | (simp; done) | (simp; omega)) _) | refine bl_gr ?_ _ | refine bl_al ?_ _ | refine below_setRow ?_ (by first | omega | (simp; done) | (simp; omega)) _ | refine bl_drewN ?_ _ | refine Below.drew ?_ | (refine bl_tr ?_ (by assumption))))) o5 g5 d5); clear RW o5 g5 d5; have RW := RX; clear RX; obtain ⟨⟨f0, f1, f2, f3⟩, -⟩ := cells_In RW.out.io; have l1 := (Array.getElem?_eq_some_iff.1 RW.out.io).1) | (refine wpList_appI rfl _ _ rfl _ x.c.toNat rfl rfl (RW.out.grow (by (repeat (with_reducible first | exact Below.refl _ _ | (refine bl_set ?_ (by first | omega | (simp; done) | (simp; omega)) _) | refine bl_gr ?_ _ | refine bl_al ?_ _ | refine below_setRow ?_ (by first | omega | (simp; done) | (simp; omega)) _ | refine bl_drewN ?_ _ | refine Below.drew ?_ | (refine bl_tr ?_ (by assumption)))))).own (by rw [E2.out (by simp)]; first | exact heap_alloc_new _ _ | (rw [← gr_size]; exact heap_alloc_new _ _)) (by simp) ?_; intro g' cap' w5 o5 g5 d5; have RX := Lib.hid (RW.out.app (by (repeat (with_reducible first | exact Below.refl _ _ | (refine bl_set ?_ (by first | omega | (simp; done) | (simp; omega)) _) | refine bl_gr ?_ _ | refine bl_al ?_ _ | refine below_setRow ?_ (by first | omega | (simp; done) | (simp; omega)) _ | refine bl_drewN ?_ _ | refine Below.drew ?_ | (refine bl_tr ?_ (by assumption))))) o5 g5 d5); clear RW o5 g5 d5; have RW := RX; clear RX; obtain ⟨⟨f0, f1, f2, f3⟩, -⟩ := cells_In RW.out.io; have l1 := (Array.getElem?_eq_some_iff.1 RW.out.io).1)))
    go_ret
    first
      | exact RwI.ret RW.out (show rwlC at_ x = _ from (by rw [RS.out]; try rfl))
      | exact RwI.ret (RW.out.grow (by (repeat (with_reducible first | exact Below.refl _ _ | (refine bl_set ?_ (by first | omega | (simp; done) | (simp; omega)) _) | refine bl_gr ?_ _ | refine bl_al ?_ _ | refine below_setRow ?_ (by first | omega | (simp; done) | (simp; omega)) _ | refine bl_drewN ?_ _ | refine Below.drew ?_ | (refine bl_tr ?_ (by assumption)))))) (show rwlC at_ x = _ from (by rw [RS.out]; try rfl))
theorem beh_name (op : Int) : ((nameM op).toList == [101, 110, 116, 101, 114]) = (op == 50) ∧ ((nameM op).toList == [108, 101, 97, 118, 101]) = (op == 51) := by
  by_cases h : 0 ≤ op ∧ op < 55
  · obtain ⟨n, rfl⟩ : ∃ n : Nat, op = (n : Int) := ⟨op.toNat, by omega⟩
    have hn : n < 55 := by omega
    have : ∀ i : Fin 55, ((nameM (i.val : Int)).toList == [101, 110, 116, 101, 114]) = ((i.val : Int) == 50) ∧ ((nameM (i.val : Int)).toList == [108, 101, 97, 118, 101]) = ((i.val : Int) == 51) := by decide +kernel
    exact this ⟨n, hn⟩
  · rw [show nameM op = ⟨#[]⟩ by unfold nameM; rw [if_neg h], ByteArray.toList_eq]
    have h1 : (op == 50) = false := by simp; omega
    have h2 : (op == 51) = false := by simp; omega
    rw [h1, h2]
    exact ⟨rfl, rfl⟩
set_option maxRecDepth 100000 in
set_option maxHeartbeats 8000000 in
theorem rbehind_any (op d : Int) (w : World) : Calls Try.prog 54 #[.int .i64 op, .int .i64 d] w fun e w' => e = .returned (.int .i64 (behM op d)) ∧ Below w.heap.size w w' := by
  have RS := Lib.hid (show behM op d = if op == 50 then wrap64 (d + 1) else if op == 51 then wrap64 (d - 1) else d from rfl)
  have RN := Lib.hid (rname_any op)
  obtain ⟨h1, h2⟩ := beh_name op
  rw [RS.out, ← h1, ← h2]
  generalize nameM op = nm at *
  clear h1 h2
  cases g1 : (nm.toList == [101, 110, 116, 101, 114])
  · cases g2 : (nm.toList == [108, 101, 97, 118, 101])
    all_goals
      go_enter Try.func54, Try.ntmps54
      go_wp2_with (go_at_call 73; refine (callGr (RN.out _)).mono ?_; rintro e w' ⟨pp, rfl, rfl⟩)
      all_goals go_ret
      all_goals exact ⟨ret_int (by simp), by (repeat (with_reducible first | exact Below.refl _ _ | (refine bl_set ?_ (by first | omega | (simp; done) | (simp; omega)) _) | refine bl_gr ?_ _ | refine bl_al ?_ _ | refine below_setRow ?_ (by first | omega | (simp; done) | (simp; omega)) _ | refine bl_drewN ?_ _ | refine Below.drew ?_ | (refine bl_tr ?_ (by assumption))))⟩
  · go_enter Try.func54, Try.ntmps54
    go_wp2_with (go_at_call 73; refine (callGr (RN.out _)).mono ?_; rintro e w' ⟨pp, rfl, rfl⟩)
    all_goals go_ret
    all_goals exact ⟨ret_int (by simp), by (repeat (with_reducible first | exact Below.refl _ _ | (refine bl_set ?_ (by first | omega | (simp; done) | (simp; omega)) _) | refine bl_gr ?_ _ | refine bl_al ?_ _ | refine below_setRow ?_ (by first | omega | (simp; done) | (simp; omega)) _ | refine bl_drewN ?_ _ | refine Below.drew ?_ | (refine bl_tr ?_ (by assumption))))⟩
end Go.Proofs.Ytcmpgohpncnagaa
