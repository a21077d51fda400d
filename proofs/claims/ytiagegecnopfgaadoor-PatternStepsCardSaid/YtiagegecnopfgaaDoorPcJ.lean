/- The law PatternSteps, walked. -/
import Derived.Test.YtiagegecnopfgaaDoorPcI
import Derived.Test.YtiagegecnopfgaaDoorPbA
namespace Go.Proofs.YtiagegecnopfgaaDoor
set_option linter.all false
open Go.ChangeShapes Go.WideShapes Go.ChangeAt Go.RowKit Go.Sort Go.Deep

/-- the blocks of Y stand -/
def Old (Y V : World) : Prop := Y.heap.size ≤ V.heap.size ∧ ∀ b, b < Y.heap.size → V.heap[b]? = Y.heap[b]?
theorem Old.refl (Y : World) : Old Y Y := ⟨Nat.le_refl _, fun _ _ => rfl⟩
theorem Old.below {Y V U : World} (h : Old Y V) (hb : Below V.heap.size V U) : Old Y U := ⟨Nat.le_trans h.1 hb.size, fun b hl => (hb.block b (Nat.lt_of_lt_of_le hl h.1)).trans (h.2 b hl)⟩
theorem Old.tk {Y V U : World} {hi : Nat} (h : Old Y V) (k : TK Y.heap.size hi V U) : Old Y U := ⟨Nat.le_trans h.1 k.size, fun b hl => (k.out (Nat.lt_of_lt_of_le hl h.1) (by omega)).trans (h.2 b hl)⟩
theorem IsNd.old {P : Nat → Prop} {Y V : World} {v : Value} {l : List Tree} (h : IsNd P Y v l) (o : Old Y V) : IsNd (fun b => b < Y.heap.size) V v l := h.lt.keep o.1 fun b hb _ => ⟨o.2 b hb, hb⟩
/-- what the program's Steps answers, by its parts -/
def RetSL (l : List StepD) (a b : Int) (V : World) (e : Ending) (Z : World) : Prop := ∃ (B : Option Addr) (k : Nat), e = .returned (.tuple #[.slice B l.length k, .int .i64 a, .int .i64 b]) ∧ IsSt V.heap.size Z (.slice B l.length k) l ∧ Below V.heap.size V Z
theorem RetSt.sl {V Z : World} {t : Tree} {e : Ending} {l : List StepD} {a b : Int} (h : RetSt V t e Z) (hs : stepsT t = (l, a, b)) : RetSL l a b V e Z := by
  obtain ⟨v, h1, h2, h3⟩ := h
  rw [hs] at h1 h2
  obtain ⟨B, k, rfl⟩ := h2.form
  exact ⟨B, k, h1, h2, h3⟩
def RetRL (E : Nat → Prop) (lo : Nat) (l : List StepD) (a b : Int) (X : World) (e : Ending) (Y : World) : Prop := ∃ (B : Option Addr) (n c : Nat) (rs : List StepR), e = .returned (.tuple #[.slice B n c, .int .i64 a, .int .i64 b]) ∧ RowR E lo (.slice B n c) n rs Y ∧ rs.map (·.d) = l ∧ Below X.heap.size X Y ∧ ∀ g, (Value.slice B n c).ownBlock = some g → X.heap.size ≤ g
theorem RetRS.rl {E : Nat → Prop} {lo : Nat} {X Y : World} {t : Tree} {e : Ending} {l : List StepD} {a b : Int} (h : RetRS E lo X t e Y) (hs : stepsT t = (l, a, b)) : RetRL E lo l a b X e Y := by
  unfold RetRS at h
  rw [hs] at h
  exact h
set_option maxRecDepth 100000 in
set_option maxHeartbeats 32000000 in
theorem patSteps_any (p : Tree) (A : Option Addr) (c : Nat) (w : World) (hp : IsNd anyB w (.slice A p.kids.length c) p.kids) (op : OkK [p]) (ht : PowTab w) :
    Calls Tryd.prog 3 #[nodeV p (.slice A p.kids.length c)] w fun e w' => e = .returned (.bool true) ∧ Below w.heap.size w w' := by
  by_cases h1 : 3000 ≤ sizeT p
  · have GO := Lib.hid (fun V (hV : Below w.heap.size w V) => goes_any V (ht.bel hV))
    have SP := Lib.hid (fun V (hV : Below w.heap.size w V) => size_ge (m := 3000) (by omega) (hp.bel hV) h1)
    clear hp op ht h1
    go_enter Tryd.func3, Tryd.ntmps3
    go_wp2_with (first | (go_at_call 7; refine (callGr (SP.out _ (by (repeat (with_reducible first | exact Below.refl _ _ | (refine bl_set ?_ (by first | omega | (simp; done) | (simp; omega)) _) | refine bl_gr ?_ _ | refine bl_al ?_ _ | refine below_setRow ?_ (by first | omega | (simp; done) | (simp; omega)) _ | refine bl_drewN ?_ _ | refine Below.drew ?_ | (refine bl_tr ?_ (by assumption))))))).mono ?_; rintro e w' ⟨pp, rfl, rfl⟩) | (go_at_call 8; refine (callGr (GO.out _ (by (repeat (with_reducible first | exact Below.refl _ _ | (refine bl_set ?_ (by first | omega | (simp; done) | (simp; omega)) _) | refine bl_gr ?_ _ | refine bl_al ?_ _ | refine below_setRow ?_ (by first | omega | (simp; done) | (simp; omega)) _ | refine bl_drewN ?_ _ | refine Below.drew ?_ | (refine bl_tr ?_ (by assumption))))))).mono ?_; rintro e w' ⟨pp, rfl, rfl⟩))
    go_ret
    exact ⟨rfl, by (repeat (with_reducible first | exact Below.refl _ _ | (refine bl_set ?_ (by first | omega | (simp; done) | (simp; omega)) _) | refine bl_gr ?_ _ | refine bl_al ?_ _ | refine below_setRow ?_ (by first | omega | (simp; done) | (simp; omega)) _ | refine bl_drewN ?_ _ | refine Below.drew ?_ | (refine bl_tr ?_ (by assumption))))⟩
  have SP := Lib.hid (fun V (hV : Below w.heap.size w V) => size_lt (m := 3000) (by omega) (hp.bel hV) h1)
  have q1 : ¬ (3000 : Int) ≤ (sizeT p : Int) := by omega
  have ZS := Lib.hid (show sizeT p ≤ 99999 ∧ sizeT p ≤ 100000 by omega)
  obtain ⟨l, rg, er, hs⟩ : ∃ l a b, stepsT p = (l, a, b) := ⟨_, _, _, rfl⟩
  have LL := Lib.hid (show l.length ≤ 900000 from by have h2 := steps_len p; rw [hs] at h2; simp only at h2; omega)
  have ST := Lib.hid hs
  have T0 := Lib.hid (OneB.start w (nodeO p (.slice A p.kids.length c)))
  have HP := Lib.hid (And.intro hp (And.intro op ht))
  clear hp op ht h1 hs
  go_enter Tryd.func3, Tryd.ntmps3
  go_upto_region 3 with (go_at_call 7; refine (callGr (SP.out _ (by (repeat (with_reducible first | exact Below.refl _ _ | (refine bl_set ?_ (by first | omega | (simp; done) | (simp; omega)) _) | refine bl_gr ?_ _ | refine bl_al ?_ _ | refine below_setRow ?_ (by first | omega | (simp; done) | (simp; omega)) _ | refine bl_drewN ?_ _ | refine Below.drew ?_ | (refine bl_tr ?_ (by assumption))))))).mono ?_; rintro e w' ⟨pp, rfl, rfl⟩)
  refine wpd_world (fun X => OneB w X (nodeO p (.slice A p.kids.length c))) (T0.out.step (by (repeat (with_reducible first | exact Below.refl _ _ | (refine bl_set ?_ (by first | omega | (simp; done) | (simp; omega)) _) | refine bl_gr ?_ _ | refine bl_al ?_ _ | refine below_setRow ?_ (by first | omega | (simp; done) | (simp; omega)) _ | refine bl_drewN ?_ _ | refine Below.drew ?_ | (refine bl_tr ?_ (by assumption)))))) ?_
  intro X hX
  have XB := Lib.hid hX
  obtain ⟨⟨a0, a1, a2, a3, a4, a5⟩, _⟩ := cells6n hX.1
  have l0 := hX.lt
  clear hX T0 SP q1
  go_upto_region 4 with (go_at_call 9; go_loud (refine (copy4_any anyB p A c X ZS.out.1 (HP.out.1.bel XB.out.2)).mono ?_; rintro e1 Y1 ⟨A5, c5, rfl, n5, y5⟩; have N5 := Lib.hid (And.intro n5 y5); clear n5 y5))
  refine wpd_world (fun Y => Y.heap[w.heap.size]? = some (nodeO p (.slice A p.kids.length c)) ∧ Y.heap[Y1.heap.size]? = some (nodeO p (.slice A5 p.kids.length c5)) ∧ Below Y1.heap.size Y1 Y) ⟨(heap_alloc_old _ _ (Nat.lt_of_lt_of_le XB.out.lt N5.out.2.size)).trans ((N5.out.2.block _ XB.out.lt).trans XB.out.1), heap_alloc_new _ _, by (repeat (with_reducible first | exact Below.refl _ _ | (refine bl_set ?_ (by first | omega | (simp; done) | (simp; omega)) _) | refine bl_gr ?_ _ | refine bl_al ?_ _ | refine below_setRow ?_ (by first | omega | (simp; done) | (simp; omega)) _ | refine bl_drewN ?_ _ | refine Below.drew ?_ | (refine bl_tr ?_ (by assumption))))⟩ ?_
  intro Y hY
  have YX := Lib.hid (show Below w.heap.size w Y from bl_tr (bl_tr XB.out.2 N5.out.2) hY.2.2)
  have NP := Lib.hid (show IsNd (fun b => b < Y.heap.size) Y (.slice A p.kids.length c) p.kids from (HP.out.1.bel YX.out).lt)
  have NO := Lib.hid (show IsNd (fun b => b < Y.heap.size) Y (.slice A5 p.kids.length c5) p.kids from (N5.out.1.bel hY.2.2).lt)
  have PT := Lib.hid (show PowTab Y from HP.out.2.2.bel YX.out)
  have KS := Lib.hid (fun V (hV : Old Y V) => And.intro ((hV.2 _ (Array.getElem?_eq_some_iff.1 hY.1).1).trans hY.1) ((hV.2 _ (Array.getElem?_eq_some_iff.1 hY.2.1).1).trans hY.2.1))
  have GO := Lib.hid (fun V (hV : Old Y V) => goes_any V (PT.out.low hV.2))
  have SP4 := Lib.hid (fun V (hV : Old Y V) => (steps_any p A c V ZS.out.2 (NP.out.old hV).lt HP.out.2.1 (PT.out.low hV.2)).mono fun e Z h => h.sl ST.out)
  have RS5 := Lib.hid (fun V (hV : Old Y V) => (rsteps_any (fun b => b < V.heap.size) Y.heap.size p A5 c5 V ZS.out.2 (fun _ h => h) hV.1 (NO.out.old hV) HP.out.2.1).mono fun e Z h => h.rl ST.out)
  have DP := Lib.hid (fun V (hV : Old Y V) => deep_any _ p A c V ZS.out.2 (NP.out.old hV))
  have DO := Lib.hid (fun V (hV : Old Y V) => deepR_any _ p A5 c5 V ZS.out.2 (NO.out.old hV))
  have EX := Lib.hid (fun V (hV : Old Y V) => exact_any _ _ p A A5 c c5 V (NP.out.old hV) (NO.out.old hV))
  have gd : (deepT p != deepT p) = false := bne_self_eq_false _
  have ge : (er != er) = false := bne_self_eq_false _
  have gn : (rg != rg) = false := bne_self_eq_false _
  clear a0 a1 a2 a3 a4 a5 l0 hY N5 XB HP PT NP NO ST ZS
  obtain ⟨k1, k2⟩ := KS.out Y (Old.refl Y)
  obtain ⟨⟨a0, a1, a2, a3, a4, a5⟩, _⟩ := cells6n k1
  have l0 := (Array.getElem?_eq_some_iff.1 k1).1
  clear k1 k2
  go_upto_region 5 with (go_at_call 10; go_loud (refine (SP4.out _ (Old.refl _)).mono ?_; rintro e1 Z ⟨B1, k1, rfl, s1, z1⟩; have S1 := Lib.hid (And.intro s1 z1); clear s1 z1))
  have OZ := Lib.hid ((Old.refl Y).below S1.out.2)
  clear a0 a1 a2 a3 a4 a5 l0
  obtain ⟨f1, f2⟩ := KS.out Z OZ.out
  obtain ⟨⟨b0, b1, b2, b3, b4, b5⟩, _⟩ := cells6n f2
  have l0 := (Array.getElem?_eq_some_iff.1 f2).1
  clear f1 f2
  go_upto_region 6 with (go_at_call 11; go_loud (refine (RS5.out _ OZ.out).mono ?_; rintro e1 M ⟨B2, n2, k2, rs2, rfl, r2, m2, y2, o2⟩; have R2 := Lib.hid (And.intro r2 (And.intro m2 (And.intro y2 o2))); clear r2 m2 y2 o2))
  clear b0 b1 b2 b3 b4 b5 l0
  have OM := Lib.hid (OZ.out.below R2.out.2.2.1)
  have AS := Lib.hid (fun V (hV : Below M.heap.size M V) => as_any _ l V ((S1.out.1.rd.below R2.out.2.2.1).below hV) LL.out)
  have RM := Lib.hid (show RdL M (.slice B2 n2 k2) l from by have h := R2.out.1.rd; rw [R2.out.2.1] at h; exact h)
  (refine wp_region_held_drew (S := (fun V : World => V.heap[w.heap.size]? = some (nodeO p (.slice A p.kids.length c)) ∧ V.heap[Y1.heap.size]? = some (nodeO p (.slice A5 p.kids.length c5)))) Tryd.mixed (by exact KS.out _ (OM.out.below (Below.drew (Below.refl _ _)))) (fun hS => ?_); (refine wpAnyH_take (i := 0) (v := ?_) rfl (by kernel_rfl) (by kernel_rfl) (by kernel_rfl) (fun _ _ _ h => h) ?_ (by assumption) ?_; rotate_left; (next => (refine Or.inl ⟨by kernel_rfl, ?_⟩; ((intro w hSw; (try dsimp only at hSw); go_simp) <;> with_reducible rfl))); (try simp only [Act.put, List.getElem_toArray, List.getElem_cons_zero, List.getElem_cons_succ, List.setIfInBounds_toArray, List.set_cons_zero, List.set_cons_succ])); (refine wpAnyH_take (i := 2) (v := ?_) rfl (by kernel_rfl) (by kernel_rfl) (by kernel_rfl) (fun _ _ _ h => h) ?_ (by assumption) ?_; rotate_left; (next => (refine Or.inl ⟨by kernel_rfl, ?_⟩; ((intro w hSw; (try dsimp only at hSw); go_simp) <;> with_reducible rfl))); (try simp only [Act.put, List.getElem_toArray, List.getElem_cons_zero, List.getElem_cons_succ, List.setIfInBounds_toArray, List.set_cons_zero, List.set_cons_succ])); refine wpAnyH_ready (rs := [1]) (by kernel_rfl) (by simp) ?_; refine AllReadyH.cons rfl (fun K hK => ?_) AllReadyH.nil; go_simp; ((go_at_call 13; refine (AS.out M.drew (Below.drew (Below.refl _ _))).mono ?_; rintro e w1 ⟨u, rfl, ru, hb⟩; have U1 := Lib.hid ru; have D1 := Lib.hid (show Below M.heap.size M w1 from bl_tr (Below.drew (Below.refl _ _)) hb); clear hb ru)); refine hK.out _ _ (by exact KS.out _ (OM.out.below D1.out)) (fun hS => ?_); clear hK K; (try simp only [Act.put, List.getElem_toArray, List.getElem_cons_zero, List.getElem_cons_succ, List.setIfInBounds_toArray, List.set_cons_zero, List.set_cons_succ]); refine wpAnyH_ready (rs := [3]) (by kernel_rfl) (by simp) ?_; refine AllReadyH.cons rfl (fun K hK => ?_) AllReadyH.nil; go_simp; ((go_at_call 12; refine (same_any u (.slice B2 n2 k2) l w1 U1.out (RM.out.below D1.out)).mono ?_; rintro e w3 ⟨rfl, hb⟩; have D3 := Lib.hid (bl_tr D1.out hb); clear hb)); refine hK.out _ _ (by exact KS.out _ (OM.out.below D3.out)) (fun hS => ?_); clear hK K; (try simp only [Act.put, List.getElem_toArray, List.getElem_cons_zero, List.getElem_cons_succ, List.setIfInBounds_toArray, List.set_cons_zero, List.set_cons_succ]); (refine wpAnyH_take (i := 4) (v := ?_) rfl (by kernel_rfl) (by kernel_rfl) (by kernel_rfl) (fun _ _ _ h => h) ?_ (by assumption) ?_; rotate_left; (next => (refine Or.inl ⟨by kernel_rfl, ?_⟩; ((intro w hSw; (try dsimp only at hSw); go_simp) <;> with_reducible rfl))); (try simp only [Act.put, List.getElem_toArray, List.getElem_cons_zero, List.getElem_cons_succ, List.setIfInBounds_toArray, List.set_cons_zero, List.set_cons_succ])); (refine wpAnyH_take (i := 5) (v := ?_) rfl (by kernel_rfl) (by kernel_rfl) (by kernel_rfl) (fun _ _ _ h => h) ?_ (by assumption) ?_; rotate_left; (next => (refine Or.inl ⟨by kernel_rfl, ?_⟩; ((intro w hSw; (try dsimp only at hSw); go_simp) <;> with_reducible rfl))); (try simp only [Act.put, List.getElem_toArray, List.getElem_cons_zero, List.getElem_cons_succ, List.setIfInBounds_toArray, List.set_cons_zero, List.set_cons_succ])); (refine wpAnyH_take (i := 6) (v := ?_) rfl (by kernel_rfl) (by kernel_rfl) (by kernel_rfl) (fun _ _ _ h => h) ?_ (by assumption) ?_; rotate_left; (next => (refine Or.inl ⟨by kernel_rfl, ?_⟩; ((intro w hSw; (try dsimp only at hSw); go_simp) <;> with_reducible rfl))); (try simp only [Act.put, List.getElem_toArray, List.getElem_cons_zero, List.getElem_cons_succ, List.setIfInBounds_toArray, List.set_cons_zero, List.set_cons_succ])); (refine wpAnyH_take (i := 7) (v := ?_) rfl (by kernel_rfl) (by kernel_rfl) (by kernel_rfl) (fun _ _ _ h => h) ?_ (by assumption) ?_; rotate_left; (next => (refine Or.inl ⟨by kernel_rfl, ?_⟩; ((intro w hSw; (try dsimp only at hSw); go_simp) <;> with_reducible rfl))); (try simp only [Act.put, List.getElem_toArray, List.getElem_cons_zero, List.getElem_cons_succ, List.setIfInBounds_toArray, List.set_cons_zero, List.set_cons_succ])); (refine wpAnyH_take (i := 8) (v := ?_) rfl (by kernel_rfl) (by kernel_rfl) (by kernel_rfl) (fun _ _ _ h => h) ?_ (by assumption) ?_; rotate_left; (next => (refine Or.inl ⟨by kernel_rfl, ?_⟩; ((intro w hSw; (try dsimp only at hSw); go_simp) <;> with_reducible rfl))); (try simp only [Act.put, List.getElem_toArray, List.getElem_cons_zero, List.getElem_cons_succ, List.setIfInBounds_toArray, List.set_cons_zero, List.set_cons_succ])); (refine wpAnyH_take (i := 9) (v := ?_) rfl (by kernel_rfl) (by kernel_rfl) (by kernel_rfl) (fun _ _ _ h => h) ?_ (by assumption) ?_; rotate_left; (next => (refine Or.inl ⟨by kernel_rfl, ?_⟩; ((intro w hSw; (try dsimp only at hSw); go_simp) <;> with_reducible rfl))); (try simp only [Act.put, List.getElem_toArray, List.getElem_cons_zero, List.getElem_cons_succ, List.setIfInBounds_toArray, List.set_cons_zero, List.set_cons_succ])); (refine wpAnyH_take (i := 10) (v := ?_) rfl (by kernel_rfl) (by kernel_rfl) (by kernel_rfl) (fun _ _ _ h => h) ?_ (by assumption) ?_; rotate_left; (next => (refine Or.inl ⟨by kernel_rfl, ?_⟩; ((intro w hSw; (try dsimp only at hSw); go_simp) <;> with_reducible rfl))); (try simp only [Act.put, List.getElem_toArray, List.getElem_cons_zero, List.getElem_cons_succ, List.setIfInBounds_toArray, List.set_cons_zero, List.set_cons_succ])); (refine wpAnyH_take (i := 11) (v := ?_) rfl (by kernel_rfl) (by kernel_rfl) (by kernel_rfl) (fun _ _ _ h => h) ?_ (by assumption) ?_; rotate_left; (next => (refine Or.inl ⟨by kernel_rfl, ?_⟩; ((intro w hSw; (try dsimp only at hSw); go_simp) <;> with_reducible rfl))); (try simp only [Act.put, List.getElem_toArray, List.getElem_cons_zero, List.getElem_cons_succ, List.setIfInBounds_toArray, List.set_cons_zero, List.set_cons_succ])); (refine wpAnyH_take (i := 12) (v := ?_) rfl (by kernel_rfl) (by kernel_rfl) (by kernel_rfl) (fun _ _ _ h => h) ?_ (by assumption) ?_; rotate_left; (next => (refine Or.inl ⟨by kernel_rfl, ?_⟩; ((intro w hSw; (try dsimp only at hSw); go_simp) <;> with_reducible rfl))); (try simp only [Act.put, List.getElem_toArray, List.getElem_cons_zero, List.getElem_cons_succ, List.setIfInBounds_toArray, List.set_cons_zero, List.set_cons_succ])); (refine wpAnyH_take (i := 13) (v := ?_) rfl (by kernel_rfl) (by kernel_rfl) (by kernel_rfl) (fun _ _ _ h => h) ?_ (by assumption) ?_; rotate_left; (next => (refine Or.inl ⟨by kernel_rfl, ?_⟩; ((intro w hSw; (try dsimp only at hSw); go_simp) <;> with_reducible rfl))); (try simp only [Act.put, List.getElem_toArray, List.getElem_cons_zero, List.getElem_cons_succ, List.setIfInBounds_toArray, List.set_cons_zero, List.set_cons_succ])); (refine wpAnyH_take (i := 14) (v := ?_) rfl (by kernel_rfl) (by kernel_rfl) (by kernel_rfl) (fun _ _ _ h => h) ?_ (by assumption) ?_; rotate_left; (next => (refine Or.inl ⟨by kernel_rfl, ?_⟩; ((intro w hSw; (try dsimp only at hSw); go_simp) <;> with_reducible rfl))); (try simp only [Act.put, List.getElem_toArray, List.getElem_cons_zero, List.getElem_cons_succ, List.setIfInBounds_toArray, List.set_cons_zero, List.set_cons_succ])); (refine wpAnyH_take (i := 15) (v := ?_) rfl (by kernel_rfl) (by kernel_rfl) (by kernel_rfl) (fun _ _ _ h => h) ?_ (by assumption) ?_; rotate_left; (next => (refine Or.inl ⟨by kernel_rfl, ?_⟩; ((intro w hSw; (try dsimp only at hSw); go_simp) <;> with_reducible rfl))); (try simp only [Act.put, List.getElem_toArray, List.getElem_cons_zero, List.getElem_cons_succ, List.setIfInBounds_toArray, List.set_cons_zero, List.set_cons_succ])); (refine wpAnyH_take (i := 16) (v := ?_) rfl (by kernel_rfl) (by kernel_rfl) (by kernel_rfl) (fun _ _ _ h => h) ?_ (by assumption) ?_; rotate_left; (next => (refine Or.inl ⟨by kernel_rfl, ?_⟩; ((intro w hSw; (try dsimp only at hSw); (obtain ⟨⟨a0, a1, a2, a3, a4, a5⟩, _⟩ := cells6n hSw.1; obtain ⟨⟨b0, b1, b2, b3, b4, b5⟩, _⟩ := cells6n hSw.2); go_simp) <;> with_reducible rfl))); (try simp only [Act.put, List.getElem_toArray, List.getElem_cons_zero, List.getElem_cons_succ, List.setIfInBounds_toArray, List.set_cons_zero, List.set_cons_succ])); (refine wpAnyH_take (i := 18) (v := ?_) rfl (by kernel_rfl) (by kernel_rfl) (by kernel_rfl) (fun _ _ _ h => h) ?_ (by assumption) ?_; rotate_left; (next => (refine Or.inl ⟨by kernel_rfl, ?_⟩; ((intro w hSw; (try dsimp only at hSw); (obtain ⟨⟨a0, a1, a2, a3, a4, a5⟩, _⟩ := cells6n hSw.1; obtain ⟨⟨b0, b1, b2, b3, b4, b5⟩, _⟩ := cells6n hSw.2); go_simp) <;> with_reducible rfl))); (try simp only [Act.put, List.getElem_toArray, List.getElem_cons_zero, List.getElem_cons_succ, List.setIfInBounds_toArray, List.set_cons_zero, List.set_cons_succ])); refine wpAnyH_ready (rs := [17]) (by kernel_rfl) (by simp) ?_; refine AllReadyH.cons rfl (fun K hK => ?_) AllReadyH.nil; go_simp; ((go_at_call 14; refine (DP.out w3 (OM.out.below D3.out)).mono ?_; rintro e w17 ⟨rfl, hb⟩; have D17 := Lib.hid (bl_tr D3.out hb); clear hb)); refine hK.out _ _ (by exact KS.out _ (OM.out.below D17.out)) (fun hS => ?_); clear hK K; (try simp only [Act.put, List.getElem_toArray, List.getElem_cons_zero, List.getElem_cons_succ, List.setIfInBounds_toArray, List.set_cons_zero, List.set_cons_succ]); refine wpAnyH_ready (rs := [19]) (by kernel_rfl) (by simp) ?_; refine AllReadyH.cons rfl (fun K hK => ?_) AllReadyH.nil; go_simp; ((go_at_call 15; refine (DO.out w17 (OM.out.below D17.out)).mono ?_; rintro e w19 ⟨rfl, hb⟩; have D19 := Lib.hid (bl_tr D17.out hb); clear hb)); refine hK.out _ _ (by exact KS.out _ (OM.out.below D19.out)) (fun hS => ?_); clear hK K; (try simp only [Act.put, List.getElem_toArray, List.getElem_cons_zero, List.getElem_cons_succ, List.setIfInBounds_toArray, List.set_cons_zero, List.set_cons_succ]); (refine wpAnyH_take (i := 20) (v := ?_) rfl (by kernel_rfl) (by kernel_rfl) (by kernel_rfl) (fun _ _ _ h => h) ?_ (by assumption) ?_; rotate_left; (next => (refine Or.inl ⟨by kernel_rfl, ?_⟩; ((intro w hSw; (try dsimp only at hSw); go_simp) <;> with_reducible rfl))); (try simp only [Act.put, List.getElem_toArray, List.getElem_cons_zero, List.getElem_cons_succ, List.setIfInBounds_toArray, List.set_cons_zero, List.set_cons_succ])); (refine wpAnyH_take (i := 21) (v := ?_) rfl (by kernel_rfl) (by kernel_rfl) (by kernel_rfl) (fun _ _ _ h => h) ?_ (by assumption) ?_; rotate_left; (next => (refine Or.inl ⟨by kernel_rfl, ?_⟩; ((intro w hSw; (try dsimp only at hSw); go_simp) <;> with_reducible rfl))); (try simp only [Act.put, List.getElem_toArray, List.getElem_cons_zero, List.getElem_cons_succ, List.setIfInBounds_toArray, List.set_cons_zero, List.set_cons_succ])); refine wpAnyH_done (by kernel_rfl) ?_ _)
  go_simp
  have ZM := Lib.hid (show Below Z.heap.size Z w19 from bl_tr R2.out.2.2.1 D19.out)
  have OW := Lib.hid (OM.out.below D19.out)
  have BW := Lib.hid (show Below w.heap.size w w19 from bl_tr (bl_tr YX.out S1.out.2) ZM.out)
  have SHL := Lib.hid (show ShL Y.heap.size Z.heap.size w19 B1 l.length from (S1.out.1.sh (Nat.le_refl _)).tk (TK.of_below ZM.out (Nat.le_refl _)))
  have RR := Lib.hid (R2.out.1.below D19.out)
  have ZZ := Lib.hid (show Z.heap.size ≤ w19.heap.size from ZM.out.size)
  clear gd ge gn AS RM DP DO RS5
  go_wp2
  go_loopw [57] (fun i V => ∃ q : Nat, i = .int .i64 q ∧ Hid (q ≤ l.length) ∧ Hid (TK Y.heap.size Z.heap.size w19 V)) (fun i _ => l.length - (intOf i).toNat)
  case atStart => exact ⟨0, rfl, Lib.hid (Nat.zero_le _), Lib.hid (TK.of_below (Below.refl _ _) ZZ.out)⟩
  case round =>
    obtain ⟨q, rfl, HQ, HI⟩ := hrel
    by_cases hlt : q < l.length
    · have q1 : (q : Int) < (l.length : Int) := by omega
      have q3 : ¬ (q : Int) < 0 := by omega
      have kp1 : wrap64 ((q : Int) + 1) = ((q + 1 : Nat) : Int) := w64c (by omega) (by have := LL.out; omega)
      obtain ⟨bq, oq, rfl, hb, hx⟩ := SHL.out (by omega)
      obtain ⟨A1, n1, c1, A2, n2', c2, lt, hs⟩ := hx q hlt
      have HSS := Lib.hid (And.intro hb hs)
      have LQ := Lib.hid hlt
      have HZ := Lib.hid (show Z.heap.size ≤ wr.heap.size from Nat.le_trans ZZ.out HI.out.size)
      obtain ⟨⟨p0, f0⟩, ⟨p1, f1⟩, ⟨p2, f2⟩, ⟨p3, f3⟩, ⟨p4, f4⟩, ⟨p5, f5⟩, ⟨p6, f6⟩, ⟨p7, f7⟩, ⟨p8, f8⟩, f9, f10, hsh, _⟩ := hs.tk hb.1 hb.2 HI.out
      have lb : bq < wr.heap.size := Nat.lt_of_lt_of_le hb.2 HZ.out
      have TC := Lib.hid (fun V (hV : Below wr.heap.size wr V) => touched_any Y.heap.size Z.heap.size p4 p5 p6 p7 p8 A1 n1 c1 lt V (Nat.le_trans HZ.out hV.size) (hsh.tk (TK.of_below hV HZ.out)))
      clear hlt hb hx hs hsh
      go_upto_region 12 with (go_at_call 16; go_loud (refine (TC.out _ (by (repeat (with_reducible first | exact Below.refl _ _ | (refine bl_set ?_ (by first | omega | (simp; done) | (simp; omega)) _) | refine bl_gr ?_ _ | refine bl_al ?_ _ | refine below_setRow ?_ (by first | omega | (simp; done) | (simp; omega)) _ | refine bl_drewN ?_ _ | refine Below.drew ?_ | (refine bl_tr ?_ (by assumption)))))).mono ?_; rintro e w4 ⟨rfl, k4⟩; have K4 := Lib.hid (HI.out.trans ((TK.of_below (show Below wr.heap.size wr _ by (repeat (with_reducible first | exact Below.refl _ _ | (refine bl_set ?_ (by first | omega | (simp; done) | (simp; omega)) _) | refine bl_gr ?_ _ | refine bl_al ?_ _ | refine below_setRow ?_ (by first | omega | (simp; done) | (simp; omega)) _ | refine bl_drewN ?_ _ | refine Below.drew ?_ | (refine bl_tr ?_ (by assumption))))) HZ.out).trans k4)); clear k4))
      clear f0 f1 f2 f3 f4 f5 f6 f7 f8 f9 f10 lb
      obtain ⟨⟨p0', f0⟩, ⟨p1', f1⟩, ⟨p2', f2⟩, ⟨p3', f3⟩, ⟨p4', f4⟩, ⟨p5', f5⟩, ⟨p6', f6⟩, ⟨p7', f7⟩, ⟨p8', f8⟩, f9, f10, _, _⟩ := HSS.out.2.tk HSS.out.1.1 HSS.out.1.2 K4.out
      have lb : bq < w4.heap.size := Nat.lt_of_lt_of_le HSS.out.1.2 (Nat.le_trans ZZ.out K4.out.size)
      go_wp2
      clear f0 f1 f2 f3 f4 f5 f6 f7 f8 f9 f10 lb
      go_loopw [72] (fun j V => ∃ u : Nat, j = .int .i64 u ∧ Hid (u ≤ n2') ∧ Hid (TK Y.heap.size Z.heap.size w19 V)) (fun j _ => n2' - (intOf j).toNat)
      case atStart => exact ⟨0, rfl, Lib.hid (Nat.zero_le _), Lib.hid K4.out⟩
      case round =>
        obtain ⟨u, rfl, HU, HI2⟩ := hrel
        by_cases hlu : u < n2'
        · have q4 : (u : Int) < (n2' : Int) := by omega
          have q5 : ¬ (u : Int) < 0 := by omega
          obtain ⟨⟨p0', f0⟩, ⟨p1', f1⟩, ⟨p2', f2⟩, ⟨p3', f3⟩, ⟨p4', f4⟩, ⟨p5', f5⟩, ⟨p6', f6⟩, ⟨p7', f7⟩, ⟨p8', f8⟩, f9, f10, _, hk⟩ := HSS.out.2.tk HSS.out.1.1 HSS.out.1.2 HI2.out
          obtain ⟨hk0, hk1⟩ := hk
          have kp2 : wrap64 ((u : Int) + 1) = ((u + 1 : Nat) : Int) := w64c (by omega) (by omega)
          obtain ⟨bk, ok, rfl, hbk, ⟨cs, hcs⟩, hxk⟩ := hk1 (by omega)
          obtain ⟨x, hxu⟩ := hxk u hlu
          have lb : bq < wr.heap.size := Nat.lt_of_lt_of_le HSS.out.1.2 (Nat.le_trans ZZ.out HI2.out.size)
          have lb2 := (Array.getElem?_eq_some_iff.1 hcs).1
          have fz : ∀ j, wr.frozen? ⟨bk, j, none⟩ = false := fun j => frozen_of_row wr bk j _ _ hcs
          have LU := Lib.hid hlu
          have S4 := Lib.hid (HI2.out.trans (TK.set (v' := .int .i64 (-7)) (Nat.le_trans ZZ.out HI2.out.size) hbk.1 hbk.2 hcs hxu (.inr (.inl ⟨_, _, rfl, rfl⟩))))
          clear hlu hbk hxk hk1 hk0 hcs
          go_wp2
          go_roundw
          case rel => exact ⟨u + 1, by first | with_reducible rfl | (rw [kp2]; done), Lib.hid LU.out, Lib.hid S4.out⟩
          case measure => (first | ((try rw [kp2]); exact meas_c rfl LU.out) | (clear kp1 kp2; have := LU.out; simp only [intOf]; omega))
        · have q4 : ¬ (u : Int) < (n2' : Int) := by omega
          clear hlu
          go_wp2
          go_roundw
          case rel => exact ⟨q + 1, by first | with_reducible rfl | (rw [kp1]; done), Lib.hid LQ.out, Lib.hid HI2.out⟩
          case measure => (first | ((try rw [kp1]); exact meas_c rfl LQ.out) | (clear kp1; have := LQ.out; simp only [intOf]; omega))
    · have q1 : ¬ (q : Int) < (l.length : Int) := by omega
      clear hlt
      have OV := Lib.hid (OW.out.tk HI.out)
      have BV := Lib.hid (show Below w.heap.size w wr from BW.out.trans (Touch.below HI.out.1 BW.out.size fun k hk => Nat.le_trans YX.out.size hk.1))
      have RV := Lib.hid (show RdL wr (.slice B2 n2 k2) l from by have h := (RR.out.tk R2.out.2.2.2 HI.out).rd; rw [R2.out.2.1] at h; exact h)
      obtain ⟨f1, f2⟩ := KS.out wr OV.out
      obtain ⟨⟨a0, a1, a2, a3, a4, a5⟩, _⟩ := cells6n f1
      have l0 := (Array.getElem?_eq_some_iff.1 f1).1
      clear f1 f2
      go_upto_region 19 with (go_at_call 10; go_loud (refine (SP4.out _ OV.out).mono ?_; rintro e1 N ⟨B3, k3, rfl, s3, z3⟩; have S3 := Lib.hid (And.intro s3.rd z3); clear s3 z3))
      clear a0 a1 a2 a3 a4 a5 l0
      go_wp2_with (first
        | (go_at_call 13; go_loud (refine (as_any _ l N S3.out.1 LL.out).mono ?_; rintro e w5 ⟨u, rfl, ru, hb⟩; have U5 := Lib.hid ru; have D5 := Lib.hid (bl_tr S3.out.2 hb); clear hb ru))
        | (go_at_call 12; go_loud (refine (same_any u (.slice B2 n2 k2) l w5 U5.out (RV.out.below D5.out)).mono ?_; rintro e w6 ⟨rfl, hb⟩; have D6 := Lib.hid (bl_tr D5.out hb); obtain ⟨g1, g2⟩ := KS.out w6 (OV.out.below D6.out); obtain ⟨⟨a0, a1, a2, a3, a4, a5⟩, _⟩ := cells6n g1; have l0 := (Array.getElem?_eq_some_iff.1 g1).1; obtain ⟨⟨b0, b1, b2, b3, b4, b5⟩, _⟩ := cells6n g2; have l1 := (Array.getElem?_eq_some_iff.1 g2).1; clear hb g1 g2))
        | (go_at_call 17; go_loud (refine (EX.out w6 (OV.out.below D6.out)).mono ?_; rintro e w7 ⟨rfl, hb⟩; have D7 := Lib.hid (bl_tr D6.out hb); clear hb))
        | (go_at_call 8; go_loud (refine (GO.out w7 (OV.out.below D7.out)).mono ?_; rintro e w8 ⟨rfl, hb⟩; have D8 := Lib.hid (bl_tr D7.out hb); clear hb)))
      go_ret
      exact ⟨rfl, bl_tr BV.out D8.out⟩
end Go.Proofs.YtiagegecnopfgaaDoor
