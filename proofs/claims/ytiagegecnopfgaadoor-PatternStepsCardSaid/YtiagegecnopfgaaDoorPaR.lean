/- pattern.Steps, walked. -/
import Derived.Test.YtiagegecnopfgaaDoorPaQ
namespace Go.Proofs.YtiagegecnopfgaaDoor
set_option linter.all false
open Go.ChangeShapes Go.WideShapes Go.ChangeAt Go.RowKit Go.Sort Go.Deep

theorem ap_all : ∀ N, N ≤ 100001 → ApC N
  | 0, _ => fun _ _ _ _ _ _ _ _ _ h => by omega
  | N + 1, h => apart_step (by omega) (ap_all N (by omega)) (object_step (by omega) (ap_all N (by omega))) (array_step (by omega) (ap_all N (by omega)))
abbrev noE : Nat → Prop := fun _ => False
/-- a list of steps, new from lo on -/
def IsSt (lo : Nat) (X : World) (v : Value) (l : List StepD) : Prop := ∃ (A : Option Addr) (c : Nat) (rs : List StepR), v = .slice A l.length c ∧ X.ownsRow lo 41 11 (.slice A l.length c) l.length (flat StepR.cs rs) ∧ rs.map (·.d) = l ∧ ∀ r ∈ rs, HoldsS noE lo X r
theorem IsSt.nil (lo : Nat) (X : World) : IsSt lo X (.slice none 0 0) [] := ⟨none, 0, [], rfl, ⟨by simp [flat], .inl ⟨rfl, rfl⟩⟩, rfl, fun r hr => by cases hr⟩
theorem HoldsS.bel {E : Nat → Prop} {lo : Nat} {X Y : World} {r : StepR} (h : HoldsS E lo X r) (hb : Below X.heap.size X Y) : HoldsS E lo Y r :=
  ⟨h.1.keep hb.size fun b hp hlt => ⟨hb.block b hlt, hp.keep (hb.block b hlt)⟩, h.2.keep hb.size fun b hp hlt => hb.block b hlt⟩
theorem IsSt.below {lo : Nat} {X Y : World} {v : Value} {l : List StepD} (h : IsSt lo X v l) (hb : Below X.heap.size X Y) : IsSt lo Y v l := by
  obtain ⟨A, c, rs, e, h1, h2, h3⟩ := h
  exact ⟨A, c, rs, e, ownsRow_below h1 hb, h2, fun r hr => (h3 r hr).bel hb⟩
theorem IsSt.form {lo : Nat} {X : World} {v : Value} {l : List StepD} (h : IsSt lo X v l) : ∃ A c, v = .slice A l.length c := by
  obtain ⟨A, c, rs, e, _⟩ := h
  exact ⟨A, c, e⟩
theorem MkS.steps {lo B : Nat} {x : Mk} {X : World} (h : MkS noE lo B x X) : ∃ A c, X.heap[B]? = some (mkO (.slice A x.l.length c) x.g x.b) ∧ IsSt lo X (.slice A x.l.length c) x.l := by
  obtain ⟨_, A, cp, rs, h1, h2, h3, h4⟩ := h
  exact ⟨A, cp, h1, A, cp, rs, rfl, h2, h3, h4⟩
abbrev PowTab (X : World) : Prop := Lib.TabIs Tryd.prog X "internal/strconv.uint64pow10" .u64 Lib.pow10Tab
def RetSt (X : World) (t : Tree) (e : Ending) (Y : World) : Prop := ∃ v, e = .returned (.tuple #[v, .int .i64 (stepsT t).2.1, .int .i64 (stepsT t).2.2]) ∧ IsSt X.heap.size Y v (stepsT t).1 ∧ Below X.heap.size X Y
abbrev mk0 : Mk := ⟨[], 1, false⟩
theorem mk_start {X Y : World} (hb : Below X.heap.size X Y) (ht : PowTab X) : ApS noE X.heap.size Y.heap.size mk0 (Y.alloc (mkO (.slice none 0 0) 1 false)) := by
  have h1 : Below X.heap.size X (Y.alloc (mkO (.slice none 0 0) 1 false)) := bl_al hb _
  refine ⟨⟨hb.size, none, 0, [], heap_alloc_new _ _, ⟨by simp [flat], .inl ⟨rfl, rfl⟩⟩, rfl, fun r hr => by cases hr⟩, (Tab.start ht).low fun b hl => h1.block b hl, h1.size, fun b h => h.elim⟩
theorem ap_bd (t : Tree) (ht : sizeT t ≤ 100000) : Bd mk0 (sizeT t) := by
  unfold Bd
  simp
  omega
set_option maxRecDepth 100000 in
set_option maxHeartbeats 8000000 in
theorem steps_any (t : Tree) (A : Option Addr) (c : Nat) (X : World) (ht : sizeT t ≤ 100000) (hT : IsNd (fun b => b < X.heap.size) X (.slice A t.kids.length c) t.kids) (hO : OkK [t]) (hp : PowTab X) :
    Calls Tryd.prog 10 #[nodeV t (.slice A t.kids.length c)] X (RetSt X t) := by
  have DP := Lib.hid (fun V (hV : Below X.heap.size X V) => deep_any (fun b => b < X.heap.size) t A c V ht (hT.bel hV))
  have IC := Lib.hid (fun B V (hS : ApS noE X.heap.size B mk0 V) (hV : IsNd (fun b => b < X.heap.size) V (.slice A t.kids.length c) t.kids) => ap_all 100001 (by omega) noE X.heap.size B mk0 t A c 0 V (by omega) hS hV hO (ap_bd t ht))
  have HT := Lib.hid hT
  have HP := Lib.hid hp
  by_cases hd : 200 < deepT t
  · have q1 : 200 < deepT t := hd
    have RX := Lib.hid (show stepsT t = ([], 0, 10) by unfold stepsT; rw [if_pos hd])
    clear hT hO hp ht hd
    go_enter Tryd.func10, Tryd.ntmps10
    go_wp2_with (go_at_call 14; go_loud (refine (DP.out _ (by (repeat (with_reducible first | exact Below.refl _ _ | (refine bl_set ?_ (by first | omega | (simp; done) | (simp; omega)) _) | refine bl_gr ?_ _ | refine bl_al ?_ _ | refine below_setRow ?_ (by first | omega | (simp; done) | (simp; omega)) _ | refine bl_drewN ?_ _ | refine Below.drew ?_ | (refine bl_tr ?_ (by assumption)))))).mono ?_; rintro e w1 ⟨rfl, hb⟩; have B1 := Lib.hid (show Below X.heap.size X w1 from bl_tr (by (repeat (with_reducible first | exact Below.refl _ _ | (refine bl_set ?_ (by first | omega | (simp; done) | (simp; omega)) _) | refine bl_gr ?_ _ | refine bl_al ?_ _ | refine below_setRow ?_ (by first | omega | (simp; done) | (simp; omega)) _ | refine bl_drewN ?_ _ | refine Below.drew ?_ | (refine bl_tr ?_ (by assumption))))) hb); clear hb))
    go_ret3
    unfold RetSt
    rw [RX.out]
    exact ⟨_, rfl, IsSt.nil _ _, B1.out⟩
  have q1 : ¬ 200 < deepT t := hd
  have RX := Lib.hid (show stepsT t = if (apT t 0 mk0).b then ([], 0, 24) else ((apT t 0 mk0).l, (apT t 0 mk0).g, 0) by unfold stepsT; rw [if_neg hd])
  generalize apT t 0 mk0 = y at *
  clear hT hO hp ht hd
  go_enter Tryd.func10, Tryd.ntmps10
  go_upto_region 3 with (go_at_call 14; go_loud (refine (DP.out _ (by (repeat (with_reducible first | exact Below.refl _ _ | (refine bl_set ?_ (by first | omega | (simp; done) | (simp; omega)) _) | refine bl_gr ?_ _ | refine bl_al ?_ _ | refine below_setRow ?_ (by first | omega | (simp; done) | (simp; omega)) _ | refine bl_drewN ?_ _ | refine Below.drew ?_ | (refine bl_tr ?_ (by assumption)))))).mono ?_; rintro e w1 ⟨rfl, hb⟩; have B1 := Lib.hid (show Below (X.alloc (nodeO t (.slice A t.kids.length c))).heap.size (X.alloc (nodeO t (.slice A t.kids.length c))) w1 from bl_tr (by (repeat (with_reducible first | exact Below.refl _ _ | (refine bl_set ?_ (by first | omega | (simp; done) | (simp; omega)) _) | refine bl_gr ?_ _ | refine bl_al ?_ _ | refine below_setRow ?_ (by first | omega | (simp; done) | (simp; omega)) _ | refine bl_drewN ?_ _ | refine Below.drew ?_ | (refine bl_tr ?_ (by assumption))))) hb); clear hb))
  go_upto_region 4 with fail
  refine wpd_world (fun Z => ApS noE X.heap.size w1.heap.size mk0 Z ∧ Below X.heap.size X Z ∧ Bx w1.heap.size Z X.heap.size (nodeO t (.slice A t.kids.length c))) ⟨mk_start (bl_tr (bl_al (Below.refl _ _) _) B1.out) HP.out, bl_al (bl_tr (bl_al (Below.refl _ _) _) B1.out) _, ?_⟩ ?_
  · have h1 : (X.alloc (nodeO t (.slice A t.kids.length c))).heap.size = X.heap.size + 1 := by simp
    have h2 := B1.out.size
    refine ⟨?_, by omega, fun ⟨v, g, k, e, h3⟩ => ?_⟩
    · rw [heap_alloc_old _ _ (by omega), B1.out.block _ (by omega)]
      exact heap_alloc_new _ _
    · rw [heap_alloc_new] at e
      simp only [Option.some.injEq, Obj.cells.injEq, and_true, Array.mk.injEq, List.cons.injEq] at e
      rw [← e.1] at h3
      cases h3
  generalize w1.heap.size = B
  rintro Z ⟨hZ, bZ, nZ⟩
  have AZ := Lib.hid hZ
  have BZ := Lib.hid bZ
  obtain ⟨⟨b0, b1, b2, b3, b4, b5⟩, _⟩ := cells6n nZ.1
  have l0 := nZ.lt
  clear hZ bZ nZ B1 DP q1
  go_upto_region 5 with (go_at_call 24; go_loud (refine (IC.out B Z AZ.out (HT.out.bel BZ.out)).mono ?_; rintro e w2 ⟨rfl, h2, k2⟩; have M2 := Lib.hid h2; have K2 := Lib.hid (BZ.out.trans (k2.below AZ.out.st.rowT AZ.out.lo)); clear h2 k2))
  obtain ⟨A2, c2, hm, h2⟩ := M2.out.steps
  obtain ⟨⟨m0, m1, m2⟩, mf⟩ := cells3m hm
  have lm := M2.out.lt
  have H2 := Lib.hid h2
  clear h2 hm b0 b1 b2 b3 b4 b5 l0 AZ BZ IC HP
  have yb : y.b = true ∨ y.b = false := by cases y.b <;> simp
  rcases yb with yb | yb
  · rw [yb] at m2
    rw [yb] at RX
    clear yb
    go_wp2
    go_ret3
    unfold RetSt
    rw [RX.out]
    exact ⟨_, rfl, IsSt.nil _ _, K2.out⟩
  · rw [yb] at m2
    rw [yb] at RX
    clear yb
    go_upto_region 7 with fail
    have S0 := Lib.hid (And.intro m0 m1)
    (refine wp_region_held_drew (S := (fun V : World => V.cell? ⟨B, 0, none⟩ = some (.slice A2 y.l.length c2) ∧ V.cell? ⟨B, 1, none⟩ = some (.int .i64 y.g))) Tryd.mixed (by exact S0.out) (fun hS => ?_); (refine wpAnyH_take (i := 0) (v := ?_) rfl (by kernel_rfl) (by kernel_rfl) (by kernel_rfl) (fun _ _ _ h => h) ?_ (by assumption) ?_; rotate_left; (next => (refine Or.inl ⟨by kernel_rfl, ?_⟩; ((intro w hSw; (try dsimp only at hSw); go_simp) <;> with_reducible rfl))); (try simp only [Act.put, List.getElem_toArray, List.getElem_cons_zero, List.getElem_cons_succ, List.setIfInBounds_toArray, List.set_cons_zero, List.set_cons_succ])); (refine wpAnyH_take (i := 1) (v := ?_) rfl (by kernel_rfl) (by kernel_rfl) (by kernel_rfl) (fun _ _ _ h => h) ?_ (by assumption) ?_; rotate_left; (next => (refine Or.inl ⟨by kernel_rfl, ?_⟩; ((intro w hSw; (try dsimp only at hSw); go_simp) <;> with_reducible rfl))); (try simp only [Act.put, List.getElem_toArray, List.getElem_cons_zero, List.getElem_cons_succ, List.setIfInBounds_toArray, List.set_cons_zero, List.set_cons_succ])); (refine wpAnyH_take (i := 2) (v := ?_) rfl (by kernel_rfl) (by kernel_rfl) (by kernel_rfl) (fun _ _ _ h => h) ?_ (by assumption) ?_; rotate_left; (next => (refine Or.inl ⟨by kernel_rfl, ?_⟩; ((intro w hSw; (try dsimp only at hSw); go_simp) <;> with_reducible rfl))); (try simp only [Act.put, List.getElem_toArray, List.getElem_cons_zero, List.getElem_cons_succ, List.setIfInBounds_toArray, List.set_cons_zero, List.set_cons_succ])); (refine wpAnyH_take (i := 3) (v := ?_) rfl (by kernel_rfl) (by kernel_rfl) (by kernel_rfl) (fun _ _ _ h => h) ?_ (by assumption) ?_; rotate_left; (next => (refine Or.inl ⟨by kernel_rfl, ?_⟩; ((intro w hSw; (try dsimp only at hSw); (obtain ⟨m0, m1⟩ := hSw); go_simp) <;> with_reducible rfl))); (try simp only [Act.put, List.getElem_toArray, List.getElem_cons_zero, List.getElem_cons_succ, List.setIfInBounds_toArray, List.set_cons_zero, List.set_cons_succ])); (refine wpAnyH_take (i := 4) (v := ?_) rfl (by kernel_rfl) (by kernel_rfl) (by kernel_rfl) (fun _ _ _ h => h) ?_ (by assumption) ?_; rotate_left; (next => (refine Or.inl ⟨by kernel_rfl, ?_⟩; ((intro w hSw; (try dsimp only at hSw); go_simp) <;> with_reducible rfl))); (try simp only [Act.put, List.getElem_toArray, List.getElem_cons_zero, List.getElem_cons_succ, List.setIfInBounds_toArray, List.set_cons_zero, List.set_cons_succ])); (refine wpAnyH_take (i := 5) (v := ?_) rfl (by kernel_rfl) (by kernel_rfl) (by kernel_rfl) (fun _ _ _ h => h) ?_ (by assumption) ?_; rotate_left; (next => (refine Or.inl ⟨by kernel_rfl, ?_⟩; ((intro w hSw; (try dsimp only at hSw); go_simp) <;> with_reducible rfl))); (try simp only [Act.put, List.getElem_toArray, List.getElem_cons_zero, List.getElem_cons_succ, List.setIfInBounds_toArray, List.set_cons_zero, List.set_cons_succ])); (refine wpAnyH_take (i := 6) (v := ?_) rfl (by kernel_rfl) (by kernel_rfl) (by kernel_rfl) (fun _ _ _ h => h) ?_ (by assumption) ?_; rotate_left; (next => (refine Or.inl ⟨by kernel_rfl, ?_⟩; ((intro w hSw; (try dsimp only at hSw); go_simp) <;> with_reducible rfl))); (try simp only [Act.put, List.getElem_toArray, List.getElem_cons_zero, List.getElem_cons_succ, List.setIfInBounds_toArray, List.set_cons_zero, List.set_cons_succ])); (refine wpAnyH_take (i := 7) (v := ?_) rfl (by kernel_rfl) (by kernel_rfl) (by kernel_rfl) (fun _ _ _ h => h) ?_ (by assumption) ?_; rotate_left; (next => (refine Or.inl ⟨by kernel_rfl, ?_⟩; ((intro w hSw; (try dsimp only at hSw); (obtain ⟨m0, m1⟩ := hSw); go_simp) <;> with_reducible rfl))); (try simp only [Act.put, List.getElem_toArray, List.getElem_cons_zero, List.getElem_cons_succ, List.setIfInBounds_toArray, List.set_cons_zero, List.set_cons_succ])); (refine wpAnyH_take (i := 8) (v := ?_) rfl (by kernel_rfl) (by kernel_rfl) (by kernel_rfl) (fun _ _ _ h => h) ?_ (by assumption) ?_; rotate_left; (next => (refine Or.inl ⟨by kernel_rfl, ?_⟩; ((intro w hSw; (try dsimp only at hSw); go_simp) <;> with_reducible rfl))); (try simp only [Act.put, List.getElem_toArray, List.getElem_cons_zero, List.getElem_cons_succ, List.setIfInBounds_toArray, List.set_cons_zero, List.set_cons_succ])); (refine wpAnyH_take (i := 9) (v := ?_) rfl (by kernel_rfl) (by kernel_rfl) (by kernel_rfl) (fun _ _ _ h => h) ?_ (by assumption) ?_; rotate_left; (next => (refine Or.inl ⟨by kernel_rfl, ?_⟩; ((intro w hSw; (try dsimp only at hSw); go_simp) <;> with_reducible rfl))); (try simp only [Act.put, List.getElem_toArray, List.getElem_cons_zero, List.getElem_cons_succ, List.setIfInBounds_toArray, List.set_cons_zero, List.set_cons_succ])); (refine wpAnyH_take (i := 10) (v := ?_) rfl (by kernel_rfl) (by kernel_rfl) (by kernel_rfl) (fun _ _ _ h => h) ?_ (by assumption) ?_; rotate_left; (next => (refine Or.inl ⟨by kernel_rfl, ?_⟩; ((intro w hSw; (try dsimp only at hSw); go_simp) <;> with_reducible rfl))); (try simp only [Act.put, List.getElem_toArray, List.getElem_cons_zero, List.getElem_cons_succ, List.setIfInBounds_toArray, List.set_cons_zero, List.set_cons_succ])); refine wpAnyH_done (by kernel_rfl) ?_ _)
    go_simp
    go_wp2
    go_ret3
    unfold RetSt
    rw [RX.out]
    exact ⟨_, rfl, H2.out.below (by (repeat (with_reducible first | exact Below.refl _ _ | (refine bl_set ?_ (by first | omega | (simp; done) | (simp; omega)) _) | refine bl_gr ?_ _ | refine bl_al ?_ _ | refine below_setRow ?_ (by first | omega | (simp; done) | (simp; omega)) _ | refine bl_drewN ?_ _ | refine Below.drew ?_ | (refine bl_tr ?_ (by assumption))))), by (repeat (with_reducible first | exact K2.out | exact Below.refl _ _ | refine bl_rapp ?_ | (refine bl_set ?_ (by first | omega | (simp; done) | (simp; omega)) _) | refine bl_gr ?_ _ | refine bl_al ?_ _ | refine bl_drewN ?_ _ | refine Below.drew ?_))⟩
end Go.Proofs.YtiagegecnopfgaaDoor
