/- The law PatternPair, walked behind its bounds. -/
import Derived.Test.YtiagegecnopfgaaDoorPbB
namespace Go.Proofs.YtiagegecnopfgaaDoor
set_option linter.all false
open Go.ChangeShapes Go.WideShapes Go.ChangeAt Go.RowKit Go.Sort Go.Deep

theorem steps_g (t : Tree) : 0 ≤ (stepsT t).2.1 ∧ (stepsT t).2.1 ≤ 1 + 2 * (sizeT t : Int) := by
  have h := ap_bound t 0 ⟨[], 1, false⟩
  unfold AddsT at h
  simp only [List.length_nil] at h
  unfold stepsT
  split
  · simp; omega
  · split
    · simp; omega
    · simp only
      omega
theorem w64i {x k : Int} (h : x = k) (hk : -1000000 ≤ k ∧ k ≤ 1000000) : wrap64 x = k := by subst h; unfold wrap64; omega
set_option maxRecDepth 100000 in
set_option maxHeartbeats 16000000 in
theorem pair_f (p q : Tree) (A A' : Option Addr) (c c' : Nat) (w : World) (hp : IsNd anyB w (.slice A p.kids.length c) p.kids) (hq : IsNd anyB w (.slice A' q.kids.length c') q.kids) (op : OkK [p]) (oq : OkK [q]) (ht : PowTab w) (h1 : ¬ 1500 ≤ sizeT p) (h2 : ¬ 1500 ≤ sizeT q) (h3 : (p.op == 40 || p.op == 64) = false) (h4 : (q.op == 40 || q.op == 64) = false) (h5 : ¬ 200 ≤ max (deepT p) (deepT q)) :
    Calls Tryd.prog 5 #[nodeV p (.slice A p.kids.length c), nodeV q (.slice A' q.kids.length c')] w fun e w' => e = .returned (.bool true) ∧ Below w.heap.size w w' := by
  have GO := Lib.hid (fun V (hV : Below w.heap.size w V) => goes_any V (ht.bel hV))
  have SP0 := Lib.hid (fun V (hV : Below w.heap.size w V) => size_lt (m := 1500) (by omega) (hp.bel hV) h1)
  have q1 : ¬ (1500 : Int) ≤ (sizeT p : Int) := by omega
  have SQ0 := Lib.hid (fun V (hV : Below w.heap.size w V) => size_lt (m := 1500) (by omega) (hq.bel hV) h2)
  have q2 : ¬ (1500 : Int) ≤ (sizeT q : Int) := by omega
  have RP0 := Lib.hid (fun V (_ : Below w.heap.size w V) => rest1_any p (.slice A p.kids.length c) V false h3)
  have RQ0 := Lib.hid (fun V (_ : Below w.heap.size w V) => rest1_any q (.slice A' q.kids.length c') V false h4)
  have DP0 := Lib.hid (fun V (hV : Below w.heap.size w V) => deepR_any anyB p A c V (by omega) (hp.bel hV))
  have DQ0 := Lib.hid (fun V (hV : Below w.heap.size w V) => deepR_any anyB q A' c' V (by omega) (hq.bel hV))
  have n3 : ¬ p.op = 40 ∧ ¬ p.op = 64 := by simpa using h3
  have n4 : ¬ q.op = 40 ∧ ¬ q.op = 64 := by simpa using h4
  have PR := Lib.hid (steps_pair p q n3 n4 (by omega) (by omega))
  have G1 := Lib.hid (And.intro (steps_g p) (And.intro (steps_g q) (And.intro (steps_len p) (And.intro (steps_len q) (And.intro h1 h2)))))
  obtain ⟨l1, n1, e1, hs1⟩ : ∃ l n e, stepsT p = (l, n, e) := ⟨_, _, _, rfl⟩
  obtain ⟨l2, n2, e2, hs2⟩ : ∃ l n e, stepsT q = (l, n, e) := ⟨_, _, _, rfl⟩
  obtain ⟨l3, k3, e3, hs3⟩ : ∃ l n e, stepsT (opT 60 [p, q]) = (l, n, e) := ⟨_, _, _, rfl⟩
  rw [hs1, hs2, hs3] at PR
  rw [hs1, hs2] at G1
  have ZS := Lib.hid (show sizeT p ≤ 100000 ∧ sizeT q ≤ 100000 ∧ sizeT (opT 60 [p, q]) ≤ 100000 by rw [size_two]; omega)
  have XP := Lib.hid (fun V (hV : Below w.heap.size w V) => (steps_any p A c V ZS.out.1 (hp.bel hV).lt op (ht.bel hV)).mono fun e Y h => h.g hs1)
  have XQ := Lib.hid (fun V (hV : Below w.heap.size w V) => (steps_any q A' c' V ZS.out.2.1 (hq.bel hV).lt oq (ht.bel hV)).mono fun e Y h => h.g hs2)
  have ED := Lib.hid (deep_any anyB p A c)
  have EP0 := Lib.hid (fun V (hV : Below w.heap.size w V) => deep_any anyB p A c V ZS.out.1 (hp.bel hV))
  have EQ0 := Lib.hid (fun V (hV : Below w.heap.size w V) => deep_any anyB q A' c' V ZS.out.2.1 (hq.bel hV))
  have OD := Lib.hid (ok_two (o := 60) (by omega) op oq)
  have HP := Lib.hid (And.intro hp (And.intro hq ht))
  have DD := Lib.hid (deep_pair p q)
  have B1 := Lib.hid (And.intro (deepT_bound p) (deepT_bound q))
  clear hp hq op oq ht n3 n4 hs1 hs2
  generalize deepT p = dp at *
  generalize deepT q = dq at *
  obtain ⟨mx, hmx⟩ : ∃ mx, max dp dq = mx := ⟨_, rfl⟩
  rw [hmx] at h5 DD
  have kpm : IntKind.i64.wrap (1 + mx) = 1 + mx := IntWalk.i64_in _ (by have h := B1.out; omega)
  have gdm : (1 + mx != 1 + mx) = false := bne_self_eq_false _
  clear h1 h2 h3 h4
  go_enter Tryd.func5, Tryd.ntmps5
  go_upto_region 2 with fail
  refine wpd_world (fun X => TwoB w X (nodeO p (.slice A p.kids.length c)) (nodeO q (.slice A' q.kids.length c'))) (TwoB.start w _ _) ?_
  intro X hX
  have KS := Lib.hid (fun V (hV : Below X.heap.size X V) => And.intro (hX.step hV).1 (hX.step hV).2.1)
  have KT := Lib.hid (fun V (hV : Below X.heap.size X V) => hX.step hV)
  have WX := Lib.hid hX.2.2
  clear hX
  have SP := Lib.hid (fun V (hV : Below X.heap.size X V) => SP0.out V (bl_tr WX.out hV))
  have SQ := Lib.hid (fun V (hV : Below X.heap.size X V) => SQ0.out V (bl_tr WX.out hV))
  have RP := Lib.hid (fun V (hV : Below X.heap.size X V) => RP0.out V (bl_tr WX.out hV))
  have RQ := Lib.hid (fun V (hV : Below X.heap.size X V) => RQ0.out V (bl_tr WX.out hV))
  have DP := Lib.hid (fun V (hV : Below X.heap.size X V) => DP0.out V (bl_tr WX.out hV))
  have DQ := Lib.hid (fun V (hV : Below X.heap.size X V) => DQ0.out V (bl_tr WX.out hV))
  (refine wp_region_held_drew (S := (fun V : World => V.heap[w.heap.size]? = some (nodeO p (.slice A p.kids.length c)) ∧ V.heap[w.heap.size + 1]? = some (nodeO q (.slice A' q.kids.length c')))) Tryd.mixed (by exact KS.out _ (Below.drew (Below.refl _ _))) (fun hS => ?_); (refine wpAnyH_take (i := 0) (v := ?_) rfl (by kernel_rfl) (by kernel_rfl) (by kernel_rfl) (fun _ _ _ h => h) ?_ (by assumption) ?_; rotate_left; (next => (refine Or.inl ⟨by kernel_rfl, ?_⟩; ((intro w hSw; (try dsimp only at hSw); (obtain ⟨⟨a0, a1, a2, a3, a4, a5⟩, _⟩ := cells6n hSw.1; obtain ⟨⟨b0, b1, b2, b3, b4, b5⟩, _⟩ := cells6n hSw.2); go_simp) <;> with_reducible rfl))); (try simp only [Act.put, List.getElem_toArray, List.getElem_cons_zero, List.getElem_cons_succ, List.setIfInBounds_toArray, List.set_cons_zero, List.set_cons_succ])); refine wpAnyH_ready (rs := [1]) (by kernel_rfl) (by simp) ?_; refine AllReadyH.cons rfl (fun K hK => ?_) AllReadyH.nil; go_simp; ((go_at_call 7; refine (SP.out X.drew (Below.drew (Below.refl _ _))).mono ?_; rintro e w1 ⟨rfl, hb⟩; have B1 := Lib.hid (bl_tr (Below.drew (Below.refl _ _)) hb); clear hb)); refine hK.out _ _ (by exact KS.out _ B1.out) (fun hS => ?_); clear hK K; (try simp only [Act.put, List.getElem_toArray, List.getElem_cons_zero, List.getElem_cons_succ, List.setIfInBounds_toArray, List.set_cons_zero, List.set_cons_succ]); (refine wpAnyH_take (i := 2) (v := ?_) rfl (by kernel_rfl) (by kernel_rfl) (by kernel_rfl) (fun _ _ _ h => h) ?_ (by assumption) ?_; rotate_left; (next => (refine Or.inl ⟨by kernel_rfl, ?_⟩; ((intro w hSw; (try dsimp only at hSw); go_simp) <;> with_reducible rfl))); (try simp only [Act.put, List.getElem_toArray, List.getElem_cons_zero, List.getElem_cons_succ, List.setIfInBounds_toArray, List.set_cons_zero, List.set_cons_succ])); (refine wpAnyH_take (i := 3) (v := ?_) rfl (by kernel_rfl) (by kernel_rfl) (by kernel_rfl) (fun _ _ _ h => h) ?_ (by assumption) ?_; rotate_left; (next => (refine Or.inl ⟨by kernel_rfl, ?_⟩; ((intro w hSw; (try dsimp only at hSw); go_simp) <;> with_reducible rfl))); (try simp only [Act.put, List.getElem_toArray, List.getElem_cons_zero, List.getElem_cons_succ, List.setIfInBounds_toArray, List.set_cons_zero, List.set_cons_succ])); (refine wpAnyH_take (i := 4) (v := ?_) rfl (by kernel_rfl) (by kernel_rfl) (by kernel_rfl) (fun _ _ _ h => h) ?_ (by assumption) ?_; rotate_left; (next => (refine Or.inl ⟨by kernel_rfl, ?_⟩; ((intro w hSw; (try dsimp only at hSw); (obtain ⟨⟨a0, a1, a2, a3, a4, a5⟩, _⟩ := cells6n hSw.1; obtain ⟨⟨b0, b1, b2, b3, b4, b5⟩, _⟩ := cells6n hSw.2); go_simp) <;> with_reducible rfl))); (try simp only [Act.put, List.getElem_toArray, List.getElem_cons_zero, List.getElem_cons_succ, List.setIfInBounds_toArray, List.set_cons_zero, List.set_cons_succ])); refine wpAnyH_ready (rs := [5]) (by kernel_rfl) (by simp) ?_; refine AllReadyH.cons rfl (fun K hK => ?_) AllReadyH.nil; go_simp; ((go_at_call 7; refine (SQ.out w1 (B1.out)).mono ?_; rintro e w5 ⟨rfl, hb⟩; have B5 := Lib.hid (bl_tr (B1.out) hb); clear hb)); refine hK.out _ _ (by exact KS.out _ B5.out) (fun hS => ?_); clear hK K; (try simp only [Act.put, List.getElem_toArray, List.getElem_cons_zero, List.getElem_cons_succ, List.setIfInBounds_toArray, List.set_cons_zero, List.set_cons_succ]); (refine wpAnyH_take (i := 6) (v := ?_) rfl (by kernel_rfl) (by kernel_rfl) (by kernel_rfl) (fun _ _ _ h => h) ?_ (by assumption) ?_; rotate_left; (next => (refine Or.inl ⟨by kernel_rfl, ?_⟩; ((intro w hSw; (try dsimp only at hSw); go_simp) <;> with_reducible rfl))); (try simp only [Act.put, List.getElem_toArray, List.getElem_cons_zero, List.getElem_cons_succ, List.setIfInBounds_toArray, List.set_cons_zero, List.set_cons_succ])); (refine wpAnyH_take (i := 7) (v := ?_) rfl (by kernel_rfl) (by kernel_rfl) (by kernel_rfl) (fun _ _ _ h => h) ?_ (by assumption) ?_; rotate_left; (next => (refine Or.inl ⟨by kernel_rfl, ?_⟩; ((intro w hSw; (try dsimp only at hSw); go_simp) <;> with_reducible rfl))); (try simp only [Act.put, List.getElem_toArray, List.getElem_cons_zero, List.getElem_cons_succ, List.setIfInBounds_toArray, List.set_cons_zero, List.set_cons_succ])); (refine wpAnyH_take (i := 8) (v := ?_) rfl (by kernel_rfl) (by kernel_rfl) (by kernel_rfl) (fun _ _ _ h => h) ?_ (by assumption) ?_; rotate_left; (next => (refine Or.inl ⟨by kernel_rfl, ?_⟩; ((intro w hSw; (try dsimp only at hSw); go_simp) <;> with_reducible rfl))); (try simp only [Act.put, List.getElem_toArray, List.getElem_cons_zero, List.getElem_cons_succ, List.setIfInBounds_toArray, List.set_cons_zero, List.set_cons_succ])); (refine wpAnyH_take (i := 9) (v := ?_) rfl (by kernel_rfl) (by kernel_rfl) (by kernel_rfl) (fun _ _ _ h => h) ?_ (by assumption) ?_; rotate_left; (next => (refine Or.inl ⟨by kernel_rfl, ?_⟩; ((intro w hSw; (try dsimp only at hSw); go_simp) <;> with_reducible rfl))); (try simp only [Act.put, List.getElem_toArray, List.getElem_cons_zero, List.getElem_cons_succ, List.setIfInBounds_toArray, List.set_cons_zero, List.set_cons_succ])); (refine wpAnyH_take (i := 10) (v := ?_) rfl (by kernel_rfl) (by kernel_rfl) (by kernel_rfl) (fun _ _ _ h => h) ?_ (by assumption) ?_; rotate_left; (next => (refine Or.inl ⟨by kernel_rfl, ?_⟩; ((intro w hSw; (try dsimp only at hSw); (obtain ⟨⟨a0, a1, a2, a3, a4, a5⟩, _⟩ := cells6n hSw.1; obtain ⟨⟨b0, b1, b2, b3, b4, b5⟩, _⟩ := cells6n hSw.2); go_simp) <;> with_reducible rfl))); (try simp only [Act.put, List.getElem_toArray, List.getElem_cons_zero, List.getElem_cons_succ, List.setIfInBounds_toArray, List.set_cons_zero, List.set_cons_succ])); refine wpAnyH_ready (rs := [11]) (by kernel_rfl) (by simp) ?_; refine AllReadyH.cons rfl (fun K hK => ?_) AllReadyH.nil; go_simp; ((go_at_call 22; refine (RP.out w5 (B5.out)).mono ?_; rintro e w11 ⟨rfl, hb⟩; have B11 := Lib.hid (bl_tr (B5.out) hb); clear hb)); refine hK.out _ _ (by exact KS.out _ B11.out) (fun hS => ?_); clear hK K; (try simp only [Act.put, List.getElem_toArray, List.getElem_cons_zero, List.getElem_cons_succ, List.setIfInBounds_toArray, List.set_cons_zero, List.set_cons_succ]); (refine wpAnyH_take (i := 12) (v := ?_) rfl (by kernel_rfl) (by kernel_rfl) (by kernel_rfl) (fun _ _ _ h => h) ?_ (by assumption) ?_; rotate_left; (next => (refine Or.inl ⟨by kernel_rfl, ?_⟩; ((intro w hSw; (try dsimp only at hSw); go_simp) <;> with_reducible rfl))); (try simp only [Act.put, List.getElem_toArray, List.getElem_cons_zero, List.getElem_cons_succ, List.setIfInBounds_toArray, List.set_cons_zero, List.set_cons_succ])); (refine wpAnyH_take (i := 13) (v := ?_) rfl (by kernel_rfl) (by kernel_rfl) (by kernel_rfl) (fun _ _ _ h => h) ?_ (by assumption) ?_; rotate_left; (next => (refine Or.inl ⟨by kernel_rfl, ?_⟩; ((intro w hSw; (try dsimp only at hSw); go_simp) <;> with_reducible rfl))); (try simp only [Act.put, List.getElem_toArray, List.getElem_cons_zero, List.getElem_cons_succ, List.setIfInBounds_toArray, List.set_cons_zero, List.set_cons_succ])); (refine wpAnyH_take (i := 14) (v := ?_) rfl (by kernel_rfl) (by kernel_rfl) (by kernel_rfl) (fun _ _ _ h => h) ?_ (by assumption) ?_; rotate_left; (next => (refine Or.inl ⟨by kernel_rfl, ?_⟩; ((intro w hSw; (try dsimp only at hSw); go_simp) <;> with_reducible rfl))); (try simp only [Act.put, List.getElem_toArray, List.getElem_cons_zero, List.getElem_cons_succ, List.setIfInBounds_toArray, List.set_cons_zero, List.set_cons_succ])); (refine wpAnyH_take (i := 15) (v := ?_) rfl (by kernel_rfl) (by kernel_rfl) (by kernel_rfl) (fun _ _ _ h => h) ?_ (by assumption) ?_; rotate_left; (next => (refine Or.inl ⟨by kernel_rfl, ?_⟩; ((intro w hSw; (try dsimp only at hSw); (obtain ⟨⟨a0, a1, a2, a3, a4, a5⟩, _⟩ := cells6n hSw.1; obtain ⟨⟨b0, b1, b2, b3, b4, b5⟩, _⟩ := cells6n hSw.2); go_simp) <;> with_reducible rfl))); (try simp only [Act.put, List.getElem_toArray, List.getElem_cons_zero, List.getElem_cons_succ, List.setIfInBounds_toArray, List.set_cons_zero, List.set_cons_succ])); refine wpAnyH_ready (rs := [16]) (by kernel_rfl) (by simp) ?_; refine AllReadyH.cons rfl (fun K hK => ?_) AllReadyH.nil; go_simp; ((go_at_call 22; refine (RQ.out w11 (B11.out)).mono ?_; rintro e w16 ⟨rfl, hb⟩; have B16 := Lib.hid (bl_tr (B11.out) hb); clear hb)); refine hK.out _ _ (by exact KS.out _ B16.out) (fun hS => ?_); clear hK K; (try simp only [Act.put, List.getElem_toArray, List.getElem_cons_zero, List.getElem_cons_succ, List.setIfInBounds_toArray, List.set_cons_zero, List.set_cons_succ]); (refine wpAnyH_take (i := 17) (v := ?_) rfl (by kernel_rfl) (by kernel_rfl) (by kernel_rfl) (fun _ _ _ h => h) ?_ (by assumption) ?_; rotate_left; (next => (refine Or.inl ⟨by kernel_rfl, ?_⟩; ((intro w hSw; (try dsimp only at hSw); go_simp) <;> with_reducible rfl))); (try simp only [Act.put, List.getElem_toArray, List.getElem_cons_zero, List.getElem_cons_succ, List.setIfInBounds_toArray, List.set_cons_zero, List.set_cons_succ])); (refine wpAnyH_take (i := 18) (v := ?_) rfl (by kernel_rfl) (by kernel_rfl) (by kernel_rfl) (fun _ _ _ h => h) ?_ (by assumption) ?_; rotate_left; (next => (refine Or.inl ⟨by kernel_rfl, ?_⟩; ((intro w hSw; (try dsimp only at hSw); go_simp) <;> with_reducible rfl))); (try simp only [Act.put, List.getElem_toArray, List.getElem_cons_zero, List.getElem_cons_succ, List.setIfInBounds_toArray, List.set_cons_zero, List.set_cons_succ])); (refine wpAnyH_take (i := 19) (v := ?_) rfl (by kernel_rfl) (by kernel_rfl) (by kernel_rfl) (fun _ _ _ h => h) ?_ (by assumption) ?_; rotate_left; (next => (refine Or.inl ⟨by kernel_rfl, ?_⟩; ((intro w hSw; (try dsimp only at hSw); (obtain ⟨⟨a0, a1, a2, a3, a4, a5⟩, _⟩ := cells6n hSw.1; obtain ⟨⟨b0, b1, b2, b3, b4, b5⟩, _⟩ := cells6n hSw.2); go_simp) <;> with_reducible rfl))); (try simp only [Act.put, List.getElem_toArray, List.getElem_cons_zero, List.getElem_cons_succ, List.setIfInBounds_toArray, List.set_cons_zero, List.set_cons_succ])); (refine wpAnyH_take (i := 21) (v := ?_) rfl (by kernel_rfl) (by kernel_rfl) (by kernel_rfl) (fun _ _ _ h => h) ?_ (by assumption) ?_; rotate_left; (next => (refine Or.inl ⟨by kernel_rfl, ?_⟩; ((intro w hSw; (try dsimp only at hSw); (obtain ⟨⟨a0, a1, a2, a3, a4, a5⟩, _⟩ := cells6n hSw.1; obtain ⟨⟨b0, b1, b2, b3, b4, b5⟩, _⟩ := cells6n hSw.2); go_simp) <;> with_reducible rfl))); (try simp only [Act.put, List.getElem_toArray, List.getElem_cons_zero, List.getElem_cons_succ, List.setIfInBounds_toArray, List.set_cons_zero, List.set_cons_succ])); refine wpAnyH_ready (rs := [20]) (by kernel_rfl) (by simp) ?_; refine AllReadyH.cons rfl (fun K hK => ?_) AllReadyH.nil; go_simp; ((go_at_call 15; refine (DP.out w16 (B16.out)).mono ?_; rintro e w20 ⟨rfl, hb⟩; have B20 := Lib.hid (bl_tr (B16.out) hb); clear hb)); refine hK.out _ _ (by exact KS.out _ B20.out) (fun hS => ?_); clear hK K; (try simp only [Act.put, List.getElem_toArray, List.getElem_cons_zero, List.getElem_cons_succ, List.setIfInBounds_toArray, List.set_cons_zero, List.set_cons_succ]); refine wpAnyH_ready (rs := [22]) (by kernel_rfl) (by simp) ?_; refine AllReadyH.cons rfl (fun K hK => ?_) AllReadyH.nil; go_simp; ((go_at_call 15; refine (DQ.out w20 (B20.out)).mono ?_; rintro e w22 ⟨rfl, hb⟩; have B22 := Lib.hid (bl_tr (B20.out) hb); clear hb)); refine hK.out _ _ (by exact KS.out _ B22.out) (fun hS => ?_); clear hK K; (try simp only [Act.put, List.getElem_toArray, List.getElem_cons_zero, List.getElem_cons_succ, List.setIfInBounds_toArray, List.set_cons_zero, List.set_cons_succ]); (refine wpAnyH_take (i := 23) (v := ?_) rfl (by kernel_rfl) (by kernel_rfl) (by kernel_rfl) (fun _ _ _ h => h) ?_ (by assumption) ?_; rotate_left; (next => (refine Or.inl ⟨by kernel_rfl, ?_⟩; ((intro w hSw; (try dsimp only at hSw); go_simp) <;> with_reducible rfl))); (try simp only [Act.put, List.getElem_toArray, List.getElem_cons_zero, List.getElem_cons_succ, List.setIfInBounds_toArray, List.set_cons_zero, List.set_cons_succ])); (refine wpAnyH_take (i := 24) (v := ?_) rfl (by kernel_rfl) (by kernel_rfl) (by kernel_rfl) (fun _ _ _ h => h) ?_ (by assumption) ?_; rotate_left; (next => (refine Or.inl ⟨by kernel_rfl, ?_⟩; ((intro w hSw; (try dsimp only at hSw); go_simp) <;> with_reducible rfl))); (try simp only [Act.put, List.getElem_toArray, List.getElem_cons_zero, List.getElem_cons_succ, List.setIfInBounds_toArray, List.set_cons_zero, List.set_cons_succ])); (refine wpAnyH_take (i := 25) (v := ?_) rfl (by kernel_rfl) (by kernel_rfl) (by kernel_rfl) (fun _ _ _ h => h) ?_ (by assumption) ?_; rotate_left; (next => (refine Or.inl ⟨by kernel_rfl, ?_⟩; ((intro w hSw; (try dsimp only at hSw); go_simp) <;> with_reducible rfl))); (try simp only [Act.put, List.getElem_toArray, List.getElem_cons_zero, List.getElem_cons_succ, List.setIfInBounds_toArray, List.set_cons_zero, List.set_cons_succ])); refine wpAnyH_done (by kernel_rfl) ?_ _)
  go_simp
  have K0 := KS.out w22 B22.out
  obtain ⟨⟨a0, a1, a2, a3, a4, a5⟩, _⟩ := cells6n K0.1
  obtain ⟨⟨b0, b1, b2, b3, b4, b5⟩, _⟩ := cells6n K0.2
  have l2' := (Array.getElem?_eq_some_iff.1 K0.2).1
  have l1' : w.heap.size < w22.heap.size := by omega
  clear K0
  go_upto_region 5 with fail
  clear a0 a1 a2 a3 a4 a5 b0 b1 b2 b3 b4 b5 l1' l2'
  have LT := Lib.hid (lit_two (G := w22) (g := w22.heap.size) (o := 60) rfl rfl (HP.out.1.bel (bl_tr WX.out B22.out)) (HP.out.2.1.bel (bl_tr WX.out B22.out)))
  have T22 := Lib.hid (KT.out w22 B22.out)
  have W22 := Lib.hid (bl_tr WX.out B22.out)
  refine wpd_world (fun Y => DefI w Y w22.heap.size (nodeO p (.slice A p.kids.length c)) (nodeO q (.slice A' q.kids.length c')) (nodeO (opT 60 [p, q]) (.slice (some ⟨w22.heap.size, 0, none⟩) 2 2)) ∧ IsNd anyB Y (.slice (some ⟨w22.heap.size, 0, none⟩) 2 2) [p, q]) ⟨⟨T22.out.step LT.out.2.2, LT.out.1⟩, LT.out.2.1⟩ ?_
  clear LT T22 W22
  generalize w22.heap.size = g at *
  intro Z hZ
  have KZ := Lib.hid (fun V (hV : Below Z.heap.size Z V) => hZ.1.step hV)
  have WZ := Lib.hid hZ.1.1.2.2
  have SD := Lib.hid (fun V (hV : Below Z.heap.size Z V) => (steps_any (opT 60 [p, q]) (some ⟨g, 0, none⟩) 2 V ZS.out.2.2 (hZ.2.bel hV).lt OD.out (HP.out.2.2.bel (bl_tr WZ.out hV))).mono fun e Y h => h.g hs3)
  have DE := Lib.hid (fun V (hV : Below Z.heap.size Z V) => deep_any anyB (opT 60 [p, q]) (some ⟨g, 0, none⟩) 2 V ZS.out.2.2 (hZ.2.bel hV))
  rw [DD.out] at DE
  clear hZ
  have Z0 := KZ.out Z (Below.refl _ _)
  obtain ⟨⟨a0, a1, a2, a3, a4, a5⟩, _⟩ := cells6n Z0.1.1
  have l0 := Z0.1.lt
  have l1' : w.heap.size < Z.heap.size := by omega
  clear Z0
  go_upto_region 6 with (go_at_call 10; go_loud (refine (XP.out _ WZ.out).mono ?_; rintro e9 Y1 ⟨v1, rfl, r1, y2⟩; have YB := Lib.hid y2; have R1 := Lib.hid r1; obtain ⟨m1, hm⟩ : ∃ m, m = l1.length := ⟨_, rfl⟩; obtain ⟨C1, k1, rfl⟩ : ∃ B k, v1 = .slice B m1 k := (by rw [hm]; exact r1.form); have M1 := Lib.hid hm; clear r1 y2 hm))
  clear a0 a1 a2 a3 a4 a5 l0 l1'
  have Z0 := KZ.out Y1 YB.out
  obtain ⟨⟨a0, a1, a2, a3, a4, a5⟩, _⟩ := cells6n Z0.1.2.1
  have l0 := Z0.1.lt
  clear Z0
  go_upto_region 7 with (go_at_call 10; go_loud (refine (XQ.out _ (bl_tr WZ.out YB.out)).mono ?_; rintro e9 Y2 ⟨v2, rfl, r2, y2⟩; have YC := Lib.hid (bl_tr YB.out y2); obtain ⟨m2, hm⟩ : ∃ m, m = l2.length := ⟨_, rfl⟩; obtain ⟨C2, k2, rfl⟩ : ∃ B k, v2 = .slice B m2 k := (by rw [hm]; exact r2.form); have M2 := Lib.hid hm; clear r2 y2 hm))
  clear a0 a1 a2 a3 a4 a5 l0
  have Z0 := KZ.out Y2 YC.out
  obtain ⟨⟨a0, a1, a2, a3, a4, a5⟩, _⟩ := cells6n Z0.2
  have l0 := Z0.lt
  clear Z0
  go_upto_region 8 with (go_at_call 10; go_loud (refine (SD.out _ YC.out).mono ?_; rintro e9 Y3 ⟨v3, rfl, r3, y2⟩; have YD := Lib.hid (bl_tr YC.out y2); have R3 := Lib.hid r3; obtain ⟨m3, hm⟩ : ∃ m, m = l3.length := ⟨_, rfl⟩; obtain ⟨C3, k3', rfl⟩ : ∃ B k, v3 = .slice B m3 k := (by rw [hm]; exact r3.form); have M3 := Lib.hid hm; clear r3 y2 hm))
  clear a0 a1 a2 a3 a4 a5 l0
  have K8 := Lib.hid (fun V (hV : Below Z.heap.size Z V) => And.intro (KZ.out V hV).1.1 (And.intro (KZ.out V hV).1.2.1 (KZ.out V hV).2))
  (refine wp_region_held_drew (S := (fun V : World => V.heap[w.heap.size]? = some (nodeO p (.slice A p.kids.length c)) ∧ V.heap[w.heap.size + 1]? = some (nodeO q (.slice A' q.kids.length c')) ∧ V.heap[g + 1]? = some (nodeO (opT 60 [p, q]) (.slice (some ⟨g, 0, none⟩) 2 2)))) Tryd.mixed (by exact K8.out _ (bl_tr YD.out (Below.drew (Below.refl _ _)))) (fun hS => ?_); (refine wpAnyH_take (i := 0) (v := ?_) rfl (by kernel_rfl) (by kernel_rfl) (by kernel_rfl) (fun _ _ _ h => h) ?_ (by assumption) ?_; rotate_left; (next => (refine Or.inl ⟨by kernel_rfl, ?_⟩; ((intro w hSw; (try dsimp only at hSw); (obtain ⟨⟨a0, a1, a2, a3, a4, a5⟩, _⟩ := cells6n hSw.1; obtain ⟨⟨b0, b1, b2, b3, b4, b5⟩, _⟩ := cells6n hSw.2.1; obtain ⟨⟨c0, c1, c2, c3, c4, c5⟩, _⟩ := cells6n hSw.2.2); go_simp) <;> with_reducible rfl))); (try simp only [Act.put, List.getElem_toArray, List.getElem_cons_zero, List.getElem_cons_succ, List.setIfInBounds_toArray, List.set_cons_zero, List.set_cons_succ])); (refine wpAnyH_take (i := 2) (v := ?_) rfl (by kernel_rfl) (by kernel_rfl) (by kernel_rfl) (fun _ _ _ h => h) ?_ (by assumption) ?_; rotate_left; (next => (refine Or.inl ⟨by kernel_rfl, ?_⟩; ((intro w hSw; (try dsimp only at hSw); (obtain ⟨⟨a0, a1, a2, a3, a4, a5⟩, _⟩ := cells6n hSw.1; obtain ⟨⟨b0, b1, b2, b3, b4, b5⟩, _⟩ := cells6n hSw.2.1; obtain ⟨⟨c0, c1, c2, c3, c4, c5⟩, _⟩ := cells6n hSw.2.2); go_simp) <;> with_reducible rfl))); (try simp only [Act.put, List.getElem_toArray, List.getElem_cons_zero, List.getElem_cons_succ, List.setIfInBounds_toArray, List.set_cons_zero, List.set_cons_succ])); (refine wpAnyH_take (i := 4) (v := ?_) rfl (by kernel_rfl) (by kernel_rfl) (by kernel_rfl) (fun _ _ _ h => h) ?_ (by assumption) ?_; rotate_left; (next => (refine Or.inl ⟨by kernel_rfl, ?_⟩; ((intro w hSw; (try dsimp only at hSw); (obtain ⟨⟨a0, a1, a2, a3, a4, a5⟩, _⟩ := cells6n hSw.1; obtain ⟨⟨b0, b1, b2, b3, b4, b5⟩, _⟩ := cells6n hSw.2.1; obtain ⟨⟨c0, c1, c2, c3, c4, c5⟩, _⟩ := cells6n hSw.2.2); go_simp) <;> with_reducible rfl))); (try simp only [Act.put, List.getElem_toArray, List.getElem_cons_zero, List.getElem_cons_succ, List.setIfInBounds_toArray, List.set_cons_zero, List.set_cons_succ])); refine wpAnyH_ready (rs := [1]) (by kernel_rfl) (by simp) ?_; refine AllReadyH.cons rfl (fun K hK => ?_) AllReadyH.nil; go_simp; ((go_at_call 14; refine (DE.out Y3.drew (bl_tr YD.out (Below.drew (Below.refl _ _)))).mono ?_; rintro e w31 ⟨rfl, hb⟩; have B31 := Lib.hid (bl_tr (bl_tr YD.out (Below.drew (Below.refl _ _))) hb); have B31' := Lib.hid (bl_tr (Below.drew (Below.refl Y3.heap.size Y3)) hb); clear hb)); refine hK.out _ _ (by exact K8.out _ B31.out) (fun hS => ?_); clear hK K; (try simp only [Act.put, List.getElem_toArray, List.getElem_cons_zero, List.getElem_cons_succ, List.setIfInBounds_toArray, List.set_cons_zero, List.set_cons_succ]); refine wpAnyH_ready (rs := [3]) (by kernel_rfl) (by simp) ?_; refine AllReadyH.cons rfl (fun K hK => ?_) AllReadyH.nil; go_simp; ((go_at_call 14; refine (EP0.out w31 (bl_tr WZ.out B31.out)).mono ?_; rintro e w33 ⟨rfl, hb⟩; have B33 := Lib.hid (bl_tr B31.out hb); have B33' := Lib.hid (bl_tr B31'.out hb); clear hb)); refine hK.out _ _ (by exact K8.out _ B33.out) (fun hS => ?_); clear hK K; (try simp only [Act.put, List.getElem_toArray, List.getElem_cons_zero, List.getElem_cons_succ, List.setIfInBounds_toArray, List.set_cons_zero, List.set_cons_succ]); refine wpAnyH_ready (rs := [5]) (by kernel_rfl) (by simp) ?_; refine AllReadyH.cons rfl (fun K hK => ?_) AllReadyH.nil; go_simp; ((go_at_call 14; refine (EQ0.out w33 (bl_tr WZ.out B33.out)).mono ?_; rintro e w35 ⟨rfl, hb⟩; have B35 := Lib.hid (bl_tr B33.out hb); have B35' := Lib.hid (bl_tr B33'.out hb); clear hb)); refine hK.out _ _ (by exact K8.out _ B35.out) (fun hS => ?_); clear hK K; (try simp only [Act.put, List.getElem_toArray, List.getElem_cons_zero, List.getElem_cons_succ, List.setIfInBounds_toArray, List.set_cons_zero, List.set_cons_succ]); (refine wpAnyH_take (i := 6) (v := ?_) rfl (by kernel_rfl) (by kernel_rfl) (by kernel_rfl) (fun _ _ _ h => h) ?_ (by assumption) ?_; rotate_left; (next => (refine Or.inl ⟨by kernel_rfl, ?_⟩; ((intro w hSw; (try dsimp only at hSw); go_simp) <;> with_reducible rfl))); (try simp only [Act.put, List.getElem_toArray, List.getElem_cons_zero, List.getElem_cons_succ, List.setIfInBounds_toArray, List.set_cons_zero, List.set_cons_succ])); (refine wpAnyH_take (i := 7) (v := ?_) rfl (by kernel_rfl) (by kernel_rfl) (by kernel_rfl) (fun _ _ _ h => h) ?_ (by assumption) ?_; rotate_left; (next => (refine Or.inl ⟨by kernel_rfl, ?_⟩; ((intro w hSw; (try dsimp only at hSw); go_simp) <;> with_reducible rfl))); (try simp only [Act.put, List.getElem_toArray, List.getElem_cons_zero, List.getElem_cons_succ, List.setIfInBounds_toArray, List.set_cons_zero, List.set_cons_succ])); (refine wpAnyH_take (i := 8) (v := ?_) rfl (by kernel_rfl) (by kernel_rfl) (by kernel_rfl) (fun _ _ _ h => h) ?_ (by assumption) ?_; rotate_left; (next => (refine Or.inl ⟨by kernel_rfl, ?_⟩; ((intro w hSw; (try dsimp only at hSw); go_simp) <;> with_reducible rfl))); (try simp only [Act.put, List.getElem_toArray, List.getElem_cons_zero, List.getElem_cons_succ, List.setIfInBounds_toArray, List.set_cons_zero, List.set_cons_succ])); refine wpAnyH_done (by kernel_rfl) ?_ _)
  go_simp
  go_upto_region 10 with fail
  clear XP XQ EP0 EQ0 SD DE ED KS KT K8 DP0 DQ0 SP0 SQ0 RP0 RQ0 SP SQ RP RQ DP DQ OD DD ZS HP hS B1 hmx kpm gdm q1 q2
  by_cases he1 : e1 = 0
  · subst he1
    by_cases he2 : e2 = 0
    · subst he2
      obtain ⟨L, hL, hlen, ⟨d2, x2, x2k, x2r⟩, ⟨ds, xs, xsk, xsr, xsf⟩, ⟨dl, xl, xlk⟩⟩ := PR.out.2 rfl rfl
      simp only [Prod.mk.injEq] at hL hlen xs xsr xl
      obtain ⟨rfl, hk3, rfl⟩ := hL
      have hG := G1.out
      (try simp only at hG)
      have h1 := M1.out
      have h2 := M2.out
      have h3 := M3.out
      obtain ⟨s, hs⟩ : ∃ s, n1 + n2 = s := ⟨_, rfl⟩
      obtain ⟨m12, hm12⟩ : ∃ m : Nat, m1 + m2 = m := ⟨_, rfl⟩
      obtain ⟨sc, hsc⟩ : ∃ m : Nat, 3 + m1 = m := ⟨_, rfl⟩
      obtain ⟨nl, hnl⟩ : ∃ m : Nat, m1 + m2 + 4 = m := ⟨_, rfl⟩
      obtain ⟨rr, hrr⟩ : ∃ m, n1 + 2 = m := ⟨_, rfl⟩
      rw [← h1, hsc] at xs
      rw [← h1, ← h2, hnl] at xl
      rw [hrr] at xsr
      have hm3 : m3 = nl + 1 := by omega
      have t1 : 2 < m3 := by omega
      have t1' : (2 : Int) < (m3 : Int) := by omega
      have t2 : sc < m3 := by omega
      have t2' : (sc : Int) < (m3 : Int) := by omega
      have t3 : nl < m3 := by omega
      have t3' : (nl : Int) < (m3 : Int) := by omega
      have t4 : ¬ (sc : Int) < 0 := by omega
      have t5 : ¬ (nl : Int) < 0 := by omega
      obtain ⟨kw1, kw2, kw3, kw4, kw5, kw6, kw7⟩ : (wrap64 (n1 + n2) = s) ∧ (wrap64 (s + 2) = k3) ∧ (wrap64 ((m1 : Int) + (m2 : Int)) = (m12 : Int)) ∧ (wrap64 ((m12 : Int) + 5) = (m3 : Int)) ∧ (wrap64 (3 + (m1 : Int)) = (sc : Int)) ∧ (wrap64 (n1 + 2) = rr) ∧ (wrap64 ((m3 : Int) - 1) = (nl : Int)) := ⟨w64i hs (by omega), w64i (by omega) (by omega), w64i (by omega) (by omega), w64i (by omega) (by omega), w64i (by omega) (by omega), w64i hrr (by omega), w64i (by omega) (by omega)⟩
      have gk : (k3 != k3) = false := bne_self_eq_false _
      have gm : ((m3 : Int) != (m3 : Int)) = false := bne_self_eq_false _
      have grr : (rr == rr) = true := beq_self_eq_true _
      have RZ := R3.out.below B35'.out
      rw [h3] at RZ
      obtain ⟨_, _, _, _, b, off, rfl, lb, _, f2⟩ := RZ.get x2
      obtain ⟨_, _, _, _, b', off', e, _, _, fs⟩ := RZ.get xs
      simp only [Option.some.injEq, Addr.mk.injEq, and_true] at e
      obtain ⟨rfl, rfl⟩ := e
      obtain ⟨_, _, _, _, b', off', e, _, _, fl⟩ := RZ.get xl
      simp only [Option.some.injEq, Addr.mk.injEq, and_true] at e
      obtain ⟨rfl, rfl⟩ := e
      have f2k : w35.cell? ⟨b, off + 22, none⟩ = some (.int .i64 5) := by rw [← x2k]; exact f2.1
      have f2r : w35.cell? ⟨b, off + 23, none⟩ = some (.int .i64 2) := by rw [← x2r]; exact f2.2.1
      have fsk : w35.cell? ⟨b, off + sc * 11, none⟩ = some (.int .i64 5) := by rw [← xsk]; exact fs.1
      have fsr : w35.cell? ⟨b, off + sc * 11 + 1, none⟩ = some (.int .i64 rr) := by rw [← xsr]; exact fs.2.1
      have fsf : w35.cell? ⟨b, off + sc * 11 + 2, none⟩ = some (.int .i64 1) := by rw [← xsf]; exact fs.2.2.1
      have flk : w35.cell? ⟨b, off + nl * 11, none⟩ = some (.int .i64 8) := by rw [← xlk]; exact fl.1
      clear x2 x2k x2r xs xsk xsr xsf xl xlk hlen hk3 hG h1 h2 h3 hs hm12 hsc hnl hrr hm3 RZ f2 fs fl G1 PR R3 M1 M2 M3 h5
      go_wp2_with (go_at_call 8; go_loud (refine (GO.out w35 (bl_tr WZ.out B35.out)).mono ?_; rintro e9 wg ⟨rfl, hb⟩; have BG := Lib.hid (bl_tr (bl_tr WZ.out B35.out) hb); clear hb))
      go_ret
      exact ⟨rfl, BG.out⟩
    · have hb : (e2 != 0) = true := bne_iff_ne.2 he2
      obtain ⟨rfl, rfl, rfl⟩ : l3 = [] ∧ k3 = 0 ∧ e3 = 24 := by have h := PR.out.1 (.inr he2); simp only [Prod.mk.injEq] at h; exact h
      obtain rfl : m3 = 0 := M3.out
      clear he2 PR G1 M1 M2 M3 h5
      go_wp2_with (go_at_call 8; go_loud (refine (GO.out w35 (bl_tr WZ.out B35.out)).mono ?_; rintro e9 wg ⟨rfl, hb⟩; have BG := Lib.hid (bl_tr (bl_tr WZ.out B35.out) hb); clear hb))
      go_ret
      exact ⟨rfl, BG.out⟩
  · have hb : (e1 != 0) = true := bne_iff_ne.2 he1
    obtain ⟨rfl, rfl, rfl⟩ : l3 = [] ∧ k3 = 0 ∧ e3 = 24 := by have h := PR.out.1 (.inl he1); simp only [Prod.mk.injEq] at h; exact h
    obtain rfl : m3 = 0 := M3.out
    clear he1 PR G1 M1 M2 M3 h5
    go_wp2_with (go_at_call 8; go_loud (refine (GO.out w35 (bl_tr WZ.out B35.out)).mono ?_; rintro e9 wg ⟨rfl, hb⟩; have BG := Lib.hid (bl_tr (bl_tr WZ.out B35.out) hb); clear hb))
    go_ret
    exact ⟨rfl, BG.out⟩
theorem pair_any (p q : Tree) (A A' : Option Addr) (c c' : Nat) (w : World) (hp : IsNd anyB w (.slice A p.kids.length c) p.kids) (hq : IsNd anyB w (.slice A' q.kids.length c') q.kids) (op : OkK [p]) (oq : OkK [q]) (ht : PowTab w) :
    Calls Tryd.prog 5 #[nodeV p (.slice A p.kids.length c), nodeV q (.slice A' q.kids.length c')] w fun e w' => e = .returned (.bool true) ∧ Below w.heap.size w w' := by
  by_cases h1 : 1500 ≤ sizeT p
  · exact pair_a p q A A' c c' w hp hq ht h1
  by_cases h2 : 1500 ≤ sizeT q
  · exact pair_b p q A A' c c' w hp hq ht h1 h2
  cases h3 : (p.op == 40 || p.op == 64) with
  | true => exact pair_c p q A A' c c' w hp hq ht h1 h2 h3
  | false =>
    cases h4 : (q.op == 40 || q.op == 64) with
    | true => exact pair_d p q A A' c c' w hp hq ht h1 h2 h3 h4
    | false =>
      by_cases h5 : 200 ≤ max (deepT p) (deepT q)
      · exact pair_e p q A A' c c' w hp hq ht h1 h2 h3 h4 h5
      · exact pair_f p q A A' c c' w hp hq op oq ht h1 h2 h3 h4 h5
end Go.Proofs.YtiagegecnopfgaaDoor
