/- The reference's Node on equal trees, walked. -/
import Derived.Test.YtiagegecnopfgaaDoorPaT
namespace Go.Proofs.YtiagegecnopfgaaDoor
set_option linter.all false
open Go.ChangeShapes Go.WideShapes Go.ChangeAt Go.RowKit Go.Sort Go.Deep

/-- two boxes that a function keeps -/
def TwoB (w X : World) (o o2 : Obj) : Prop := X.heap[w.heap.size]? = some o ∧ X.heap[w.heap.size + 1]? = some o2 ∧ Below w.heap.size w X
theorem TwoB.step {w X Y : World} {o o2 : Obj} (h : TwoB w X o o2) (hb : Below X.heap.size X Y) : TwoB w Y o o2 :=
  ⟨(hb.block _ (Array.getElem?_eq_some_iff.1 h.1).1).trans h.1, (hb.block _ (Array.getElem?_eq_some_iff.1 h.2.1).1).trans h.2.1, bl_tr h.2.2 hb⟩
theorem TwoB.start (w : World) (o o2 : Obj) : TwoB w ((w.alloc o).alloc o2) o o2 := by
  refine ⟨(heap_alloc_old _ _ (by simp)).trans (heap_alloc_new _ _), ?_, by (repeat (with_reducible first | exact Below.refl _ _ | (refine bl_set ?_ (by first | omega | (simp; done) | (simp; omega)) _) | refine bl_gr ?_ _ | refine bl_al ?_ _ | refine below_setRow ?_ (by first | omega | (simp; done) | (simp; omega)) _ | refine bl_drewN ?_ _ | refine Below.drew ?_ | (refine bl_tr ?_ (by assumption))))⟩
  have := heap_alloc_new (w.alloc o) o2
  simpa using this
theorem TwoB.lt {w X : World} {o o2 : Obj} (h : TwoB w X o o2) : w.heap.size + 1 < X.heap.size := (Array.getElem?_eq_some_iff.1 h.2.1).1
def NodeC (N : Nat) : Prop := ∀ (P P' : Nat → Prop) (t : Tree) (A A' : Option Addr) (c c' : Nat) (w : World), sizeT t < N → IsNd P w (.slice A t.kids.length c) t.kids → IsNd P' w (.slice A' t.kids.length c') t.kids →
  Calls Tryd.prog 21 #[nodeV t (.slice A t.kids.length c), nodeV t (.slice A' t.kids.length c')] w fun e w' => e = .returned (.bool true) ∧ Below w.heap.size w w'
set_option maxRecDepth 100000 in
set_option maxHeartbeats 8000000 in
theorem node_step {N : Nat} (IH : NodeC N) : NodeC (N + 1) := by
  intro P P' t A A' c c' w ht h h'
  have HL := Lib.hid (show t.kids.length ≤ 9223372036854775807 from by obtain ⟨_, _, _, hm⟩ := h.form; unfold maxLen at hm; omega)
  have IC := Lib.hid (fun (q : Nat) (d : Tree) (hd : t.kids[q]? = some d) A5 c5 A6 c6 W (hk : IsNd P W (.slice A5 d.kids.length c5) d.kids) (hk' : IsNd P' W (.slice A6 d.kids.length c6) d.kids) => IH P P' d A5 A6 c5 c6 W (by have := sizeT_kid (List.mem_of_getElem? hd); omega) hk hk')
  have BW := Lib.hid (fun (V : World) (hV : Below w.heap.size w V) => And.intro (h.bel hV) (h'.bel hV))
  have T0 := Lib.hid (TwoB.start w (nodeO t (.slice A t.kids.length c)) (nodeO t (.slice A' t.kids.length c')))
  have e1 : (t.op != t.op) = false := bne_self_eq_false _
  have e2 : (t.at_ != t.at_) = false := bne_self_eq_false _
  have e3 : (t.n != t.n) = false := bne_self_eq_false _
  have e4 : (t.m != t.m) = false := bne_self_eq_false _
  have e6 : ((t.kids.length : Int) != (t.kids.length : Int)) = false := bne_self_eq_false _
  clear h h' ht
  go_enter Tryd.func21, Tryd.ntmps21
  go_wp2
  go_loopw [5] (fun i X => ∃ (q : Nat), i = .int .i64 q ∧ Hid (q ≤ t.kids.length) ∧ TwoB w X (nodeO t (.slice A t.kids.length c)) (nodeO t (.slice A' t.kids.length c'))) (fun i _ => t.kids.length - (intOf i).toNat)
  case atStart => exact ⟨0, rfl, Lib.hid (Nat.zero_le _), T0.out⟩
  case round =>
    clear T0
    obtain ⟨q, rfl, HQ, hx⟩ := hrel
    have BX := Lib.hid hx
    obtain ⟨⟨a0, a1, a2, a3, a4, a5⟩, _⟩ := cells6n hx.1
    obtain ⟨⟨y0, y1, y2, y3, y4, y5⟩, _⟩ := cells6n hx.2.1
    have l1 := hx.lt
    have l0 : w.heap.size < wr.heap.size := by omega
    by_cases hlt : q < t.kids.length
    · have q1 : (q : Int) < (t.kids.length : Int) := by omega
      have q3 : ¬ (q : Int) < 0 := by omega
      obtain ⟨d, hd⟩ : ∃ d, t.kids[q]? = some d := ⟨_, List.getElem?_eq_getElem hlt⟩
      obtain ⟨b, off, cap, A5, c5, f1, lb, hp, hk, u0⟩ := (BW.out _ hx.2.2).1.at_ hd
      simp only [Value.slice.injEq] at f1
      obtain ⟨rfl, _, rfl⟩ := f1
      obtain ⟨b', off', cap', A6, c6, f2, lb', hp', hk', u1⟩ := (BW.out _ hx.2.2).2.at_ hd
      simp only [Value.slice.injEq] at f2
      obtain ⟨rfl, _, rfl⟩ := f2
      have K1 := Lib.hid (fun W (hW : Below wr.heap.size wr W) => IC.out q d hd A5 c5 A6 c6 W (hk.bel hW) (hk'.bel hW))
      have kp1 : wrap64 ((q : Int) + 1) = ((q + 1 : Nat) : Int) := w64c (by omega) (by have := HL.out; omega)
      have LQ := Lib.hid hlt
      have U0 := Lib.hid (fun W (hW : Below wr.heap.size wr W) => And.intro (AtN.low u0 lb hW) (AtN.low u1 lb' hW))
      have S0 := Lib.hid (And.intro hx.1 (And.intro hx.2.1 (And.intro u0 u1)))
      clear hlt hd hx hk hk' hp hp' u0 u1
      go_upto_region 6 with fail
      clear a0 a1 a2 a3 a4 a5 y0 y1 y2 y3 y4 y5 l0 l1 lb lb'
      (refine wp_region_held_drew (S := (fun V : World => V.heap[w.heap.size]? = some (nodeO t (.slice (some ⟨b, off, none⟩) t.kids.length c)) ∧ V.heap[w.heap.size + 1]? = some (nodeO t (.slice (some ⟨b', off', none⟩) t.kids.length c')) ∧ AtN V b (off + q * 6) d (.slice A5 d.kids.length c5) ∧ AtN V b' (off' + q * 6) d (.slice A6 d.kids.length c6))) Tryd.mixed (by exact S0.out) (fun hS => ?_); (refine wpAnyH_take (i := 0) (v := ?_) rfl (by kernel_rfl) (by kernel_rfl) (by kernel_rfl) (fun _ _ _ h => h) ?_ (by assumption) ?_; rotate_left; (next => (refine Or.inl ⟨by kernel_rfl, ?_⟩; ((intro w hSw; (try dsimp only at hSw); go_simp) <;> with_reducible rfl))); (try simp only [Act.put, List.getElem_toArray, List.getElem_cons_zero, List.getElem_cons_succ, List.setIfInBounds_toArray, List.set_cons_zero, List.set_cons_succ])); (refine wpAnyH_take (i := 1) (v := ?_) rfl (by kernel_rfl) (by kernel_rfl) (by kernel_rfl) (fun _ _ _ h => h) ?_ (by assumption) ?_; rotate_left; (next => (refine Or.inl ⟨by kernel_rfl, ?_⟩; ((intro w hSw; (try dsimp only at hSw); (obtain ⟨⟨b0, b1, b2, b3, b4, b5⟩, _⟩ := cells6n hSw.1; obtain ⟨⟨c0, c1, c2, c3, c4, c5⟩, _⟩ := cells6n hSw.2.1; obtain ⟨u0, u1, u2, u3, u4, u5⟩ := hSw.2.2.1; obtain ⟨v0, v1, v2, v3, v4, v5⟩ := hSw.2.2.2; have l0 := (Array.getElem?_eq_some_iff.1 hSw.1).1; have l1 := (Array.getElem?_eq_some_iff.1 hSw.2.1).1); go_simp) <;> with_reducible rfl))); (try simp only [Act.put, List.getElem_toArray, List.getElem_cons_zero, List.getElem_cons_succ, List.setIfInBounds_toArray, List.set_cons_zero, List.set_cons_succ])); (refine wpAnyH_take (i := 2) (v := ?_) rfl (by kernel_rfl) (by kernel_rfl) (by kernel_rfl) (fun _ _ _ h => h) ?_ (by assumption) ?_; rotate_left; (next => (refine Or.inl ⟨by kernel_rfl, ?_⟩; ((intro w hSw; (try dsimp only at hSw); go_simp) <;> with_reducible rfl))); (try simp only [Act.put, List.getElem_toArray, List.getElem_cons_zero, List.getElem_cons_succ, List.setIfInBounds_toArray, List.set_cons_zero, List.set_cons_succ])); (refine wpAnyH_take (i := 3) (v := ?_) rfl (by kernel_rfl) (by kernel_rfl) (by kernel_rfl) (fun _ _ _ h => h) ?_ (by assumption) ?_; rotate_left; (next => (refine Or.inl ⟨by kernel_rfl, ?_⟩; ((intro w hSw; (try dsimp only at hSw); go_simp) <;> with_reducible rfl))); (try simp only [Act.put, List.getElem_toArray, List.getElem_cons_zero, List.getElem_cons_succ, List.setIfInBounds_toArray, List.set_cons_zero, List.set_cons_succ])); (refine wpAnyH_take (i := 4) (v := ?_) rfl (by kernel_rfl) (by kernel_rfl) (by kernel_rfl) (fun _ _ _ h => h) ?_ (by assumption) ?_; rotate_left; (next => (refine Or.inl ⟨by kernel_rfl, ?_⟩; ((intro w hSw; (try dsimp only at hSw); (obtain ⟨⟨b0, b1, b2, b3, b4, b5⟩, _⟩ := cells6n hSw.1; obtain ⟨⟨c0, c1, c2, c3, c4, c5⟩, _⟩ := cells6n hSw.2.1; obtain ⟨u0, u1, u2, u3, u4, u5⟩ := hSw.2.2.1; obtain ⟨v0, v1, v2, v3, v4, v5⟩ := hSw.2.2.2; have l0 := (Array.getElem?_eq_some_iff.1 hSw.1).1; have l1 := (Array.getElem?_eq_some_iff.1 hSw.2.1).1); go_simp) <;> with_reducible rfl))); (try simp only [Act.put, List.getElem_toArray, List.getElem_cons_zero, List.getElem_cons_succ, List.setIfInBounds_toArray, List.set_cons_zero, List.set_cons_succ])); (refine wpAnyH_take (i := 5) (v := ?_) rfl (by kernel_rfl) (by kernel_rfl) (by kernel_rfl) (fun _ _ _ h => h) ?_ (by assumption) ?_; rotate_left; (next => (refine Or.inl ⟨by kernel_rfl, ?_⟩; ((intro w hSw; (try dsimp only at hSw); go_simp) <;> with_reducible rfl))); (try simp only [Act.put, List.getElem_toArray, List.getElem_cons_zero, List.getElem_cons_succ, List.setIfInBounds_toArray, List.set_cons_zero, List.set_cons_succ])); (refine wpAnyH_take (i := 6) (v := ?_) rfl (by kernel_rfl) (by kernel_rfl) (by kernel_rfl) (fun _ _ _ h => h) ?_ (by assumption) ?_; rotate_left; (next => (refine Or.inl ⟨by kernel_rfl, ?_⟩; ((intro w hSw; (try dsimp only at hSw); (obtain ⟨⟨b0, b1, b2, b3, b4, b5⟩, _⟩ := cells6n hSw.1; obtain ⟨⟨c0, c1, c2, c3, c4, c5⟩, _⟩ := cells6n hSw.2.1; obtain ⟨u0, u1, u2, u3, u4, u5⟩ := hSw.2.2.1; obtain ⟨v0, v1, v2, v3, v4, v5⟩ := hSw.2.2.2; have l0 := (Array.getElem?_eq_some_iff.1 hSw.1).1; have l1 := (Array.getElem?_eq_some_iff.1 hSw.2.1).1); go_simp) <;> with_reducible rfl))); (try simp only [Act.put, List.getElem_toArray, List.getElem_cons_zero, List.getElem_cons_succ, List.setIfInBounds_toArray, List.set_cons_zero, List.set_cons_succ])); (refine wpAnyH_take (i := 7) (v := ?_) rfl (by kernel_rfl) (by kernel_rfl) (by kernel_rfl) (fun _ _ _ h => h) ?_ (by assumption) ?_; rotate_left; (next => (refine Or.inl ⟨by kernel_rfl, ?_⟩; ((intro w hSw; (try dsimp only at hSw); go_simp) <;> with_reducible rfl))); (try simp only [Act.put, List.getElem_toArray, List.getElem_cons_zero, List.getElem_cons_succ, List.setIfInBounds_toArray, List.set_cons_zero, List.set_cons_succ])); (refine wpAnyH_take (i := 8) (v := ?_) rfl (by kernel_rfl) (by kernel_rfl) (by kernel_rfl) (fun _ _ _ h => h) ?_ (by assumption) ?_; rotate_left; (next => (refine Or.inl ⟨by kernel_rfl, ?_⟩; ((intro w hSw; (try dsimp only at hSw); go_simp) <;> with_reducible rfl))); (try simp only [Act.put, List.getElem_toArray, List.getElem_cons_zero, List.getElem_cons_succ, List.setIfInBounds_toArray, List.set_cons_zero, List.set_cons_succ])); (refine wpAnyH_take (i := 9) (v := ?_) rfl (by kernel_rfl) (by kernel_rfl) (by kernel_rfl) (fun _ _ _ h => h) ?_ (by assumption) ?_; rotate_left; (next => (refine Or.inl ⟨by kernel_rfl, ?_⟩; ((intro w hSw; (try dsimp only at hSw); (obtain ⟨⟨b0, b1, b2, b3, b4, b5⟩, _⟩ := cells6n hSw.1; obtain ⟨⟨c0, c1, c2, c3, c4, c5⟩, _⟩ := cells6n hSw.2.1; obtain ⟨u0, u1, u2, u3, u4, u5⟩ := hSw.2.2.1; obtain ⟨v0, v1, v2, v3, v4, v5⟩ := hSw.2.2.2; have l0 := (Array.getElem?_eq_some_iff.1 hSw.1).1; have l1 := (Array.getElem?_eq_some_iff.1 hSw.2.1).1); go_simp) <;> with_reducible rfl))); (try simp only [Act.put, List.getElem_toArray, List.getElem_cons_zero, List.getElem_cons_succ, List.setIfInBounds_toArray, List.set_cons_zero, List.set_cons_succ])); refine wpAnyH_ready (rs := [10]) (by kernel_rfl) (by simp) ?_; refine AllReadyH.cons rfl (fun K hK => ?_) AllReadyH.nil; go_simp; ((go_at_call 21; refine (K1.out wr.drew (Below.drew (Below.refl _ _))).mono ?_; rintro e w4 ⟨rfl, hb4⟩; have B4 := Lib.hid (show Below wr.heap.size wr w4 from bl_tr (Below.drew (Below.refl _ _)) hb4); have X4 := Lib.hid (BX.out.step B4.out); clear hb4)); refine hK.out _ _ (by exact ⟨X4.out.1, X4.out.2.1, U0.out _ B4.out⟩) (fun hS => ?_); clear hK K; (try simp only [Act.put, List.getElem_toArray, List.getElem_cons_zero, List.getElem_cons_succ, List.setIfInBounds_toArray, List.set_cons_zero, List.set_cons_succ]); (refine wpAnyH_take (i := 11) (v := ?_) rfl (by kernel_rfl) (by kernel_rfl) (by kernel_rfl) (fun _ _ _ h => h) ?_ (by assumption) ?_; rotate_left; (next => (refine Or.inl ⟨by kernel_rfl, ?_⟩; ((intro w hSw; (try dsimp only at hSw); go_simp) <;> with_reducible rfl))); (try simp only [Act.put, List.getElem_toArray, List.getElem_cons_zero, List.getElem_cons_succ, List.setIfInBounds_toArray, List.set_cons_zero, List.set_cons_succ])); refine wpAnyH_done (by kernel_rfl) ?_ _)
      go_simp
      go_wp2
      go_roundw
      case rel => exact ⟨q + 1, by first | with_reducible rfl | (rw [kp1]; done), Lib.hid LQ.out, X4.out⟩
      case measure => (first | ((try rw [kp1]); exact meas_c rfl LQ.out) | (clear kp1; have := LQ.out; simp only [intOf]; omega))
    · have q1 : ¬ (q : Int) < (t.kids.length : Int) := by omega
      clear hlt hx
      go_wp2
      go_ret
      exact ⟨rfl, BX.out.2.2⟩
end Go.Proofs.YtiagegecnopfgaaDoor
