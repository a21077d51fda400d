/- The reference's Copy and Exact, walked; what overwriting leaves. -/
import Derived.Test.YtiagegecnopfgaaDoorPaX
import Derived.Test.YtiagegecnopfgaaDoorPaN
namespace Go.Proofs.YtiagegecnopfgaaDoor
set_option linter.all false
open Go.ChangeShapes Go.WideShapes Go.ChangeAt Go.RowKit Go.Sort Go.Deep

def ExactC (N : Nat) : Prop := ∀ (P P' : Nat → Prop) (t : Tree) (A A' : Option Addr) (c c' : Nat) (w : World), sizeT t < N → IsNd P w (.slice A t.kids.length c) t.kids → IsNd P' w (.slice A' t.kids.length c') t.kids →
  Calls Tryd.prog 17 #[nodeV t (.slice A t.kids.length c), nodeV t (.slice A' t.kids.length c')] w fun e w' => e = .returned (.bool true) ∧ Below w.heap.size w w'
set_option maxRecDepth 100000 in
set_option maxHeartbeats 8000000 in
theorem exact_step {N : Nat} (IH : ExactC N) : ExactC (N + 1) := by
  intro P P' t A A' c c' w ht h h'
  have HL := Lib.hid (show t.kids.length ≤ 9223372036854775807 from by obtain ⟨_, _, _, hm⟩ := h.form; unfold maxLen at hm; omega)
  have IC := Lib.hid (fun (q : Nat) (d : Tree) (hd : t.kids[q]? = some d) A5 c5 A6 c6 W (hk : IsNd P W (.slice A5 d.kids.length c5) d.kids) (hk' : IsNd P' W (.slice A6 d.kids.length c6) d.kids) => IH P P' d A5 A6 c5 c6 W (by have := sizeT_kid (List.mem_of_getElem? hd); omega) hk hk')
  have BW := Lib.hid (fun (V : World) (hV : Below w.heap.size w V) => And.intro (h.bel hV) (h'.bel hV))
  have T0 := Lib.hid (TwoB.start w (nodeO t (.slice A t.kids.length c)) (nodeO t (.slice A' t.kids.length c')))
  have e1 : (t.op != t.op) = false := bne_self_eq_false _
  have e2 : (t.at_ != t.at_) = false := bne_self_eq_false _
  have e3 : (t.n != t.n) = false := bne_self_eq_false _
  have e4 : (t.m != t.m) = false := bne_self_eq_false _
  have e6 : ((t.kids.length : Int) != (t.kids.length : Int)) = false := bne_self_eq_false _
  clear h h' ht
  go_enter Tryd.func17, Tryd.ntmps17
  go_wp2
  go_loopw [5] (fun i X => ∃ (q : Nat), i = .int .i64 q ∧ Hid (q ≤ t.kids.length) ∧ TwoB w X (nodeO t (.slice A t.kids.length c)) (nodeO t (.slice A' t.kids.length c'))) (fun i _ => t.kids.length - (intOf i).toNat)
  case atStart => exact ⟨0, rfl, Lib.hid (Nat.zero_le _), T0.out⟩
  case round =>
    clear T0
    obtain ⟨q, rfl, HQ, hx⟩ := hrel
    have BX := Lib.hid hx
    obtain ⟨⟨a0, a1, a2, a3, a4, a5⟩, _⟩ := cells6n hx.1
    obtain ⟨⟨y0, y1, y2, y3, y4, y5⟩, _⟩ := cells6n hx.2.1
    have l1 := hx.lt
    have l0 : w.heap.size < wr.heap.size := by omega
    by_cases hlt : q < t.kids.length
    · have q1 : (q : Int) < (t.kids.length : Int) := by omega
      have q3 : ¬ (q : Int) < 0 := by omega
      obtain ⟨d, hd⟩ : ∃ d, t.kids[q]? = some d := ⟨_, List.getElem?_eq_getElem hlt⟩
      obtain ⟨b, off, cap, A5, c5, f1, lb, hp, hk, u0⟩ := (BW.out _ hx.2.2).1.at_ hd
      simp only [Value.slice.injEq] at f1
      obtain ⟨rfl, _, rfl⟩ := f1
      obtain ⟨b', off', cap', A6, c6, f2, lb', hp', hk', u1⟩ := (BW.out _ hx.2.2).2.at_ hd
      simp only [Value.slice.injEq] at f2
      obtain ⟨rfl, _, rfl⟩ := f2
      have K1 := Lib.hid (fun W (hW : Below wr.heap.size wr W) => IC.out q d hd A5 c5 A6 c6 W (hk.bel hW) (hk'.bel hW))
      have kp1 : wrap64 ((q : Int) + 1) = ((q + 1 : Nat) : Int) := w64c (by omega) (by have := HL.out; omega)
      have LQ := Lib.hid hlt
      have U0 := Lib.hid (fun W (hW : Below wr.heap.size wr W) => And.intro (AtN.low u0 lb hW) (AtN.low u1 lb' hW))
      have S0 := Lib.hid (And.intro hx.1 (And.intro hx.2.1 (And.intro u0 u1)))
      clear hlt hd hx hk hk' hp hp' u0 u1
      go_upto_region 6 with fail
      clear a0 a1 a2 a3 a4 a5 y0 y1 y2 y3 y4 y5 l0 l1 lb lb'
      (refine wp_region_held_drew (S := (fun V : World => V.heap[w.heap.size]? = some (nodeO t (.slice (some ⟨b, off, none⟩) t.kids.length c)) ∧ V.heap[w.heap.size + 1]? = some (nodeO t (.slice (some ⟨b', off', none⟩) t.kids.length c')) ∧ AtN V b (off + q * 6) d (.slice A5 d.kids.length c5) ∧ AtN V b' (off' + q * 6) d (.slice A6 d.kids.length c6))) Tryd.mixed (by exact S0.out) (fun hS => ?_); (refine wpAnyH_take (i := 0) (v := ?_) rfl (by kernel_rfl) (by kernel_rfl) (by kernel_rfl) (fun _ _ _ h => h) ?_ (by assumption) ?_; rotate_left; (next => (refine Or.inl ⟨by kernel_rfl, ?_⟩; ((intro w hSw; (try dsimp only at hSw); go_simp) <;> with_reducible rfl))); (try simp only [Act.put, List.getElem_toArray, List.getElem_cons_zero, List.getElem_cons_succ, List.setIfInBounds_toArray, List.set_cons_zero, List.set_cons_succ])); (refine wpAnyH_take (i := 1) (v := ?_) rfl (by kernel_rfl) (by kernel_rfl) (by kernel_rfl) (fun _ _ _ h => h) ?_ (by assumption) ?_; rotate_left; (next => (refine Or.inl ⟨by kernel_rfl, ?_⟩; ((intro w hSw; (try dsimp only at hSw); (obtain ⟨⟨b0, b1, b2, b3, b4, b5⟩, _⟩ := cells6n hSw.1; obtain ⟨⟨c0, c1, c2, c3, c4, c5⟩, _⟩ := cells6n hSw.2.1; obtain ⟨u0, u1, u2, u3, u4, u5⟩ := hSw.2.2.1; obtain ⟨v0, v1, v2, v3, v4, v5⟩ := hSw.2.2.2; have l0 := (Array.getElem?_eq_some_iff.1 hSw.1).1; have l1 := (Array.getElem?_eq_some_iff.1 hSw.2.1).1); go_simp) <;> with_reducible rfl))); (try simp only [Act.put, List.getElem_toArray, List.getElem_cons_zero, List.getElem_cons_succ, List.setIfInBounds_toArray, List.set_cons_zero, List.set_cons_succ])); (refine wpAnyH_take (i := 2) (v := ?_) rfl (by kernel_rfl) (by kernel_rfl) (by kernel_rfl) (fun _ _ _ h => h) ?_ (by assumption) ?_; rotate_left; (next => (refine Or.inl ⟨by kernel_rfl, ?_⟩; ((intro w hSw; (try dsimp only at hSw); go_simp) <;> with_reducible rfl))); (try simp only [Act.put, List.getElem_toArray, List.getElem_cons_zero, List.getElem_cons_succ, List.setIfInBounds_toArray, List.set_cons_zero, List.set_cons_succ])); (refine wpAnyH_take (i := 3) (v := ?_) rfl (by kernel_rfl) (by kernel_rfl) (by kernel_rfl) (fun _ _ _ h => h) ?_ (by assumption) ?_; rotate_left; (next => (refine Or.inl ⟨by kernel_rfl, ?_⟩; ((intro w hSw; (try dsimp only at hSw); go_simp) <;> with_reducible rfl))); (try simp only [Act.put, List.getElem_toArray, List.getElem_cons_zero, List.getElem_cons_succ, List.setIfInBounds_toArray, List.set_cons_zero, List.set_cons_succ])); (refine wpAnyH_take (i := 4) (v := ?_) rfl (by kernel_rfl) (by kernel_rfl) (by kernel_rfl) (fun _ _ _ h => h) ?_ (by assumption) ?_; rotate_left; (next => (refine Or.inl ⟨by kernel_rfl, ?_⟩; ((intro w hSw; (try dsimp only at hSw); (obtain ⟨⟨b0, b1, b2, b3, b4, b5⟩, _⟩ := cells6n hSw.1; obtain ⟨⟨c0, c1, c2, c3, c4, c5⟩, _⟩ := cells6n hSw.2.1; obtain ⟨u0, u1, u2, u3, u4, u5⟩ := hSw.2.2.1; obtain ⟨v0, v1, v2, v3, v4, v5⟩ := hSw.2.2.2; have l0 := (Array.getElem?_eq_some_iff.1 hSw.1).1; have l1 := (Array.getElem?_eq_some_iff.1 hSw.2.1).1); go_simp) <;> with_reducible rfl))); (try simp only [Act.put, List.getElem_toArray, List.getElem_cons_zero, List.getElem_cons_succ, List.setIfInBounds_toArray, List.set_cons_zero, List.set_cons_succ])); (refine wpAnyH_take (i := 5) (v := ?_) rfl (by kernel_rfl) (by kernel_rfl) (by kernel_rfl) (fun _ _ _ h => h) ?_ (by assumption) ?_; rotate_left; (next => (refine Or.inl ⟨by kernel_rfl, ?_⟩; ((intro w hSw; (try dsimp only at hSw); go_simp) <;> with_reducible rfl))); (try simp only [Act.put, List.getElem_toArray, List.getElem_cons_zero, List.getElem_cons_succ, List.setIfInBounds_toArray, List.set_cons_zero, List.set_cons_succ])); (refine wpAnyH_take (i := 6) (v := ?_) rfl (by kernel_rfl) (by kernel_rfl) (by kernel_rfl) (fun _ _ _ h => h) ?_ (by assumption) ?_; rotate_left; (next => (refine Or.inl ⟨by kernel_rfl, ?_⟩; ((intro w hSw; (try dsimp only at hSw); (obtain ⟨⟨b0, b1, b2, b3, b4, b5⟩, _⟩ := cells6n hSw.1; obtain ⟨⟨c0, c1, c2, c3, c4, c5⟩, _⟩ := cells6n hSw.2.1; obtain ⟨u0, u1, u2, u3, u4, u5⟩ := hSw.2.2.1; obtain ⟨v0, v1, v2, v3, v4, v5⟩ := hSw.2.2.2; have l0 := (Array.getElem?_eq_some_iff.1 hSw.1).1; have l1 := (Array.getElem?_eq_some_iff.1 hSw.2.1).1); go_simp) <;> with_reducible rfl))); (try simp only [Act.put, List.getElem_toArray, List.getElem_cons_zero, List.getElem_cons_succ, List.setIfInBounds_toArray, List.set_cons_zero, List.set_cons_succ])); (refine wpAnyH_take (i := 7) (v := ?_) rfl (by kernel_rfl) (by kernel_rfl) (by kernel_rfl) (fun _ _ _ h => h) ?_ (by assumption) ?_; rotate_left; (next => (refine Or.inl ⟨by kernel_rfl, ?_⟩; ((intro w hSw; (try dsimp only at hSw); go_simp) <;> with_reducible rfl))); (try simp only [Act.put, List.getElem_toArray, List.getElem_cons_zero, List.getElem_cons_succ, List.setIfInBounds_toArray, List.set_cons_zero, List.set_cons_succ])); (refine wpAnyH_take (i := 8) (v := ?_) rfl (by kernel_rfl) (by kernel_rfl) (by kernel_rfl) (fun _ _ _ h => h) ?_ (by assumption) ?_; rotate_left; (next => (refine Or.inl ⟨by kernel_rfl, ?_⟩; ((intro w hSw; (try dsimp only at hSw); go_simp) <;> with_reducible rfl))); (try simp only [Act.put, List.getElem_toArray, List.getElem_cons_zero, List.getElem_cons_succ, List.setIfInBounds_toArray, List.set_cons_zero, List.set_cons_succ])); (refine wpAnyH_take (i := 9) (v := ?_) rfl (by kernel_rfl) (by kernel_rfl) (by kernel_rfl) (fun _ _ _ h => h) ?_ (by assumption) ?_; rotate_left; (next => (refine Or.inl ⟨by kernel_rfl, ?_⟩; ((intro w hSw; (try dsimp only at hSw); (obtain ⟨⟨b0, b1, b2, b3, b4, b5⟩, _⟩ := cells6n hSw.1; obtain ⟨⟨c0, c1, c2, c3, c4, c5⟩, _⟩ := cells6n hSw.2.1; obtain ⟨u0, u1, u2, u3, u4, u5⟩ := hSw.2.2.1; obtain ⟨v0, v1, v2, v3, v4, v5⟩ := hSw.2.2.2; have l0 := (Array.getElem?_eq_some_iff.1 hSw.1).1; have l1 := (Array.getElem?_eq_some_iff.1 hSw.2.1).1); go_simp) <;> with_reducible rfl))); (try simp only [Act.put, List.getElem_toArray, List.getElem_cons_zero, List.getElem_cons_succ, List.setIfInBounds_toArray, List.set_cons_zero, List.set_cons_succ])); refine wpAnyH_ready (rs := [10]) (by kernel_rfl) (by simp) ?_; refine AllReadyH.cons rfl (fun K hK => ?_) AllReadyH.nil; go_simp; ((go_at_call 17; refine (K1.out wr.drew (Below.drew (Below.refl _ _))).mono ?_; rintro e w4 ⟨rfl, hb4⟩; have B4 := Lib.hid (show Below wr.heap.size wr w4 from bl_tr (Below.drew (Below.refl _ _)) hb4); have X4 := Lib.hid (BX.out.step B4.out); clear hb4)); refine hK.out _ _ (by exact ⟨X4.out.1, X4.out.2.1, U0.out _ B4.out⟩) (fun hS => ?_); clear hK K; (try simp only [Act.put, List.getElem_toArray, List.getElem_cons_zero, List.getElem_cons_succ, List.setIfInBounds_toArray, List.set_cons_zero, List.set_cons_succ]); (refine wpAnyH_take (i := 11) (v := ?_) rfl (by kernel_rfl) (by kernel_rfl) (by kernel_rfl) (fun _ _ _ h => h) ?_ (by assumption) ?_; rotate_left; (next => (refine Or.inl ⟨by kernel_rfl, ?_⟩; ((intro w hSw; (try dsimp only at hSw); go_simp) <;> with_reducible rfl))); (try simp only [Act.put, List.getElem_toArray, List.getElem_cons_zero, List.getElem_cons_succ, List.setIfInBounds_toArray, List.set_cons_zero, List.set_cons_succ])); refine wpAnyH_done (by kernel_rfl) ?_ _)
      go_simp
      go_wp2
      go_roundw
      case rel => exact ⟨q + 1, by first | with_reducible rfl | (rw [kp1]; done), Lib.hid LQ.out, X4.out⟩
      case measure => (first | ((try rw [kp1]); exact meas_c rfl LQ.out) | (clear kp1; have := LQ.out; simp only [intOf]; omega))
    · have q1 : ¬ (q : Int) < (t.kids.length : Int) := by omega
      clear hlt hx
      go_wp2
      go_ret
      exact ⟨rfl, BX.out.2.2⟩
theorem exact_any (P P' : Nat → Prop) (t : Tree) (A A' : Option Addr) (c c' : Nat) (w : World) (h : IsNd P w (.slice A t.kids.length c) t.kids) (h' : IsNd P' w (.slice A' t.kids.length c') t.kids) :
    Calls Tryd.prog 17 #[nodeV t (.slice A t.kids.length c), nodeV t (.slice A' t.kids.length c')] w fun e w' => e = .returned (.bool true) ∧ Below w.heap.size w w' := by
  have : ∀ N, ExactC N := by
    intro N
    induction N with
    | zero => intro P P' t A A' c c' w ht; omega
    | succ N ih => exact exact_step ih
  exact this (sizeT t + 1) P P' t A A' c c' w (by omega) h h'
theorem one_node (op a n m : Int) (s : ByteArray) (A : Option Addr) (k c : Nat) : ∀ u ∈ NodeR.cs ⟨op, a, n, m, s, .slice A k c⟩, u.oneCell' = true := by
  intro u hu
  simp only [NodeR.cs, List.mem_cons, List.not_mem_nil, or_false] at hu
  rcases hu with rfl | rfl | rfl | rfl | rfl | rfl <;> rfl
/-- a row of copies, its cells named -/
def CpR (lo : Nat) (l : List Tree) (A : Option Addr) (q cp : Nat) (rs : List NodeR) (X : World) : Prop := rs.length = q ∧ X.ownsRow lo 24 6 (.slice A q cp) q (flat NodeR.cs rs) ∧
  ∀ (i : Nat) (x : NodeR) (t : Tree), rs[i]? = some x → l[i]? = some t → (x.op = t.op ∧ x.a = t.at_ ∧ x.n = t.n ∧ x.m = t.m ∧ x.s = t.s) ∧ IsNd (fun b => FrN lo X b ∧ ∀ g, (Value.slice A q cp).ownBlock = some g → g ≠ b) X x.k t.kids
theorem CpR.row {lo : Nat} {l : List Tree} {A : Option Addr} {q cp : Nat} {rs : List NodeR} {X : World} (h : CpR lo l A q cp rs X) : CpRow lo l A q cp X := ⟨rs, h⟩
theorem CpR.app {lo : Nat} {l : List Tree} {A : Option Addr} {q cp : Nat} {rs : List NodeR} {X V U Z : World} (h : CpR lo l A q cp rs X) {d : Tree} (hd : l[q]? = some d) (hlo : lo ≤ X.heap.size) (hb : Below X.heap.size X V) {A4 : Option Addr} {c4 : Nat} (hK : IsNd (FrN X.heap.size V) V (.slice A4 d.kids.length c4) d.kids)
    (hU : Below V.heap.size V U) {g n : Nat} (o : Z.ownsRow lo 24 6 (.slice (some ⟨g, 0, none⟩) (q + 1) n) (q + 1) (flat NodeR.cs (rs ++ [⟨d.op, d.at_, d.n, d.m, d.s, .slice A4 d.kids.length c4⟩]))) (hg : U.grownBy Z (Value.slice A q cp).ownBlock) (hw : (Value.slice A q cp).ownBlock = some g ∨ g = U.heap.size) :
    CpR lo l (some ⟨g, 0, none⟩) (q + 1) n (rs ++ [⟨d.op, d.at_, d.n, d.m, d.s, .slice A4 d.kids.length c4⟩]) Z := by
  obtain ⟨h1, h2, h3⟩ := h
  subst h1
  have T := touch_grownE hg
  have hrow : ∀ k, (Value.slice A rs.length cp).ownBlock = some k → k < X.heap.size := fun k hk => (own_ltN h2 k hk).2
  have keep : ∀ b, b < V.heap.size → (∀ k, (Value.slice A rs.length cp).ownBlock = some k → k ≠ b) → Z.heap[b]? = V.heap[b]? ∧ g ≠ b := by
    intro b hlt hne
    refine ⟨(T.block b (Nat.lt_of_lt_of_le hlt hU.size) fun e => hne b e rfl).trans (hU.block b hlt), ?_⟩
    rcases hw with e | e
    · exact hne g e
    · have := hU.size
      omega
  have hs : V.heap.size ≤ Z.heap.size := Nat.le_trans hU.size T.size
  refine ⟨by simp, o, fun i x t hx ht => ?_⟩
  by_cases hi : i < rs.length
  · rw [List.getElem?_append_left hi] at hx
    obtain ⟨k1, k2⟩ := h3 i x t hx ht
    refine ⟨k1, k2.keep (Nat.le_trans hb.size hs) fun b hp hlt => ?_⟩
    obtain ⟨e, hne⟩ := keep b (Nat.lt_of_lt_of_le hlt hb.size) hp.2
    have e' := e.trans (hb.block b hlt)
    exact ⟨e', hp.1.keep e', fun g' hg' => by simp only [Value.ownBlock, Option.some.injEq] at hg'; rw [← hg']; exact hne⟩
  · rw [List.getElem?_append_right (by omega)] at hx
    have hlen := (List.getElem?_eq_some_iff.1 hx).1
    simp at hlen
    obtain rfl : i = rs.length := by omega
    simp at hx
    subst hx
    rw [hd] at ht
    cases ht
    refine ⟨⟨rfl, rfl, rfl, rfl, rfl⟩, hK.keep hs fun b hp hlt => ?_⟩
    obtain ⟨e, hne⟩ := keep b hlt (fun k hk => by have h1 := hrow k hk; have h2 := hp.1; omega)
    exact ⟨e, ⟨Nat.le_trans hlo hp.1, by rw [e]; exact hp.2⟩, fun g' hg' => by simp only [Value.ownBlock, Option.some.injEq] at hg'; rw [← hg']; exact hne⟩
theorem cp4_fin {w W4 : World} {t : Tree} {A : Option Addr} {n c : Nat} (hk : IsNd (FrN (w.heap.size + 1 + 1) W4) W4 (.slice A n c) t.kids) (hw : Below w.heap.size w W4) :
    IsNd (FrN w.heap.size (st6 W4 (w.heap.size + 1) 0 t (.slice A n c))) (st6 W4 (w.heap.size + 1) 0 t (.slice A n c)) (.slice A n c) t.kids ∧ Below w.heap.size w (st6 W4 (w.heap.size + 1) 0 t (.slice A n c)) := by
  have T2 := st6_touch W4 (w.heap.size + 1) 0 t (.slice A n c)
  refine ⟨hk.keep T2.size fun b hp hlt => ?_, hw.trans (T2.below hw.size fun k hk => by omega)⟩
  have e := T2.block b hlt (fun e => by have := hp.1; omega)
  exact ⟨e, by have := hp.1; omega, by rw [e]; exact hp.2⟩
theorem twoB_grown {w V Z : World} {o o2 : Obj} {X : World} {n : Nat} {v : Value} {xs : List Value} (h : TwoB w V o o2) (hr : X.ownsRow (w.heap.size + 1 + 1) 24 6 v n xs) (hg : V.grownBy Z v.ownBlock) : TwoB w Z o o2 := by
  have T := touch_grownE hg
  have hl : ∀ g, v.ownBlock = some g → w.heap.size + 1 + 1 ≤ g := own_lo hr
  refine ⟨(T.block _ (Array.getElem?_eq_some_iff.1 h.1).1 fun e => ?_).trans h.1, (T.block _ (Array.getElem?_eq_some_iff.1 h.2.1).1 fun e => ?_).trans h.2.1, grown_lo h.2.2 hg fun g hg' => ?_⟩
  · have := hl _ e
    omega
  · have := hl _ e
    omega
  · have := hl _ hg'
    omega
def Cp4C (N : Nat) : Prop := ∀ (P : Nat → Prop) (t : Tree) (A : Option Addr) (c : Nat) (w : World), sizeT t < N → IsNd P w (.slice A t.kids.length c) t.kids → Calls Tryd.prog 9 #[nodeV t (.slice A t.kids.length c)] w (CopyRet w t)
set_option maxRecDepth 100000 in
set_option maxHeartbeats 8000000 in
theorem copy4_step {N : Nat} (hN : N ≤ 100000) (IH : Cp4C N) : Cp4C (N + 1) := by
  intro P t A c w ht h
  have HL := Lib.hid (show t.kids.length ≤ 100000 by have := sizeK_len t.kids; have := sizeT_eq t; omega)
  have IC := Lib.hid (fun (q : Nat) (d : Tree) (hd : t.kids[q]? = some d) A5 c5 W (hk : IsNd P W (.slice A5 d.kids.length c5) d.kids) => IH P d A5 c5 W (by have := sizeT_kid (List.mem_of_getElem? hd); omega) hk)
  have BW := Lib.hid (fun (V : World) (hV : Below w.heap.size w V) => h.bel hV)
  have T0 := Lib.hid (TwoB.start w (nodeO t (.slice A t.kids.length c)) nodeZ)
  clear h ht
  go_enter Tryd.func9, Tryd.ntmps9
  go_wp2
  go_loopw [3, 4] (fun o i X => ∃ (q cp : Nat) (A5 : Option Addr) (rs : List NodeR), i = .int .i64 q ∧ o = .slice A5 q cp ∧ Hid (q ≤ t.kids.length) ∧ Hid (CpR (w.heap.size + 1 + 1) t.kids A5 q cp rs X) ∧ TwoB w X (nodeO t (.slice A t.kids.length c)) nodeZ) (fun _ i _ => t.kids.length - (intOf i).toNat)
  case atStart => exact ⟨0, 0, none, [], rfl, rfl, Lib.hid (Nat.zero_le _), Lib.hid ⟨rfl, ⟨by simp [flat], .inl ⟨rfl, rfl⟩⟩, fun i x t h => by simp at h⟩, T0.out⟩
  case round =>
    clear T0
    obtain ⟨q, cp, A5, rs, rfl, rfl, HQ, HC, hx⟩ := hrel
    have BX := Lib.hid hx
    obtain ⟨⟨a0, a1, a2, a3, a4, a5⟩, _⟩ := cells6n hx.1
    have l1 := hx.lt
    have l0 : w.heap.size < wr.heap.size := by omega
    by_cases hlt : q < t.kids.length
    · have q1 : (q : Int) < (t.kids.length : Int) := by omega
      have q3 : ¬ (q : Int) < 0 := by omega
      obtain ⟨d, hd⟩ : ∃ d, t.kids[q]? = some d := ⟨_, List.getElem?_eq_getElem hlt⟩
      obtain ⟨b, off, cap, A6, c6, e1, lb, hp, hk, f0, f1, f2, f3, f4, f5⟩ := (BW.out _ hx.2.2).at_ hd
      simp only [Value.slice.injEq] at e1
      obtain ⟨rfl, _, rfl⟩ := e1
      have K1 := Lib.hid (fun W (hW : Below wr.heap.size wr W) => IC.out q d hd A6 c6 W (hk.bel hW))
      have kp1 : wrap64 ((q : Int) + 1) = ((q + 1 : Nat) : Int) := w64c (by omega) (by have := HL.out; omega)
      have LQ := Lib.hid (And.intro hlt hd)
      have LS := Lib.hid (show w.heap.size + 1 + 1 ≤ wr.heap.size from by have := hx.lt; omega)
      clear hlt hd hx hk hp
      go_wp2_with (first | (go_at_call 9; go_loud (refine (K1.out _ (by (repeat (with_reducible first | exact Below.refl _ _ | (refine bl_set ?_ (by first | omega | (simp; done) | (simp; omega)) _) | refine bl_gr ?_ _ | refine bl_al ?_ _ | refine below_setRow ?_ (by first | omega | (simp; done) | (simp; omega)) _ | refine bl_drewN ?_ _ | refine Below.drew ?_ | (refine bl_tr ?_ (by assumption)))))).mono ?_; rintro e w4 ⟨A4, c4, rfl, hk4, hb4⟩; have B4 := Lib.hid (show Below wr.heap.size wr w4 from bl_tr (by (repeat (with_reducible first | exact Below.refl _ _ | (refine bl_set ?_ (by first | omega | (simp; done) | (simp; omega)) _) | refine bl_gr ?_ _ | refine bl_al ?_ _ | refine below_setRow ?_ (by first | omega | (simp; done) | (simp; omega)) _ | refine bl_drewN ?_ _ | refine Below.drew ?_ | (refine bl_tr ?_ (by assumption))))) hb4); have K4 := Lib.hid hk4; clear hk4 hb4)) | (at_builtin; go_loud (refine wpList_app1 elem_node rfl _ _ rfl (w.heap.size + 1 + 1) rs ⟨d.op, d.at_, d.n, d.m, d.s, .slice A4 d.kids.length c4⟩ HC.out.1 (yv := .slice A5 q cp) (b := w4.heap.size) rfl rfl (ownsRow_below HC.out.2.1 (bl_al B4.out _)) (Nat.le_trans LS.out (bl_al B4.out _).size) (heap_alloc_new _ _) (one_node _ _ _ _ _ _ _ _) (by have := LQ.out.1; have := HL.out; clear kp1; omega) (by decide) ?_; intro g5 m5 n5 w5 em o5 gr5 gw5 gl5; have NX := Lib.hid (HC.out.app LQ.out.2 LS.out B4.out (by first | exact K4.out | exact K4.out.mono fun b hb => hb) (bl_al (Below.refl _ _) _) o5 gr5 gw5); have EM := Lib.hid em; have X5 := Lib.hid (show TwoB w w5 (nodeO t (.slice (some ⟨b, off, none⟩) t.kids.length c)) nodeZ from twoB_grown (BX.out.step (bl_al B4.out _)) HC.out.2.1 gr5); clear o5 gr5 gw5 em)))
      go_roundw
      case rel => exact ⟨q + 1, n5, some ⟨g5, 0, none⟩, _, by first | with_reducible rfl | (rw [kp1]; done), by rw [EM.out], Lib.hid LQ.out.1, Lib.hid NX.out, X5.out⟩
      case measure => (first | ((try rw [kp1]); exact meas_c rfl LQ.out.1) | (clear kp1; have := LQ.out.1; simp only [intOf]; omega))
    · have q1 : ¬ (q : Int) < (t.kids.length : Int) := by omega
      have hq : q = t.kids.length := by have := HQ.out; omega
      have FX := Lib.hid (cp4_fin (HC.out.row.done hq) hx.2.2)
      obtain ⟨⟨r0, r1, r2, r3, r4, r5⟩, rf⟩ := cells6n (t := Tree.z) (k := .slice none 0 0) hx.2.1
      have EQ := Lib.hid hq
      clear hx hlt hq HQ
      go_wp2
      refine bodyPost_ret (v := nodeV t (.slice A5 q cp)) (by simp [results, Tryd.results9, go_sem, *]) rfl ?_
      rw [EQ.out] at FX ⊢
      exact ⟨A5, cp, rfl, FX.out.1, FX.out.2⟩
theorem copy4_any (P : Nat → Prop) (t : Tree) (A : Option Addr) (c : Nat) (w : World) (ht : sizeT t ≤ 99999) (h : IsNd P w (.slice A t.kids.length c) t.kids) : Calls Tryd.prog 9 #[nodeV t (.slice A t.kids.length c)] w (CopyRet w t) := by
  have main : ∀ N, N ≤ 100000 → Cp4C N := by
    intro N
    induction N with
    | zero => intro _ P t A c w ht; omega
    | succ N ih => exact fun hN => copy4_step (by omega) (ih (by omega))
  exact main 100000 (by omega) P t A c w (by omega) h
end Go.Proofs.YtiagegecnopfgaaDoor
