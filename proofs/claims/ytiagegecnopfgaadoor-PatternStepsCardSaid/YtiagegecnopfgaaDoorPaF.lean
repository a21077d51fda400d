/- tree.mapped and tree.Copy, walked. -/
import Derived.Test.YtiagegecnopfgaaDoorPaE
namespace Go.Proofs.YtiagegecnopfgaaDoor
set_option linter.all false
open Go.ChangeShapes Go.WideShapes Go.ChangeAt Go.RowKit Go.Sort Go.Deep

abbrev fnC : Value := .func (.func 35) #[] #[]
abbrev nodeZ : Obj := .cells #[.int .i64 0, .int .i64 0, .int .i64 0, .int .i64 0, .string ⟨#[]⟩, .slice none 0 0] 24
set_option maxRecDepth 100000 in
theorem copy1_any (b : Nat) (w : World) : Calls Tryd.prog 35 #[.pointer (some ⟨b, 0, none⟩)] w fun e w' => e = .returned (.tuple #[]) ∧ w = w' := by
  go_enter Tryd.func35, Tryd.ntmps35
  go_wp2
  go_end0
  exact ⟨rfl, rfl⟩
def CopyC (N : Nat) : Prop := ∀ (P : Nat → Prop) (t : Tree) (A : Option Addr) (c : Nat) (w : World), sizeT t < N → IsNd P w (.slice A t.kids.length c) t.kids →
  Calls Tryd.prog 34 #[nodeV t (.slice A t.kids.length c), fnC] w (CopyRet w t)
/-- the function's three boxes, and the row under way -/
def CpS (w : World) (t : Tree) (K : Value) (A : Option Addr) (q cp : Nat) (X : World) : Prop := X.heap[w.heap.size]? = some (nodeO t K) ∧ X.heap[w.heap.size + 1]? = some nodeZ ∧ X.heap[w.heap.size + 1 + 1]? = some (nodeO t (.slice A q cp)) ∧
  CpRow (w.heap.size + 1 + 1 + 1) t.kids A q cp X ∧ Below w.heap.size w X
theorem CpS.step {w X Y : World} {t : Tree} {K : Value} {A : Option Addr} {q cp : Nat} (h : CpS w t K A q cp X) (hb : Below X.heap.size X Y) : CpS w t K A q cp Y :=
  ⟨(hb.block _ (Array.getElem?_eq_some_iff.1 h.1).1).trans h.1, (hb.block _ (Array.getElem?_eq_some_iff.1 h.2.1).1).trans h.2.1, (hb.block _ (Array.getElem?_eq_some_iff.1 h.2.2.1).1).trans h.2.2.1, h.2.2.2.1.step hb, bl_tr h.2.2.2.2 hb⟩
theorem CpS.lt {w X : World} {t : Tree} {K : Value} {A : Option Addr} {q cp : Nat} (h : CpS w t K A q cp X) : w.heap.size + 1 + 1 < X.heap.size := (Array.getElem?_eq_some_iff.1 h.2.2.1).1
theorem uH_alloc {P : Program} {md : Region.Mode} {ops : Array Oper} {Q : Exit → Act → World → Prop} {S : World → Prop} {R : List Nat} {f : Nat} {l : Array Bool} {a : Act} {W : World} {o : Obj} {B : Nat} (hB : B = W.heap.size)
    (h : ∀ Z, Z.heap[B]? = some o → Below W.heap.size W Z → wpAnyU P md ops Q S R f l a Z) : wpAnyU P md ops Q S R f l a (W.alloc o) := h _ (by rw [hB]; exact heap_alloc_new _ _) (bl_al (Below.refl _ _) _)
theorem uH_allocD {P : Program} {md : Region.Mode} {ops : Array Oper} {Q : Exit → Act → World → Prop} {S : World → Prop} {R : List Nat} {f : Nat} {l : Array Bool} {a : Act} {W : World} {o : Obj} {B : Nat} (hB : B = W.heap.size)
    (h : ∀ Z, Z.heap[B]? = some o → Below W.heap.size W Z → wpAnyU P md ops Q S R f l a Z) : wpAnyU P md ops Q S R f l a (W.alloc o).drew := h _ (by rw [hB]; exact heap_alloc_new _ _) (Below.drew (bl_al (Below.refl _ _) _))
abbrev zR : NodeR := ⟨0, 0, 0, 0, ⟨#[]⟩, .slice none 0 0⟩
theorem zR_one : ∀ u ∈ NodeR.cs zR, u.oneCell' = true := by
  intro u hu
  simp only [NodeR.cs, List.mem_cons, List.not_mem_nil, or_false] at hu
  rcases hu with rfl | rfl | rfl | rfl | rfl | rfl <;> rfl
/-- the round's end: the copy in its place, the row in the box -/
theorem CpS.next {w V Y : World} {t : Tree} {K : Value} {A : Option Addr} {q cp : Nat} (h : CpS w t K A q cp V) {d : Tree} (hd : t.kids[q]? = some d) {A4 : Option Addr} {c4 base g n m : Nat} (hbase : w.heap.size + 1 + 1 + 1 ≤ base)
    (hgb : ∀ k, (Value.slice A q cp).ownBlock = some k → k < base) (hK : IsNd (FrN base V) V (.slice A4 d.kids.length c4) d.kids) {rs : List NodeR} (hrs : rs.length = q) (hm : m = q + 1)
    (hv : V.ownsRow (w.heap.size + 1 + 1 + 1) 24 6 (.slice A q cp) q (flat NodeR.cs rs))
    (o : Y.ownsRow (w.heap.size + 1 + 1 + 1) 24 6 (.slice (some ⟨g, 0, none⟩) (q + 1) n) (q + 1) (flat NodeR.cs (rs ++ [zR])))
    (hg : V.grownBy Y (Value.slice A q cp).ownBlock) (hw : (Value.slice A q cp).ownBlock = some g ∨ g = V.heap.size) (hkids : ∀ (i : Nat) (x : NodeR) (t' : Tree), rs[i]? = some x → t.kids[i]? = some t' → (x.op = t'.op ∧ x.a = t'.at_ ∧ x.n = t'.n ∧ x.m = t'.m ∧ x.s = t'.s) ∧ IsNd (fun b => FrN (w.heap.size + 1 + 1 + 1) V b ∧ ∀ g, (Value.slice A q cp).ownBlock = some g → g ≠ b) V x.k t'.kids) :
    CpS w t K (some ⟨g, 0, none⟩) m n ((st6 Y g (q * 6) d (.slice A4 d.kids.length c4)).setCell ⟨w.heap.size + 1 + 1, 5, none⟩ (.slice (some ⟨g, 0, none⟩) m n)) ∧
    CpS w t K (some ⟨g, 0, none⟩) m n (st6 (Y.setCell ⟨w.heap.size + 1 + 1, 5, none⟩ (.slice (some ⟨g, 0, none⟩) m n)) g (q * 6) d (.slice A4 d.kids.length c4)) := by
  subst hm
  have hrow : CpRow (w.heap.size + 1 + 1 + 1) t.kids (some ⟨g, 0, none⟩) (q + 1) n (st6 Y g (q * 6) d (.slice A4 d.kids.length c4)) := by
    subst hrs
    have T1 := touch_grownE hg
    have T2 := st6_touch Y g (rs.length * 6) d (.slice A4 d.kids.length c4)
    have keep : ∀ b, b < V.heap.size → (∀ k, (Value.slice A rs.length cp).ownBlock = some k → k ≠ b) → (st6 Y g (rs.length * 6) d (.slice A4 d.kids.length c4)).heap[b]? = V.heap[b]? ∧ g ≠ b := by
      intro b hlt hne
      have hgb : g ≠ b := by
        rcases hw with e | e
        · exact hne g e
        · omega
      have e1 := T1.block b hlt (fun e => hne b e rfl)
      have e2 := T2.block b (Nat.lt_of_lt_of_le hlt T1.size) (fun e => hgb e.symm)
      exact ⟨e2.trans e1, hgb⟩
    have hsz : V.heap.size ≤ (st6 Y g (rs.length * 6) d (.slice A4 d.kids.length c4)).heap.size := Nat.le_trans T1.size T2.size
    refine ⟨rs ++ [⟨d.op, d.at_, d.n, d.m, d.s, .slice A4 d.kids.length c4⟩], by simp, st6_row o d _ rfl, fun i x t' hx ht => ?_⟩
    by_cases hi : i < rs.length
    · rw [List.getElem?_append_left hi] at hx
      obtain ⟨k1, k2⟩ := hkids i x t' hx ht
      refine ⟨k1, k2.keep hsz fun b hp hlt => ?_⟩
      obtain ⟨e, hne⟩ := keep b hlt hp.2
      exact ⟨e, hp.1.keep e, fun g' hg' => by simp only [Value.ownBlock, Option.some.injEq] at hg'; rw [← hg']; exact hne⟩
    · rw [List.getElem?_append_right (by omega)] at hx
      have hlen := (List.getElem?_eq_some_iff.1 hx).1
      simp at hlen
      obtain rfl : i = rs.length := by omega
      simp at hx
      subst hx
      rw [hd] at ht
      cases ht
      refine ⟨⟨rfl, rfl, rfl, rfl, rfl⟩, hK.keep hsz fun b hp hlt => ?_⟩
      obtain ⟨e, hne⟩ := keep b hlt (fun k hk => by have h1 := hgb k hk; have h2 := hp.1; omega)
      exact ⟨e, ⟨Nat.le_trans hbase hp.1, by rw [e]; exact hp.2⟩, fun g' hg' => by simp only [Value.ownBlock, Option.some.injEq] at hg'; rw [← hg']; exact hne⟩
  have g3 : w.heap.size + 1 + 1 + 1 ≤ g := (own_ltN o g rfl).1
  have T1 := touch_grownE hg
  have T2 := st6_touch Y g (q * 6) d (.slice A4 d.kids.length c4)
  have hl := h.lt
  have ne : ∀ b, b < w.heap.size + 1 + 1 + 1 → (st6 Y g (q * 6) d (.slice A4 d.kids.length c4)).heap[b]? = V.heap[b]? := by
    intro b hb
    have e1 := T1.block b (by omega) (fun e => by have := (own_ltN hv b e).1; omega)
    have e2 := T2.block b (Nat.lt_of_lt_of_le (by omega) T1.size) (fun e => by omega)
    exact e2.trans e1
  have first : CpS w t K (some ⟨g, 0, none⟩) (q + 1) n ((st6 Y g (q * 6) d (.slice A4 d.kids.length c4)).setCell ⟨w.heap.size + 1 + 1, 5, none⟩ (.slice (some ⟨g, 0, none⟩) (q + 1) n)) := by
    refine ⟨(heap_setCell_other _ _ _ _ (by dsimp only; omega)).trans ((ne _ (by omega)).trans h.1), (heap_setCell_other _ _ _ _ (by dsimp only; omega)).trans ((ne _ (by omega)).trans h.2.1), heap_setCell_same _ _ _ _ _ _ ((ne _ (by omega)).trans h.2.2.1), hrow.other (by omega) _, ?_⟩
    refine bl_set ?_ (by dsimp only; omega) _
    have b1 : Below w.heap.size w Y := h.2.2.2.2.trans (T1.below h.2.2.2.2.size fun k hk => by have := (own_ltN hv k hk).1; omega)
    exact b1.trans (T2.below b1.size fun k hk => by omega)
  refine ⟨first, ?_⟩
  have e : st6 (Y.setCell ⟨w.heap.size + 1 + 1, 5, none⟩ (.slice (some ⟨g, 0, none⟩) (q + 1) n)) g (q * 6) d (.slice A4 d.kids.length c4) = (st6 Y g (q * 6) d (.slice A4 d.kids.length c4)).setCell ⟨w.heap.size + 1 + 1, 5, none⟩ (.slice (some ⟨g, 0, none⟩) (q + 1) n) := by
    unfold st6
    have c := fun (X : World) (j : Nat) (u : Value) => setCell_comm X ⟨w.heap.size + 1 + 1, 5, none⟩ ⟨g, j, none⟩ (.slice (some ⟨g, 0, none⟩) (q + 1) n) u (by dsimp only; omega)
    rw [c, c, c, c, c, c]
  rw [e]
  exact first
theorem kids_step {lo q cp : Nat} {A : Option Addr} {l : List Tree} {rs : List NodeR} {Z V : World} (h : ∀ (i : Nat) (x : NodeR) (t : Tree), rs[i]? = some x → l[i]? = some t → (x.op = t.op ∧ x.a = t.at_ ∧ x.n = t.n ∧ x.m = t.m ∧ x.s = t.s) ∧ IsNd (fun b => FrN lo Z b ∧ ∀ g, (Value.slice A q cp).ownBlock = some g → g ≠ b) Z x.k t.kids) (hb : Below Z.heap.size Z V) :
    ∀ (i : Nat) (x : NodeR) (t : Tree), rs[i]? = some x → l[i]? = some t → (x.op = t.op ∧ x.a = t.at_ ∧ x.n = t.n ∧ x.m = t.m ∧ x.s = t.s) ∧ IsNd (fun b => FrN lo V b ∧ ∀ g, (Value.slice A q cp).ownBlock = some g → g ≠ b) V x.k t.kids := fun i x t hx ht =>
  ⟨(h i x t hx ht).1, (h i x t hx ht).2.keep hb.size fun b hp hlt => ⟨hb.block b hlt, hp.1.keep (hb.block b hlt), hp.2⟩⟩
theorem fr_step {lo : Nat} {Z V : World} {v : Value} {l : List Tree} (h : IsNd (FrN lo Z) Z v l) (hb : Below Z.heap.size Z V) : IsNd (FrN lo V) V v l := h.keep hb.size fun b hp hlt => ⟨hb.block b hlt, hp.keep (hb.block b hlt)⟩
/-- what the stores of a round ask of the world behind the append -/
theorem CpS.places {w V Y : World} {t : Tree} {K : Value} {A : Option Addr} {q cp g n : Nat} {rs : List NodeR} (h : CpS w t K A q cp V) (hrs : rs.length = q) (hv : V.ownsRow (w.heap.size + 1 + 1 + 1) 24 6 (.slice A q cp) q (flat NodeR.cs rs))
    (o : Y.ownsRow (w.heap.size + 1 + 1 + 1) 24 6 (.slice (some ⟨g, 0, none⟩) (q + 1) n) (q + 1) (flat NodeR.cs (rs ++ [zR]))) (hg : V.grownBy Y (Value.slice A q cp).ownBlock) :
    AtN Y g (q * 6) Tree.z (.slice none 0 0) ∧ (∀ j, Y.frozen? ⟨g, j, none⟩ = false) ∧ AtN Y (w.heap.size + 1 + 1) 0 t (.slice A q cp) ∧ (∀ j, Y.frozen? ⟨w.heap.size + 1 + 1, j, none⟩ = false) ∧ g ≠ w.heap.size + 1 + 1 ∧ w.heap.size + 1 + 1 ≠ g ∧ w.heap.size + 1 + 1 < Y.heap.size := by
  obtain ⟨p1, p2⟩ := own_place hrs nr_len o
  have g3 := (own_ltN o g rfl).1
  have T1 := touch_grownE hg
  have hb := (T1.block _ h.lt (fun e => by have := (own_ltN hv _ e).1; omega)).trans h.2.2.1
  obtain ⟨c1, c2⟩ := cells6n hb
  refine ⟨⟨p1 0 _ rfl, p1 1 _ rfl, p1 2 _ rfl, p1 3 _ rfl, p1 4 _ rfl, p1 5 _ rfl⟩, p2, c1, c2, by omega, by omega, Nat.lt_of_lt_of_le h.lt T1.size⟩
theorem CpS.fin {w X : World} {t : Tree} {K : Value} {A : Option Addr} {q cp : Nat} (h : CpS w t K A q cp X) (hq : q = t.kids.length) :
    IsNd (FrN w.heap.size (st6 X (w.heap.size + 1) 0 t (.slice A q cp))) (st6 X (w.heap.size + 1) 0 t (.slice A q cp)) (.slice A q cp) t.kids ∧ Below w.heap.size w (st6 X (w.heap.size + 1) 0 t (.slice A q cp)) := by
  have T2 := st6_touch X (w.heap.size + 1) 0 t (.slice A q cp)
  refine ⟨(h.2.2.2.1.done hq).keep T2.size fun b hp hlt => ?_, h.2.2.2.2.trans (T2.below h.2.2.2.2.size fun k hk => by omega)⟩
  have e := T2.block b hlt (fun e => by have := hp.1; omega)
  exact ⟨e, by have := hp.1; omega, by rw [e]; exact hp.2⟩
set_option maxRecDepth 100000 in
set_option maxHeartbeats 8000000 in
theorem copy_step {N : Nat} (hN : N ≤ 1000000) (IH : CopyC N) : CopyC (N + 1) := by
  intro P t A c w ht h
  have H := Lib.hid h
  have HL := Lib.hid (show t.kids.length ≤ 1000000 by have := sizeK_len t.kids; have := sizeT_eq t; omega)
  have HS := Lib.hid (fun d (hd : d ∈ t.kids) => (by have := sizeT_kid hd; omega : sizeT d < N))
  have C1 := Lib.hid (fun b W => copy1_any b W)
  clear h ht
  go_enter Tryd.func34, Tryd.ntmps34
  go_upto_region 3 with fail
  refine wpd_world (fun X => CpS w t (.slice A t.kids.length c) none 0 0 X) ⟨hq_0 _ _ _ _, hq_1 _ _ _ _, by have := heap_alloc_new ((w.alloc (nodeO t (.slice A t.kids.length c))).alloc nodeZ) (nodeO t (.slice none 0 0)); simpa using this, CpRow.start _ _ _, by (repeat (with_reducible first | exact Below.refl _ _ | (refine bl_set ?_ (by first | omega | (simp; done) | (simp; omega)) _) | refine bl_gr ?_ _ | refine bl_al ?_ _ | refine below_setRow ?_ (by first | omega | (simp; done) | (simp; omega)) _ | refine bl_drewN ?_ _ | refine Below.drew ?_ | (refine bl_tr ?_ (by assumption))))⟩ ?_
  intro X hX
  have BX := Lib.hid hX
  obtain ⟨⟨a0, a1, a2, a3, a4, a5⟩, _⟩ := cells6n hX.1
  have l0 := hX.lt
  have l1 : w.heap.size < X.heap.size := by omega
  clear hX
  go_wp2
  clear a0 a1 a2 a3 a4 a5 l0 l1
  go_loopw [13] (fun i Z => ∃ (q : Nat) (A' : Option Addr) (cp : Nat), i = .int .i64 q ∧ Hid (q ≤ t.kids.length) ∧ CpS w t (.slice A t.kids.length c) A' q cp Z) (fun i _ => t.kids.length - (intOf i).toNat)
  case atStart => exact ⟨0, none, 0, rfl, Lib.hid (Nat.zero_le _), BX.out⟩
  case round =>
    clear BX
    obtain ⟨q, A', cp, rfl, HQ, hx⟩ := hrel
    have BW := Lib.hid hx
    have l0 := hx.lt
    by_cases hlt : q < t.kids.length
    · have q1 : (q : Int) < (t.kids.length : Int) := by omega
      have q3 : ¬ (q : Int) < 0 := by omega
      obtain ⟨d, hd⟩ : ∃ d, t.kids[q]? = some d := ⟨_, List.getElem?_eq_getElem hlt⟩
      obtain ⟨b, off, cap, A5, c5, e1, lb, hp, hk, f0, f1, f2, f3, f4, f5⟩ := (H.out.bel hx.2.2.2.2).at_ hd
      simp only [Value.slice.injEq] at e1
      obtain ⟨rfl, _, rfl⟩ := e1
      have IC := Lib.hid (fun V (hV : Below wr.heap.size wr V) => IH P d A5 c5 V (HS.out d (List.mem_of_getElem? hd)) (hk.bel hV))
      have HD := Lib.hid hd
      have LQ := Lib.hid hlt
      obtain ⟨kp, hkp, ek1⟩ : ∃ kp : Nat, kp = q + 1 ∧ wrap64 ((q : Int) + 1) = (kp : Int) := ⟨q + 1, rfl, w64c rfl (by have := HL.out; omega)⟩
      have KP := Lib.hid hkp
      clear hkp hlt hx hd hk
      go_upto_region 6 with fail
      refine wpd_world (fun Z => OneB wr Z (nodeO d (.slice A5 d.kids.length c5))) (OneB.start _ _) ?_
      intro Z hZ
      have DZ := Lib.hid (fun V (hV : Below Z.heap.size Z V) => cells6n (hZ.step hV).1)
      have SZ := Lib.hid (BW.out.step hZ.2)
      have BZ := Lib.hid hZ.2
      obtain ⟨rs, r1, r2, r3⟩ := SZ.out.2.2.2.1
      have RS := Lib.hid (And.intro r1 (And.intro r2 r3))
      clear hZ r1 r2 r3 f0 f1 f2 f3 f4 f5 l0 lb q1 q3
      (refine wp_region_until (fun V : World => Below Z.heap.size Z V) [7, 9, 11] Tryd.mixed (by (repeat (with_reducible first | exact Below.refl _ _ | (refine bl_set ?_ (by first | omega | (simp; done) | (simp; omega)) _) | refine bl_gr ?_ _ | refine bl_al ?_ _ | refine below_setRow ?_ (by first | omega | (simp; done) | (simp; omega)) _ | refine bl_drewN ?_ _ | refine Below.drew ?_ | (refine bl_tr ?_ (by assumption))))) (fun hS => ?_); (refine wpAnyU_free (i := 0) (v := ?_) rfl (by kernel_rfl) (by kernel_rfl) (by kernel_rfl) (by kernel_rfl) (fun _ _ _ h => h) ?_ (fun _ => by assumption) ?_; rotate_left; (next => (refine Or.inl ⟨by kernel_rfl, ?_⟩; ((intro w hSw; (try dsimp only at hSw); go_simp) <;> with_reducible rfl))); (try simp only [Act.put, List.getElem_toArray, List.getElem_cons_zero, List.getElem_cons_succ, List.setIfInBounds_toArray, List.set_cons_zero, List.set_cons_succ])); (refine wpAnyU_take (i := 1) (v := ?_) rfl (by kernel_rfl) (by kernel_rfl) (by kernel_rfl) (by kernel_rfl) (fun _ _ _ h => h) ?_ (by assumption) ?_; rotate_left; (next => (refine Or.inl ⟨by kernel_rfl, ?_⟩; ((intro w hSw; (try dsimp only at hSw); (obtain ⟨⟨b0, b1, b2, b3, b4, b5⟩, _⟩ := cells6n (SZ.out.step hSw).2.2.1; obtain ⟨⟨c0, c1, c2, c3, c4, c5⟩, _⟩ := DZ.out _ hSw); go_simp) <;> with_reducible rfl))); (try simp only [Act.put, List.getElem_toArray, List.getElem_cons_zero, List.getElem_cons_succ, List.setIfInBounds_toArray, List.set_cons_zero, List.set_cons_succ])); (refine wpAnyU_take (i := 2) (v := ?_) rfl (by kernel_rfl) (by kernel_rfl) (by kernel_rfl) (by kernel_rfl) (fun _ _ _ h => h) ?_ (by assumption) ?_; rotate_left; (next => (refine Or.inl ⟨by kernel_rfl, ?_⟩; ((intro w hSw; (try dsimp only at hSw); (obtain ⟨⟨b0, b1, b2, b3, b4, b5⟩, _⟩ := cells6n (SZ.out.step hSw).2.2.1; obtain ⟨⟨c0, c1, c2, c3, c4, c5⟩, _⟩ := DZ.out _ hSw); go_simp) <;> with_reducible rfl))); (try simp only [Act.put, List.getElem_toArray, List.getElem_cons_zero, List.getElem_cons_succ, List.setIfInBounds_toArray, List.set_cons_zero, List.set_cons_succ])); (refine wpAnyU_free (i := 3) (v := ?_) rfl (by kernel_rfl) (by kernel_rfl) (by kernel_rfl) (by kernel_rfl) (fun _ _ _ h => h) ?_ (fun _ => by assumption) ?_; rotate_left; (next => (refine Or.inl ⟨by kernel_rfl, ?_⟩; ((intro w hSw; (try dsimp only at hSw); go_simp) <;> with_reducible rfl))); (try simp only [Act.put, List.getElem_toArray, List.getElem_cons_zero, List.getElem_cons_succ, List.setIfInBounds_toArray, List.set_cons_zero, List.set_cons_succ])); (refine wpAnyU_free (i := 5) (v := ?_) rfl (by kernel_rfl) (by kernel_rfl) (by kernel_rfl) (by kernel_rfl) (fun _ _ _ h => h) ?_ (fun _ => by assumption) ?_; rotate_left; (next => (refine Or.inl ⟨by kernel_rfl, ?_⟩; ((intro w hSw; (try dsimp only at hSw); go_simp) <;> with_reducible rfl))); (try simp only [Act.put, List.getElem_toArray, List.getElem_cons_zero, List.getElem_cons_succ, List.setIfInBounds_toArray, List.set_cons_zero, List.set_cons_succ])); refine wpAnyU_two (i := 4) (j := 6) (by kernel_rfl) rfl rfl (fun K hK => ?_) (fun K hK => ?_); have HK := Lib.hid hK; clear hK; (go_simp; ((go_at_call 34; refine (IC.out _ (bl_tr BZ.out hS)).mono ?_; rintro e w4 ⟨A4, c4, rfl, hk4, hb4⟩; have K4 := Lib.hid hk4; have B4 := Lib.hid (show Below Z.heap.size Z w4 from bl_tr hS hb4); clear hk4))); refine HK.out _ _ (fun _ => by exact B4.out) ?_; clear HK K; (try simp only [Act.put, List.getElem_toArray, List.getElem_cons_zero, List.getElem_cons_succ, List.setIfInBounds_toArray, List.set_cons_zero, List.set_cons_succ]); refine wpAnyU_one (i := 6) (by kernel_rfl) rfl (fun K hK => ?_); have HK := Lib.hid hK; clear hK; go_simp; refine HK.out _ _ (fun _ => by (repeat (with_reducible first | exact Below.refl _ _ | (refine bl_set ?_ (by first | omega | (simp; done) | (simp; omega)) _) | refine bl_gr ?_ _ | refine bl_al ?_ _ | refine below_setRow ?_ (by first | omega | (simp; done) | (simp; omega)) _ | refine bl_drewN ?_ _ | refine Below.drew ?_ | (refine bl_tr ?_ (by assumption))))) ?_; clear HK K; (try simp only [Act.put, List.getElem_toArray, List.getElem_cons_zero, List.getElem_cons_succ, List.setIfInBounds_toArray, List.set_cons_zero, List.set_cons_succ]); (first | refine uH_alloc rfl (fun Z6 f6 b6 => ?_) | refine uH_allocD rfl (fun Z6 f6 b6 => ?_)); have F6 := Lib.hid f6; (first | have b6' : Below w4.heap.size w4 Z6 := bl_tr (by (repeat (with_reducible first | exact Below.refl _ _ | (refine bl_set ?_ (by first | omega | (simp; done) | (simp; omega)) _) | refine bl_gr ?_ _ | refine bl_al ?_ _ | refine below_setRow ?_ (by first | omega | (simp; done) | (simp; omega)) _ | refine bl_drewN ?_ _ | refine Below.drew ?_ | (refine bl_tr ?_ (by assumption))))) b6 | have b6' : Below Z.heap.size Z Z6 := bl_tr (by (repeat (with_reducible first | exact Below.refl _ _ | (refine bl_set ?_ (by first | omega | (simp; done) | (simp; omega)) _) | refine bl_gr ?_ _ | refine bl_al ?_ _ | refine below_setRow ?_ (by first | omega | (simp; done) | (simp; omega)) _ | refine bl_drewN ?_ _ | refine Below.drew ?_ | (refine bl_tr ?_ (by assumption))))) b6); have G6 := Lib.hid (show Below Z.heap.size Z Z6 from (by first | exact bl_tr B4.out b6' | exact b6')); have hS := G6.out; clear f6; refine wpAnyU_one (i := 7) (by kernel_rfl) rfl (fun K hK => ?_); have HK := Lib.hid hK; clear hK; ((first | (refine step_app1 elem_node (w.heap.size + 1 + 1 + 1) rfl (.tmp 18) (.tmp 23) rfl rs zR RS.out.1 (by simp [Act.eval, Act.put]) (by first | (simp [Act.eval, Act.put]; done) | (simp [Act.eval, Act.put]; rfl)) (ownsRow_below RS.out.2.1 G6.out) (Nat.le_trans SZ.out.lt G6.out.size) F6.out zR_one (by have h1 := HQ.out; have h2 := HL.out; omega) (by decide) ?_) | (refine step_app1 elem_node (w.heap.size + 1 + 1 + 1) rfl (.tmp 18) (.tmp 23) rfl rs zR RS.out.1 (by simp [Act.eval, Act.put]) (by first | (simp [Act.eval, Act.put]; done) | (simp [Act.eval, Act.put]; rfl)) (ownsRow_below RS.out.2.1 B4.out) (Nat.le_trans SZ.out.lt B4.out.size) (((show Below Z6.heap.size Z6 w4 from bl_tr (by (repeat (with_reducible first | exact Below.refl _ _ | (refine bl_set ?_ (by first | omega | (simp; done) | (simp; omega)) _) | refine bl_gr ?_ _ | refine bl_al ?_ _ | refine below_setRow ?_ (by first | omega | (simp; done) | (simp; omega)) _ | refine bl_drewN ?_ _ | refine Below.drew ?_ | (refine bl_tr ?_ (by assumption))))) hb4).block _ (Array.getElem?_eq_some_iff.1 F6.out).1).trans F6.out) zR_one (by have h1 := HQ.out; have h2 := HL.out; omega) (by decide) ?_)); intro g7 m7 n7 w7 em o7 gr7 gw7 gl7; (first | (have NX := Lib.hid (CpS.next (SZ.out.step G6.out) HD.out (base := Z.heap.size) SZ.out.lt (fun k hk => (own_ltN RS.out.2.1 k hk).2) (fr_step K4.out b6') RS.out.1 em (ownsRow_below RS.out.2.1 G6.out) o7 gr7 gw7 (kids_step RS.out.2.2 G6.out)); have PL := CpS.places (SZ.out.step G6.out) RS.out.1 (ownsRow_below RS.out.2.1 G6.out) o7 gr7) | (have NX := Lib.hid (CpS.next (SZ.out.step B4.out) HD.out (base := Z6.heap.size) (Nat.le_trans SZ.out.lt G6.out.size) (fun k hk => Nat.lt_of_lt_of_le (own_ltN RS.out.2.1 k hk).2 G6.out.size) K4.out RS.out.1 em (ownsRow_below RS.out.2.1 B4.out) o7 gr7 gw7 (kids_step RS.out.2.2 B4.out)); have PL := CpS.places (SZ.out.step B4.out) RS.out.1 (ownsRow_below RS.out.2.1 B4.out) o7 gr7)); have EM := Lib.hid em; have q5 : (q : Int) < (m7 : Int) := (by clear ek1; omega); have q6 : ¬ (q : Int) < 0 := (by clear ek1; omega); obtain ⟨⟨y0, y1, y2, y3, y4, y5⟩, yf, ⟨v0, v1, v2, v3, v4, v5⟩, vf, hne, hne', hlt7⟩ := PL; clear em o7 gr7 gw7); refine HK.out _ _ (fun h => absurd h (by decide)) ?_; clear HK K; (try simp only [Act.put, List.getElem_toArray, List.getElem_cons_zero, List.getElem_cons_succ, List.setIfInBounds_toArray, List.set_cons_zero, List.set_cons_succ]); (refine wpAnyU_free (i := 8) (v := ?_) rfl (by kernel_rfl) (by kernel_rfl) (by kernel_rfl) (by kernel_rfl) (fun _ _ _ h => h) ?_ (fun h => absurd h (by decide)) ?_; rotate_left; (next => (refine Or.inl ⟨by kernel_rfl, ?_⟩; ((intro w hSw; (try dsimp only at hSw); go_simp) <;> with_reducible rfl))); (try simp only [Act.put, List.getElem_toArray, List.getElem_cons_zero, List.getElem_cons_succ, List.setIfInBounds_toArray, List.set_cons_zero, List.set_cons_succ])); (refine wpAnyU_free (i := 10) (v := ?_) rfl (by kernel_rfl) (by kernel_rfl) (by kernel_rfl) (by kernel_rfl) (fun _ _ _ h => h) ?_ (fun h => absurd h (by decide)) ?_; rotate_left; (next => (refine Or.inl ⟨by kernel_rfl, ?_⟩; ((intro w hSw; (try dsimp only at hSw); go_simp) <;> with_reducible rfl))); (try simp only [Act.put, List.getElem_toArray, List.getElem_cons_zero, List.getElem_cons_succ, List.setIfInBounds_toArray, List.set_cons_zero, List.set_cons_succ])); refine wpAnyU_two (i := 9) (j := 11) (by kernel_rfl) rfl rfl (fun K hK => ?_) (fun K hK => ?_); have HK := Lib.hid hK; clear hK; go_simp; refine HK.out _ _ (fun h => absurd h (by decide)) ?_; clear HK K; (try simp only [Act.put, List.getElem_toArray, List.getElem_cons_zero, List.getElem_cons_succ, List.setIfInBounds_toArray, List.set_cons_zero, List.set_cons_succ]); refine wpAnyU_one (i := 11) (by kernel_rfl) rfl (fun K hK => ?_); have HK := Lib.hid hK; clear hK; go_simp; refine HK.out _ _ (fun h => absurd h (by decide)) ?_; clear HK K; (try simp only [Act.put, List.getElem_toArray, List.getElem_cons_zero, List.getElem_cons_succ, List.setIfInBounds_toArray, List.set_cons_zero, List.set_cons_succ]); refine wpAnyU_done (by kernel_rfl) ?_ _; rotate_left 1; have HK := Lib.hid hK; clear hK; go_simp; refine HK.out _ _ (fun h => absurd h (by decide)) ?_; clear HK K; (try simp only [Act.put, List.getElem_toArray, List.getElem_cons_zero, List.getElem_cons_succ, List.setIfInBounds_toArray, List.set_cons_zero, List.set_cons_succ]); refine wpAnyU_one (i := 9) (by kernel_rfl) rfl (fun K hK => ?_); have HK := Lib.hid hK; clear hK; go_simp; refine HK.out _ _ (fun h => absurd h (by decide)) ?_; clear HK K; (try simp only [Act.put, List.getElem_toArray, List.getElem_cons_zero, List.getElem_cons_succ, List.setIfInBounds_toArray, List.set_cons_zero, List.set_cons_succ]); refine wpAnyU_done (by kernel_rfl) ?_ _; rotate_left 1; have HK := Lib.hid hK; clear hK; go_simp; refine HK.out _ _ (fun _ => by (repeat (with_reducible first | exact Below.refl _ _ | (refine bl_set ?_ (by first | omega | (simp; done) | (simp; omega)) _) | refine bl_gr ?_ _ | refine bl_al ?_ _ | refine below_setRow ?_ (by first | omega | (simp; done) | (simp; omega)) _ | refine bl_drewN ?_ _ | refine Below.drew ?_ | (refine bl_tr ?_ (by assumption))))) ?_; clear HK K; (try simp only [Act.put, List.getElem_toArray, List.getElem_cons_zero, List.getElem_cons_succ, List.setIfInBounds_toArray, List.set_cons_zero, List.set_cons_succ]); (first | refine uH_alloc rfl (fun Z6 f6 b6 => ?_) | refine uH_allocD rfl (fun Z6 f6 b6 => ?_)); have F6 := Lib.hid f6; (first | have b6' : Below w4.heap.size w4 Z6 := bl_tr (by (repeat (with_reducible first | exact Below.refl _ _ | (refine bl_set ?_ (by first | omega | (simp; done) | (simp; omega)) _) | refine bl_gr ?_ _ | refine bl_al ?_ _ | refine below_setRow ?_ (by first | omega | (simp; done) | (simp; omega)) _ | refine bl_drewN ?_ _ | refine Below.drew ?_ | (refine bl_tr ?_ (by assumption))))) b6 | have b6' : Below Z.heap.size Z Z6 := bl_tr (by (repeat (with_reducible first | exact Below.refl _ _ | (refine bl_set ?_ (by first | omega | (simp; done) | (simp; omega)) _) | refine bl_gr ?_ _ | refine bl_al ?_ _ | refine below_setRow ?_ (by first | omega | (simp; done) | (simp; omega)) _ | refine bl_drewN ?_ _ | refine Below.drew ?_ | (refine bl_tr ?_ (by assumption))))) b6); have G6 := Lib.hid (show Below Z.heap.size Z Z6 from (by first | exact bl_tr B4.out b6' | exact b6')); have hS := G6.out; clear f6; refine wpAnyU_one (i := 4) (by kernel_rfl) rfl (fun K hK => ?_); have HK := Lib.hid hK; clear hK; (go_simp; ((go_at_call 34; refine (IC.out _ (bl_tr BZ.out hS)).mono ?_; rintro e w4 ⟨A4, c4, rfl, hk4, hb4⟩; have K4 := Lib.hid hk4; have B4 := Lib.hid (show Below Z.heap.size Z w4 from bl_tr hS hb4); clear hk4))); refine HK.out _ _ (fun _ => by exact B4.out) ?_; clear HK K; (try simp only [Act.put, List.getElem_toArray, List.getElem_cons_zero, List.getElem_cons_succ, List.setIfInBounds_toArray, List.set_cons_zero, List.set_cons_succ]); refine wpAnyU_one (i := 7) (by kernel_rfl) rfl (fun K hK => ?_); have HK := Lib.hid hK; clear hK; ((first | (refine step_app1 elem_node (w.heap.size + 1 + 1 + 1) rfl (.tmp 18) (.tmp 23) rfl rs zR RS.out.1 (by simp [Act.eval, Act.put]) (by first | (simp [Act.eval, Act.put]; done) | (simp [Act.eval, Act.put]; rfl)) (ownsRow_below RS.out.2.1 G6.out) (Nat.le_trans SZ.out.lt G6.out.size) F6.out zR_one (by have h1 := HQ.out; have h2 := HL.out; omega) (by decide) ?_) | (refine step_app1 elem_node (w.heap.size + 1 + 1 + 1) rfl (.tmp 18) (.tmp 23) rfl rs zR RS.out.1 (by simp [Act.eval, Act.put]) (by first | (simp [Act.eval, Act.put]; done) | (simp [Act.eval, Act.put]; rfl)) (ownsRow_below RS.out.2.1 B4.out) (Nat.le_trans SZ.out.lt B4.out.size) (((show Below Z6.heap.size Z6 w4 from bl_tr (by (repeat (with_reducible first | exact Below.refl _ _ | (refine bl_set ?_ (by first | omega | (simp; done) | (simp; omega)) _) | refine bl_gr ?_ _ | refine bl_al ?_ _ | refine below_setRow ?_ (by first | omega | (simp; done) | (simp; omega)) _ | refine bl_drewN ?_ _ | refine Below.drew ?_ | (refine bl_tr ?_ (by assumption))))) hb4).block _ (Array.getElem?_eq_some_iff.1 F6.out).1).trans F6.out) zR_one (by have h1 := HQ.out; have h2 := HL.out; omega) (by decide) ?_)); intro g7 m7 n7 w7 em o7 gr7 gw7 gl7; (first | (have NX := Lib.hid (CpS.next (SZ.out.step G6.out) HD.out (base := Z.heap.size) SZ.out.lt (fun k hk => (own_ltN RS.out.2.1 k hk).2) (fr_step K4.out b6') RS.out.1 em (ownsRow_below RS.out.2.1 G6.out) o7 gr7 gw7 (kids_step RS.out.2.2 G6.out)); have PL := CpS.places (SZ.out.step G6.out) RS.out.1 (ownsRow_below RS.out.2.1 G6.out) o7 gr7) | (have NX := Lib.hid (CpS.next (SZ.out.step B4.out) HD.out (base := Z6.heap.size) (Nat.le_trans SZ.out.lt G6.out.size) (fun k hk => Nat.lt_of_lt_of_le (own_ltN RS.out.2.1 k hk).2 G6.out.size) K4.out RS.out.1 em (ownsRow_below RS.out.2.1 B4.out) o7 gr7 gw7 (kids_step RS.out.2.2 B4.out)); have PL := CpS.places (SZ.out.step B4.out) RS.out.1 (ownsRow_below RS.out.2.1 B4.out) o7 gr7)); have EM := Lib.hid em; have q5 : (q : Int) < (m7 : Int) := (by clear ek1; omega); have q6 : ¬ (q : Int) < 0 := (by clear ek1; omega); obtain ⟨⟨y0, y1, y2, y3, y4, y5⟩, yf, ⟨v0, v1, v2, v3, v4, v5⟩, vf, hne, hne', hlt7⟩ := PL; clear em o7 gr7 gw7); refine HK.out _ _ (fun h => absurd h (by decide)) ?_; clear HK K; (try simp only [Act.put, List.getElem_toArray, List.getElem_cons_zero, List.getElem_cons_succ, List.setIfInBounds_toArray, List.set_cons_zero, List.set_cons_succ]); (refine wpAnyU_free (i := 8) (v := ?_) rfl (by kernel_rfl) (by kernel_rfl) (by kernel_rfl) (by kernel_rfl) (fun _ _ _ h => h) ?_ (fun h => absurd h (by decide)) ?_; rotate_left; (next => (refine Or.inl ⟨by kernel_rfl, ?_⟩; ((intro w hSw; (try dsimp only at hSw); go_simp) <;> with_reducible rfl))); (try simp only [Act.put, List.getElem_toArray, List.getElem_cons_zero, List.getElem_cons_succ, List.setIfInBounds_toArray, List.set_cons_zero, List.set_cons_succ])); (refine wpAnyU_free (i := 10) (v := ?_) rfl (by kernel_rfl) (by kernel_rfl) (by kernel_rfl) (by kernel_rfl) (fun _ _ _ h => h) ?_ (fun h => absurd h (by decide)) ?_; rotate_left; (next => (refine Or.inl ⟨by kernel_rfl, ?_⟩; ((intro w hSw; (try dsimp only at hSw); go_simp) <;> with_reducible rfl))); (try simp only [Act.put, List.getElem_toArray, List.getElem_cons_zero, List.getElem_cons_succ, List.setIfInBounds_toArray, List.set_cons_zero, List.set_cons_succ])); refine wpAnyU_two (i := 9) (j := 11) (by kernel_rfl) rfl rfl (fun K hK => ?_) (fun K hK => ?_); have HK := Lib.hid hK; clear hK; go_simp; refine HK.out _ _ (fun h => absurd h (by decide)) ?_; clear HK K; (try simp only [Act.put, List.getElem_toArray, List.getElem_cons_zero, List.getElem_cons_succ, List.setIfInBounds_toArray, List.set_cons_zero, List.set_cons_succ]); refine wpAnyU_one (i := 11) (by kernel_rfl) rfl (fun K hK => ?_); have HK := Lib.hid hK; clear hK; go_simp; refine HK.out _ _ (fun h => absurd h (by decide)) ?_; clear HK K; (try simp only [Act.put, List.getElem_toArray, List.getElem_cons_zero, List.getElem_cons_succ, List.setIfInBounds_toArray, List.set_cons_zero, List.set_cons_succ]); refine wpAnyU_done (by kernel_rfl) ?_ _; rotate_left 1; have HK := Lib.hid hK; clear hK; go_simp; refine HK.out _ _ (fun h => absurd h (by decide)) ?_; clear HK K; (try simp only [Act.put, List.getElem_toArray, List.getElem_cons_zero, List.getElem_cons_succ, List.setIfInBounds_toArray, List.set_cons_zero, List.set_cons_succ]); refine wpAnyU_one (i := 9) (by kernel_rfl) rfl (fun K hK => ?_); have HK := Lib.hid hK; clear hK; go_simp; refine HK.out _ _ (fun h => absurd h (by decide)) ?_; clear HK K; (try simp only [Act.put, List.getElem_toArray, List.getElem_cons_zero, List.getElem_cons_succ, List.setIfInBounds_toArray, List.set_cons_zero, List.set_cons_succ]); refine wpAnyU_done (by kernel_rfl) ?_ _)
      all_goals go_simp
      all_goals
        go_wp2
        go_roundw
        case rel => exact ⟨kp, some ⟨g7, 0, none⟩, n7, by first | with_reducible rfl | (rw [ek1]; done), Lib.hid (by rw [KP.out]; exact LQ.out), by have ee : m7 = kp := EM.out.trans KP.out.symm; rw [← ee]; have N1 := NX.out.1; have N2 := NX.out.2; unfold st6 at N1 N2; first | (with_reducible exact N1) | (with_reducible exact N2)⟩
        case measure => (first | ((try rw [ek1]); exact meas_c KP.out LQ.out) | (clear ek1; have := LQ.out; simp only [intOf]; omega))
    · have q1 : ¬ (q : Int) < (t.kids.length : Int) := by omega
      have hq : q = t.kids.length := by have := HQ.out; omega
      have FX := Lib.hid (hx.fin hq)
      obtain ⟨⟨b0, b1, b2, b3, b4, b5⟩, _⟩ := cells6n hx.2.2.1
      obtain ⟨⟨r0, r1, r2, r3, r4, r5⟩, rf⟩ := cells6n (t := Tree.z) (k := .slice none 0 0) hx.2.1
      have l1 : w.heap.size + 1 < wr.heap.size := by omega
      have EQ := Lib.hid hq
      clear hx hlt hq HQ
      go_wp2_with (go_at_call 35; refine (C1.out _ _).mono ?_; rintro e w' ⟨rfl, rfl⟩)
      refine bodyPost_ret (v := nodeV t (.slice A' q cp)) (by simp [results, Tryd.results34, go_sem, *]) rfl ?_
      rw [EQ.out] at FX ⊢
      exact ⟨A', cp, rfl, FX.out.1, FX.out.2⟩
theorem copy_fin {w X W4 : World} {t : Tree} {A : Option Addr} {c : Nat} (hk : IsNd (FrN X.heap.size W4) W4 (.slice A t.kids.length c) t.kids) (hb : Below X.heap.size X W4) (hX : Below w.heap.size w X) (hl : w.heap.size + 1 < X.heap.size) :
    IsNd (FrN w.heap.size (st6 W4 (w.heap.size + 1) 0 t (.slice A t.kids.length c))) (st6 W4 (w.heap.size + 1) 0 t (.slice A t.kids.length c)) (.slice A t.kids.length c) t.kids ∧ Below w.heap.size w (st6 W4 (w.heap.size + 1) 0 t (.slice A t.kids.length c)) := by
  have T2 := st6_touch W4 (w.heap.size + 1) 0 t (.slice A t.kids.length c)
  have hw := bl_tr hX hb
  refine ⟨hk.keep T2.size fun b hp hlt => ?_, hw.trans (T2.below hw.size fun k hk => by omega)⟩
  have e := T2.block b hlt (fun e => by have := hp.1; omega)
  exact ⟨e, by have := hp.1; omega, by rw [e]; exact hp.2⟩
set_option maxRecDepth 100000 in
set_option maxHeartbeats 4000000 in
theorem copy_any (P : Nat → Prop) (t : Tree) (A : Option Addr) (c : Nat) (w : World) (ht : sizeT t ≤ 100000) (h : IsNd P w (.slice A t.kids.length c) t.kids) :
    Calls Tryd.prog 29 #[nodeV t (.slice A t.kids.length c)] w (CopyRet w t) := by
  have main : ∀ N, N ≤ 1000000 → CopyC N := by
    intro N
    induction N with
    | zero => intro _ P t A c w ht; omega
    | succ N ih => exact fun hN => copy_step (by omega) (ih (by omega))
  have MP := Lib.hid (fun W (hW : Below w.heap.size w W) => main 100001 (by omega) P t A c W (by omega) (h.bel hW))
  clear h ht main
  go_enter Tryd.func29, Tryd.ntmps29
  go_upto_region 1 with fail
  refine wpd_world (fun X => X.heap[w.heap.size]? = some (nodeO t (.slice A t.kids.length c)) ∧ X.heap[w.heap.size + 1]? = some nodeZ ∧ Below w.heap.size w X) ⟨(heap_alloc_old _ _ (by simp)).trans (heap_alloc_new _ _), by have := heap_alloc_new (w.alloc (nodeO t (.slice A t.kids.length c))) nodeZ; simpa using this, by (repeat (with_reducible first | exact Below.refl _ _ | (refine bl_set ?_ (by first | omega | (simp; done) | (simp; omega)) _) | refine bl_gr ?_ _ | refine bl_al ?_ _ | refine below_setRow ?_ (by first | omega | (simp; done) | (simp; omega)) _ | refine bl_drewN ?_ _ | refine Below.drew ?_ | (refine bl_tr ?_ (by assumption))))⟩ ?_
  rintro X ⟨x0, x1, xb⟩
  have l1 : w.heap.size + 1 < X.heap.size := (Array.getElem?_eq_some_iff.1 x1).1
  have l0 : w.heap.size < X.heap.size := by omega
  have XB := Lib.hid xb
  have X1 := Lib.hid (fun V (hV : Below X.heap.size X V) => (hV.block _ l1).trans x1)
  have L1 := Lib.hid l1
  obtain ⟨⟨a0, a1, a2, a3, a4, a5⟩, _⟩ := cells6n x0
  clear x0 x1 xb
  go_wp2_with (go_at_call 34; go_loud (refine (MP.out _ (bl_tr XB.out (by (repeat (with_reducible first | exact Below.refl _ _ | (refine bl_set ?_ (by first | omega | (simp; done) | (simp; omega)) _) | refine bl_gr ?_ _ | refine bl_al ?_ _ | refine below_setRow ?_ (by first | omega | (simp; done) | (simp; omega)) _ | refine bl_drewN ?_ _ | refine Below.drew ?_ | (refine bl_tr ?_ (by assumption))))))).mono ?_; rintro e w4 ⟨A4, c4, rfl, hk4, hb4⟩; have B4 := Lib.hid (show Below X.heap.size X w4 from bl_tr (by (repeat (with_reducible first | exact Below.refl _ _ | (refine bl_set ?_ (by first | omega | (simp; done) | (simp; omega)) _) | refine bl_gr ?_ _ | refine bl_al ?_ _ | refine below_setRow ?_ (by first | omega | (simp; done) | (simp; omega)) _ | refine bl_drewN ?_ _ | refine Below.drew ?_ | (refine bl_tr ?_ (by assumption))))) hb4); have FX := Lib.hid (copy_fin hk4 hb4 XB.out L1.out); obtain ⟨⟨r0, r1, r2, r3, r4, r5⟩, rf⟩ := cells6n (t := Tree.z) (k := .slice none 0 0) (X1.out _ B4.out); have l4 : w.heap.size + 1 < w4.heap.size := Nat.lt_of_lt_of_le l1 B4.out.size; clear hk4 hb4))
  refine bodyPost_ret (v := nodeV t (.slice A4 t.kids.length c4)) (by simp [results, Tryd.results29, go_sem, *]) rfl ?_
  exact ⟨A4, c4, rfl, FX.out.1, FX.out.2⟩
end Go.Proofs.YtiagegecnopfgaaDoor
