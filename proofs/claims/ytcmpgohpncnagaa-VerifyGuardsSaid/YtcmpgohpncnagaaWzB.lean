/- The reference's Reaches. -/
import Derived.Test.YtcmpgohpncnagaaWzA
import Derived.Deep.LoopGhost
namespace Go.Proofs.Ytcmpgohpncnagaa
set_option linter.all false
open Go.ChangeShapes Go.WideShapes Go.ChangeAt Go.RowKit Go.Sort Go.Deep Go.Shelf

theorem rwlC_in {c : CodeD} {a : Nat} {x : InsD} {b : Nat} (hb : b < c.ins.length) : b ∈ rwlC a x ↔ b ∈ wlC c a x := by
  unfold rwlC wlC flC
  rw [List.mem_append, List.mem_append]
  refine or_congr ?_ Iff.rfl
  cases hf : fallsM x.op
  · simp
  · by_cases h : a + 1 < c.ins.length
    · simp [h]
    · simp only [if_true, List.mem_singleton, Bool.true_and, decide_eq_false h]
      constructor
      · intro e
        omega
      · intro e
        simp at e
theorem E3_rwl {c : CodeD} {a : Nat} {x : InsD} (hx : c.ins[a]? = some x) {b : Nat} (hb : b < c.ins.length) (h : b ∈ rwlC a x) : E3 c a b false :=
  ⟨x, hx, List.mem_append_left _ (List.mem_map.2 ⟨b, (rwlC_in hb).1 h, rfl⟩)⟩
theorem E3_gs {c : CodeD} {g : GrdD} (hg : g ∈ c.gs) {a : Nat} {x : InsD} (hx : c.ins[a]? = some x) (ha : g.f = (a : Int)) : E3 c a g.g.toNat true :=
  ⟨x, hx, List.mem_append_right _ (List.mem_map.2 ⟨g.g.toNat, List.mem_flatMap.2 ⟨g, hg, by unfold goC; rw [if_pos ha]; simp⟩, rfl⟩)⟩
/-- an edge, as the reference meets it -/
theorem E3_cases {c : CodeD} (hr : rightC c = true) {a b : Nat} {g : Bool} (h : E3 c a b g) : (∃ x, c.ins[a]? = some x ∧ b ∈ rwlC a x ∧ b < c.ins.length ∧ g = false) ∨ (∃ y, y ∈ c.gs ∧ y.f = (a : Int) ∧ b = y.g.toNat ∧ g = true) := by
  obtain ⟨x, hx, hm⟩ := h
  rcases List.mem_append.1 hm with hm | hm
  · obtain ⟨t, ht, e⟩ := List.mem_map.1 hm
    cases e
    have hlt := wlC_lt (rightC_ins hr (List.mem_of_getElem? hx)) ht
    exact .inl ⟨x, hx, (rwlC_in hlt).2 ht, hlt, rfl⟩
  · obtain ⟨t, ht, e⟩ := List.mem_map.1 hm
    cases e
    obtain ⟨y, hy, h1⟩ := List.mem_flatMap.1 ht
    unfold goC at h1
    split at h1
    · rename_i e
      exact .inr ⟨y, hy, e, List.mem_singleton.1 h1, rfl⟩
    · simp at h1
/-- marks in memory -/
structure RrI (w : World) (co : Obj) (bo : Nat) (o : List Bool) (Z : World) : Prop where
  ob : Z.heap[bo]? = some (.cells (o.map Value.bool).toArray 4)
  co : Z.heap[w.heap.size]? = some co
  lo : Below w.heap.size w Z
  bo : w.heap.size < bo
theorem RrI.grow {w : World} {co : Obj} {bo : Nat} {o : List Bool} {Z Y : World} (h : RrI w co bo o Z) (hb : Below Z.heap.size Z Y) : RrI w co bo o Y :=
  ⟨(hb.block _ (Array.getElem?_eq_some_iff.1 h.ob).1).trans h.ob, (hb.block _ (Array.getElem?_eq_some_iff.1 h.co).1).trans h.co, bl_tr h.lo hb, h.bo⟩
theorem RrI.set {w : World} {co : Obj} {bo : Nat} {o : List Bool} {Z : World} (h : RrI w co bo o Z) (t : Nat) : RrI w co bo (o.set t true) (Z.setCell ⟨bo, t, none⟩ (.bool true)) := by
  have hb := h.bo
  refine ⟨?_, (heap_setCell_other Z _ _ _ (by dsimp only; omega)).trans h.co, bl_set h.lo (by dsimp only; omega) _, h.bo⟩
  rw [heap_setCell_same Z bo t _ _ _ h.ob]
  congr 2
  simp [List.map_set]
theorem RrI.cell {w : World} {co : Obj} {bo : Nat} {o : List Bool} {Z : World} (h : RrI w co bo o Z) {t : Nat} {v : Bool} (hv : o[t]? = some v) : Z.cell? ⟨bo, t, none⟩ = some (.bool v) ∧ Z.frozen? ⟨bo, t, none⟩ = false ∧ bo < Z.heap.size :=
  ⟨by rw [cell_of_row Z bo _ _ _ _ h.ob]; simp [hv], frozen_of_row Z bo t _ _ h.ob, (Array.getElem?_eq_some_iff.1 h.ob).1⟩
section
variable {c : CodeD}
/-- a pass, so far: marks p at its beginning, o now, m: has something been added; w: what is closed -/
structure RrP (c : CodeD) (p o : List Bool) (m : Bool) (A : Prop) : Prop where
  ad : Adds (EC c) c.ins.length p o m
  z : o[0]? = some true
  cl : m = false → A
theorem RrP.mono {p o : List Bool} {m : Bool} {A B : Prop} (h : RrP c p o m A) (hAB : m = false → o = p → A → B) : RrP c p o m B := ⟨h.ad, h.z, fun e => hAB e (h.ad.same e) (h.cl e)⟩
theorem RrP.set {p o : List Bool} {m : Bool} {A B : Prop} (h : RrP c p o m A) {t : Nat} (hf : o[t]? = some false) (hr : Rch (EC c) t) : RrP c p (o.set t true) true B :=
  ⟨h.ad.set hf hr, by rw [List.getElem?_set]; split
                      · rename_i e
                        subst e
                        rw [if_pos (List.getElem?_eq_some_iff.1 hf).1]
                      · exact h.z, by simp⟩
/-- all edges out of j that are no handlers' -/
def ClW (c : CodeD) (p : List Bool) (q : Nat) : Prop := ∀ j, j < q → p[j]? = some true → ∀ x, c.ins[j]? = some x → ∀ b, b ∈ rwlC j x → b < c.ins.length → p[b]? = some true
def ClK (c : CodeD) (p : List Bool) (l : List Nat) (k : Nat) : Prop := ∀ b, b ∈ l.take k → b < c.ins.length → p[b]? = some true
def ClG (c : CodeD) (p : List Bool) (k : Nat) : Prop := ∀ y, y ∈ c.gs.take k → p[y.f.toNat]? = some true → p[y.g.toNat]? = some true
theorem ClW.next {p : List Bool} {q : Nat} {x : InsD} (h : ClW c p q) (hx : c.ins[q]? = some x) (hk : p[q]? = some true → ClK c p (rwlC q x) (rwlC q x).length) : ClW c p (q + 1) := by
  intro j hj hp y hy b hb hlt
  by_cases e : j < q
  · exact h j e hp y hy b hb hlt
  · obtain rfl : j = q := by omega
    rw [hx] at hy
    cases hy
    exact hk hp b (by rw [List.take_length]; exact hb) hlt
theorem ClK.next {p : List Bool} {l : List Nat} {k t : Nat} (h : ClK c p l k) (ht : l[k]? = some t) (hp : t < c.ins.length → p[t]? = some true) : ClK c p l (k + 1) := by
  intro b hb hlt
  rw [List.take_add_one, ht] at hb
  rcases List.mem_append.1 hb with hb | hb
  · exact h b hb hlt
  · simp at hb
    subst hb
    exact hp hlt
theorem ClG.next {p : List Bool} {k : Nat} {y : GrdD} (h : ClG c p k) (hy : c.gs[k]? = some y) (hp : p[y.f.toNat]? = some true → p[y.g.toNat]? = some true) : ClG c p (k + 1) := by
  intro z hz
  rw [List.take_add_one, hy] at hz
  rcases List.mem_append.1 hz with hz | hz
  · exact h z hz
  · simp at hz
    subst hz
    exact hp
/-- what the passes have come to -/
def RrEnd (c : CodeD) (o : List Bool) (m : Bool) : Prop := m = false → o = rchL (EC c) c.ins.length
theorem RrP.done (hr : rightC c = true) {p o : List Bool} {m : Bool} (h : RrP c p o m (ClW c p c.ins.length ∧ ClG c p c.gs.length)) : RrEnd c o m := by
  intro e
  obtain ⟨h1, h2⟩ := h.cl e
  have hp := h.ad.same e
  rw [← hp] at h1 h2
  refine h.ad.snd.done h.z fun a b ha ⟨g, hab⟩ => ?_
  rcases E3_cases hr hab with ⟨x, hx, hm, hlt, _⟩ | ⟨y, hy, hf, rfl, _⟩
  · exact h1 a (List.getElem?_eq_some_iff.1 hx).1 ha x hx b hm hlt
  · exact h2 y (by rw [List.take_length]; exact hy) (by rw [hf]; exact ha)
end
/-- one round's measure -/
def mR (o : List Bool) (m : Bool) : Nat := 2 * cf o + (if m then 1 else 0)
/-- the list of the successors of q, and the marks -/
structure RrL (w : World) (co : Obj) (bo : Nat) (o : List Bool) (lv : Value) (l : List Nat) (Z : World) : Prop where
  r : RrI w co bo o Z
  own : OwnI Z lv l
  hb : ∀ g, lv.ownBlock = some g → bo < g
theorem RrL.set {w : World} {co : Obj} {bo : Nat} {o : List Bool} {lv : Value} {l : List Nat} {Z : World} (h : RrL w co bo o lv l Z) (t : Nat) : RrL w co bo (o.set t true) lv l (Z.setCell ⟨bo, t, none⟩ (.bool true)) :=
  ⟨h.r.set t, ownsRow_touch h.own ((Touch.refl (fun k => k = bo) Z).set1 t _) (fun g hg e => by have := h.hb g hg; omega), h.hb⟩
theorem mR_lt {E : Nat → Nat → Prop} {n : Nat} {p o : List Bool} {b : Bool} (h : Adds E n p o b) : mR o b < mR p true := by
  unfold mR
  cases b
  · have := h.same rfl
    subst this
    simp
  · have := h.more rfl
    simp
    omega


set_option maxRecDepth 100000 in
set_option maxHeartbeats 16000000 in
theorem rreaches_any (c : CodeD) (i p k g : Value) (hc : c.ok) (w : World) (h : Cd4 w i p k g c) :
    Calls Try.prog 11 #[codeV c.nm c.kd c.ln c.rg i p k g] w (RetB w (reachC c)) := by
  obtain ⟨A1, c1, A2, c2, A3, c3, A4, c4, rfl, rfl, rfl, rfl⟩ := h.forms
  have H := Lib.hid h
  have RT := Lib.hid (fun W hW => rrightC_any c (.slice A1 c.ins.length c1) (.slice A2 c.pl.length c2) (.slice A3 c.ks.length c3) (.slice A4 c.gs.length c4) hc W (h.below hW) : ∀ W, Below w.heap.size w W → _)
  clear h hc
  cases hr : rightC c
  · have RS := Lib.hid (show reachC c = [] by unfold reachC; rw [hr]; rfl)
    rw [hr] at RT
    clear hr
    go_enter Try.func11, Try.ntmps11
    go_wp2_with (go_at_call 22; refine (callGr (RT.out _ (by (repeat (with_reducible first | exact Below.refl _ _ | (refine bl_set ?_ (by first | omega | (simp; done) | (simp; omega)) _) | refine bl_gr ?_ _ | refine bl_al ?_ _ | refine below_setRow ?_ (by first | omega | (simp; done) | (simp; omega)) _ | refine bl_drewN ?_ _ | refine Below.drew ?_ | (refine bl_tr ?_ (by assumption))))))).mono ?_; rintro e w' ⟨pp, rfl, rfl⟩)
    go_ret
    exact ⟨_, rfl, by rw [RS.out]; exact .nil_, by (repeat (with_reducible first | exact Below.refl _ _ | (refine bl_set ?_ (by first | omega | (simp; done) | (simp; omega)) _) | refine bl_gr ?_ _ | refine bl_al ?_ _ | refine below_setRow ?_ (by first | omega | (simp; done) | (simp; omega)) _ | refine bl_drewN ?_ _ | refine Below.drew ?_ | (refine bl_tr ?_ (by assumption))))⟩
  · have RS := Lib.hid (show reachC c = rchL (EC c) c.ins.length by unfold reachC; rw [hr]; rfl)
    have R1 := Lib.hid hr
    have hn := rightC_len hr
    have MB := fun W => make_bools c.ins.length (by omega) W
    rw [hr] at RT
    have HN := Lib.hid hn
    clear hr hn
    by_cases h0 : c.ins.length = 0
    · have RE := Lib.hid (show rchL (EC c) c.ins.length = [] by unfold rchL; rw [h0]; rfl)
      have q0 : decide (0 < c.ins.length) = false := decide_eq_false (by omega)
      have IB := Lib.hid (fun (Z : World) (A : Option Addr) => (⟨by simp, A, c.ins.length, by rw [h0]; rfl, by simp, fun h => absurd h (Nat.lt_irrefl 0)⟩ : IsB Z (.slice A c.ins.length c.ins.length) []))
      clear h0
      go_enter Try.func11, Try.ntmps11
      go_wp2_with (go_at_call 22; refine (callGr (RT.out _ (by (repeat (with_reducible first | exact Below.refl _ _ | (refine bl_set ?_ (by first | omega | (simp; done) | (simp; omega)) _) | refine bl_gr ?_ _ | refine bl_al ?_ _ | refine below_setRow ?_ (by first | omega | (simp; done) | (simp; omega)) _ | refine bl_drewN ?_ _ | refine Below.drew ?_ | (refine bl_tr ?_ (by assumption))))))).mono ?_; rintro e w' ⟨pp, rfl, rfl⟩)
      go_loopg [4] 0 (fun g m Z => m = .bool false ∧ Below w.heap.size w Z)
      case atStart => exact ⟨rfl, by (repeat (with_reducible first | exact Below.refl _ _ | (refine bl_set ?_ (by first | omega | (simp; done) | (simp; omega)) _) | refine bl_gr ?_ _ | refine bl_al ?_ _ | refine below_setRow ?_ (by first | omega | (simp; done) | (simp; omega)) _ | refine bl_drewN ?_ _ | refine Below.drew ?_ | (refine bl_tr ?_ (by assumption))))⟩
      case round =>
        obtain ⟨rfl, hb⟩ := hrel
        have HB := Lib.hid hb
        clear hb
        go_wp2
        go_ret
        refine ⟨_, rfl, ?_, HB.out⟩
        rw [RS.out, RE.out]
        exact IB.out _ _
    · have q0 : (0 : Int) < (c.ins.length : Int) := by omega
      have qd : decide (0 < c.ins.length) = true := decide_eq_true (by omega)
      have qn : ¬ ((c.ins.length : Int) ≤ 0) := by omega
      have HP := Lib.hid (Nat.pos_of_ne_zero h0)
      clear h0
      go_enter Try.func11, Try.ntmps11
      go_upto_region 3 with (go_at_call 22; refine (callGr (RT.out _ (by (repeat (with_reducible first | exact Below.refl _ _ | (refine bl_set ?_ (by first | omega | (simp; done) | (simp; omega)) _) | refine bl_gr ?_ _ | refine bl_al ?_ _ | refine below_setRow ?_ (by first | omega | (simp; done) | (simp; omega)) _ | refine bl_drewN ?_ _ | refine Below.drew ?_ | (refine bl_tr ?_ (by assumption))))))).mono ?_; rintro e w' ⟨pp, rfl, rfl⟩)
      refine wpc_world (fun X => X.heap[w.heap.size]? = some (codeO c.nm c.kd c.ln c.rg (.slice A1 c.ins.length c1) (.slice A2 c.pl.length c2) (.slice A3 c.ks.length c3) (.slice A4 c.gs.length c4)) ∧ Below w.heap.size w X) ⟨((show Below (w.alloc (codeO c.nm c.kd c.ln c.rg (.slice A1 c.ins.length c1) (.slice A2 c.pl.length c2) (.slice A3 c.ks.length c3) (.slice A4 c.gs.length c4))).heap.size (w.alloc (codeO c.nm c.kd c.ln c.rg (.slice A1 c.ins.length c1) (.slice A2 c.pl.length c2) (.slice A3 c.ks.length c3) (.slice A4 c.gs.length c4))) _ by (repeat (with_reducible first | exact Below.refl _ _ | (refine bl_set ?_ (by first | omega | (simp; done) | (simp; omega)) _) | refine bl_gr ?_ _ | refine bl_al ?_ _ | refine below_setRow ?_ (by first | omega | (simp; done) | (simp; omega)) _ | refine bl_drewN ?_ _ | refine Below.drew ?_ | (refine bl_tr ?_ (by assumption))))).block _ (by simp)).trans (heap_alloc_new _ _), by (repeat (with_reducible first | exact Below.refl _ _ | (refine bl_set ?_ (by first | omega | (simp; done) | (simp; omega)) _) | refine bl_gr ?_ _ | refine bl_al ?_ _ | refine below_setRow ?_ (by first | omega | (simp; done) | (simp; omega)) _ | refine bl_drewN ?_ _ | refine Below.drew ?_ | (refine bl_tr ?_ (by assumption))))⟩ ?_
      rintro X ⟨j0, jb⟩
      have JJ := Lib.hid (And.intro j0 jb)
      obtain ⟨⟨a0, a1, a2, a3, a4, a5, a6, a7⟩, -⟩ := cells8 j0
      have l0 := (Array.getElem?_eq_some_iff.1 j0).1
      clear j0 jb
      go_upto_region 5 with fail
      refine wpc_world (RrI w (codeO c.nm c.kd c.ln c.rg (.slice A1 c.ins.length c1) (.slice A2 c.pl.length c2) (.slice A3 c.ks.length c3) (.slice A4 c.gs.length c4)) X.heap.size (List.replicate c.ins.length false)) ⟨?_, ?_, bl_tr JJ.out.2 (by (repeat (with_reducible first | exact Below.refl _ _ | (refine bl_set ?_ (by first | omega | (simp; done) | (simp; omega)) _) | refine bl_gr ?_ _ | refine bl_al ?_ _ | refine below_setRow ?_ (by first | omega | (simp; done) | (simp; omega)) _ | refine bl_drewN ?_ _ | refine Below.drew ?_ | (refine bl_tr ?_ (by assumption))))), by omega⟩ ?_
      · rw [List.map_replicate, List.toArray_replicate]
        exact heap_alloc_new _ _
      · rw [heap_alloc_old _ _ l0]
        exact JJ.out.1
      intro Y hY
      have YY := Lib.hid hY
      clear hY a0 a1 a2 a3 a4 a5 a6 a7 JJ l0 MB RT
      generalize X.heap.size = bo at *
      clear X
      go_loopg [4] (2 * c.ins.length + 1) (fun g m Z => ∃ (o : List Bool) (b : Bool), m = .bool b ∧ RrI w (codeO c.nm c.kd c.ln c.rg (.slice A1 c.ins.length c1) (.slice A2 c.pl.length c2) (.slice A3 c.ks.length c3) (.slice A4 c.gs.length c4)) bo o Z ∧ Hid (Snd (EC c) c.ins.length o ∧ RrEnd c o b ∧ mR o b ≤ g))
      case atStart => exact ⟨_, true, rfl, YY.out, Lib.hid ⟨⟨by simp, fun x hx => (by rw [List.getElem?_replicate] at hx; split at hx <;> simp at hx)⟩, (fun h => by cases h), by unfold mR; rw [cf_all]; simp⟩⟩
      case round =>
        clear YY Y
        obtain ⟨p, b, rfl, hR, HS⟩ := hrel
        have RR := Lib.hid hR
        cases b
        · have IB := Lib.hid (show IsB wr (.slice (some ⟨bo, 0, none⟩) c.ins.length c.ins.length) p by
            have hl := HS.out.1.len
            have hn := HN.out.1
            refine ⟨by rw [hl]; unfold maxLen; omega, some ⟨bo, 0, none⟩, c.ins.length, by rw [hl], by omega, fun _ => ⟨bo, 0, rfl, (Array.getElem?_eq_some_iff.1 hR.ob).1, fun i x hi j u hj => ?_⟩⟩
            have hj0 : j = 0 := by
              have := (List.getElem?_eq_some_iff.1 hj).1
              simp at this
              exact this
            subst hj0
            simp at hj
            subst hj
            rw [cell_of_row wr bo _ _ _ _ hR.ob]
            simp [hi])
          clear hR
          go_wp2
          go_ret
          exact ⟨_, rfl, by rw [RS.out, ← HS.out.2.1 rfl]; exact IB.out, RR.out.lo⟩
        · obtain ⟨v, hv⟩ : ∃ v, p[0]? = some v := ⟨_, List.getElem?_eq_getElem (by rw [HS.out.1.len]; exact HP.out)⟩
          obtain ⟨cb, fb, lb⟩ := hR.cell hv
          have PP := Lib.hid (show RrP c p (p.set 0 true) (!v) True by
            cases v
            · exact ⟨HS.out.1.adds.set hv Rch.zero, by rw [List.getElem?_set, if_pos rfl, if_pos (List.getElem?_eq_some_iff.1 hv).1], fun _ => trivial⟩
            · have e : p.set 0 true = p := by
                apply List.ext_getElem?
                intro j
                rw [List.getElem?_set]
                split
                · rename_i e
                  subst e
                  rw [if_pos (List.getElem?_eq_some_iff.1 hv).1, hv]
                · rfl
              rw [e]
              exact ⟨HS.out.1.adds, hv, fun _ => trivial⟩)
          have RQ := Lib.hid (hR.set 0)
          clear hv hR
          go_upto_region 9 with fail
          refine wpc_world (RrI w (codeO c.nm c.kd c.ln c.rg (.slice A1 c.ins.length c1) (.slice A2 c.pl.length c2) (.slice A3 c.ks.length c3) (.slice A4 c.gs.length c4)) bo (p.set 0 true)) RQ.out ?_
          intro Z hZ
          have ZZ := Lib.hid hZ
          clear hZ RR RQ cb fb lb
          obtain ⟨⟨a0, a1, a2, a3, a4, a5, a6, a7⟩, -⟩ := cells8 ZZ.out.co
          have l0 := (Array.getElem?_eq_some_iff.1 ZZ.out.co).1
          go_wp2
          go_loopw [4, 5] (fun m i Z => ∃ (q : Nat) (o : List Bool) (b : Bool), i = .int .i64 q ∧ m = .bool b ∧ RrI w (codeO c.nm c.kd c.ln c.rg (.slice A1 c.ins.length c1) (.slice A2 c.pl.length c2) (.slice A3 c.ks.length c3) (.slice A4 c.gs.length c4)) bo o Z ∧ Hid (q ≤ c.ins.length ∧ RrP c p o b (ClW c p q))) (fun _ i _ => c.ins.length - (intOf i).toNat)
          case atStart => exact ⟨0, _, _, rfl, rfl, ZZ.out, Lib.hid ⟨Nat.zero_le _, PP.out.mono fun _ _ _ j hj => absurd hj (Nat.not_lt_zero _)⟩⟩
          case round =>
            clear ZZ Z a0 a1 a2 a3 a4 a5 a6 a7 l0 PP
            obtain ⟨q, o, b, rfl, rfl, hR, HI⟩ := hrel
            have RR := Lib.hid hR
            obtain ⟨⟨a0, a1, a2, a3, a4, a5, a6, a7⟩, -⟩ := cells8 hR.co
            have l0 := (Array.getElem?_eq_some_iff.1 hR.co).1
            by_cases hlt : q < c.ins.length
            · have q2 : (q : Int) < (c.ins.length : Int) := by omega
              have q3 : ¬ (q : Int) < 0 := by omega
              obtain ⟨x, hx⟩ : ∃ x, c.ins[q]? = some x := ⟨_, List.getElem?_eq_getElem hlt⟩
              have hi := rightC_ins R1.out (List.mem_of_getElem? hx)
              obtain ⟨u, hu⟩ : ∃ u, o[q]? = some u := ⟨_, List.getElem?_eq_getElem (by rw [HI.out.2.ad.snd.len]; exact hlt)⟩
              obtain ⟨cb, fb, lb⟩ := hR.cell hu
              have LQ := Lib.hid hlt
              have HX := Lib.hid (And.intro hx hu)
              have RY := Lib.hid (fun W (hb : Below wr.heap.size wr W) => rways_any c (.slice A1 c.ins.length c1) (.slice A2 c.pl.length c2) (.slice A3 c.ks.length c3) (.slice A4 c.gs.length c4) q x hx (insC_op hi) (fun j hj => (insC_j hi j hj).1) W (H.out.below (bl_tr RR.out.lo hb)))
              obtain ⟨kp, hkp, ek1⟩ : ∃ kp : Nat, kp = q + 1 ∧ wrap64 ((q : Int) + 1) = (kp : Int) := ⟨q + 1, rfl, w64c rfl (by have := HN.out.1; omega)⟩
              have KP := Lib.hid hkp
              clear hkp hR hlt hx hi hu
              cases u
              · go_wp2
                go_roundw
                case rel => exact ⟨kp, o, b, by first | with_reducible rfl | (rw [ek1]; done) | (rw [KP.out]; go_num), rfl, RR.out, Lib.hid ⟨by rw [KP.out]; exact LQ.out, HI.out.2.mono fun e1 e2 h => (by rw [KP.out]; exact h.next HX.out.1 (fun hp => by rw [← e2, HX.out.2] at hp; cases hp))⟩⟩
                case measure => (first | ((try rw [ek1]); exact meas_c KP.out LQ.out) | (clear ek1; have := LQ.out; simp only [intOf]; omega))
              · have LE := Lib.hid (fun (b : Nat) (hb : b < c.ins.length) (hm : b ∈ rwlC q x) => (⟨false, E3_rwl HX.out.1 hb hm⟩ : EC c q b))
                have NC := Lib.hid (fun (h : ClW c p q) (hk : p[q]? = some true → ClK c p (rwlC q x) (rwlC q x).length) => h.next HX.out.1 hk)
                generalize rwlC q x = l at *
                go_wp2_with (go_at_call 23; go_loud (refine (RY.out _ (by (repeat (with_reducible first | exact Below.refl _ _ | (refine bl_set ?_ (by first | omega | (simp; done) | (simp; omega)) _) | refine bl_gr ?_ _ | refine bl_al ?_ _ | refine below_setRow ?_ (by first | omega | (simp; done) | (simp; omega)) _ | refine bl_drewN ?_ _ | refine Below.drew ?_ | (refine bl_tr ?_ (by assumption)))))).mono ?_; rintro e w3 ⟨lv, rfl, ow, hb3, hbl⟩; obtain ⟨A, cp, rfl⟩ := ownsRow_form ow; have R3 := Lib.hid (show RrL w (codeO c.nm c.kd c.ln c.rg (.slice A1 c.ins.length c1) (.slice A2 c.pl.length c2) (.slice A3 c.ks.length c3) (.slice A4 c.gs.length c4)) bo o (.slice A l.length cp) l w3 from ⟨RR.out.grow (bl_tr (show Below wr.heap.size wr _ by (repeat (with_reducible first | exact Below.refl _ _ | (refine bl_set ?_ (by first | omega | (simp; done) | (simp; omega)) _) | refine bl_gr ?_ _ | refine bl_al ?_ _ | refine below_setRow ?_ (by first | omega | (simp; done) | (simp; omega)) _ | refine bl_drewN ?_ _ | refine Below.drew ?_ | (refine bl_tr ?_ (by assumption))))) hbl), ow, fun g hg => by have := hb3 g hg; (try simp at this); omega⟩); clear ow hb3 hbl))
                clear a0 a1 a2 a3 a4 a5 a6 a7 l0 cb fb lb
                go_loopw [4, 7] (fun m i Z => ∃ (k : Nat) (o : List Bool) (b : Bool), i = .int .i64 k ∧ m = .bool b ∧ RrL w (codeO c.nm c.kd c.ln c.rg (.slice A1 c.ins.length c1) (.slice A2 c.pl.length c2) (.slice A3 c.ks.length c3) (.slice A4 c.gs.length c4)) bo o (.slice A l.length cp) l Z ∧ Hid (k ≤ l.length ∧ o[q]? = some true ∧ RrP c p o b (ClW c p q ∧ ClK c p l k))) (fun _ i _ => l.length - (intOf i).toNat)
                case atStart => exact ⟨0, o, b, rfl, rfl, R3.out, Lib.hid ⟨Nat.zero_le _, HX.out.2, HI.out.2.mono fun _ _ h => ⟨h, fun b hb => (by simp at hb)⟩⟩⟩
                case round =>
                  clear R3 HI RR HX RY
                  obtain ⟨k, o, b, rfl, rfl, hL, HI⟩ := hrel
                  have RR := Lib.hid hL
                  have sl : IsN wr (.slice A l.length cp) l := ownsRow_slOf (en := enN) (fun _ => rfl) hL.own
                  have hm := sl.1
                  by_cases hlk : k < l.length
                  · obtain ⟨b2, off2, cp2, e2, _, lb2, hx2⟩ := sl.at_ (by omega)
                    simp only [Value.slice.injEq] at e2
                    obtain ⟨rfl, _, rfl⟩ := e2
                    obtain ⟨t, ht⟩ : ∃ t, l[k]? = some t := ⟨_, List.getElem?_eq_getElem hlk⟩
                    have ct : wr.cell? ⟨b2, off2 + k, none⟩ = some (.int .i64 (t : Int)) := by have := hx2 k t ht 0 _ rfl; simpa using this
                    have q5 : (k : Int) < (l.length : Int) := by omega
                    have q6 : ¬ (k : Int) < 0 := by omega
                    have LK := Lib.hid hlk
                    obtain ⟨kk, hkk, ek2⟩ : ∃ kk : Nat, kk = k + 1 ∧ wrap64 ((k : Int) + 1) = (kk : Int) := ⟨k + 1, rfl, w64c rfl (by unfold maxLen at hm; omega)⟩
                    have KK := Lib.hid hkk
                    have HT := Lib.hid ht
                    by_cases htn : t < c.ins.length
                    · have q7 : (t : Int) < (c.ins.length : Int) := by clear ek1 ek2; omega
                      have q8 : ¬ (t : Int) < 0 := by clear ek1 ek2; omega
                      obtain ⟨u2, hu2⟩ : ∃ u2, o[t]? = some u2 := ⟨_, List.getElem?_eq_getElem (by rw [HI.out.2.2.ad.snd.len]; exact htn)⟩
                      obtain ⟨cb, fb, lb⟩ := hL.r.cell hu2
                      have HU := Lib.hid (And.intro htn hu2)
                      clear hL sl hm hlk hx2 ht htn hu2 hkk
                      cases u2
                      · go_wp2
                        go_roundw
                        case rel => exact ⟨kk, o.set t true, true, by first | with_reducible rfl | (rw [ek2]; done) | (rw [KK.out]; go_num), rfl, RR.out.set t, Lib.hid ⟨by rw [KK.out]; exact LK.out, (by rw [List.getElem?_set]; split; (next => (rename_i e3; rw [if_pos (List.getElem?_eq_some_iff.1 HU.out.2).1])); (next => exact HI.out.2.1)), HI.out.2.2.set HU.out.2 ((HI.out.2.2.ad.snd.rch q HI.out.2.1).step (LE.out t HU.out.1 (List.mem_of_getElem? HT.out)))⟩⟩
                        case measure => (first | ((try rw [ek2]); exact meas_c KK.out LK.out) | (clear ek1 ek2; have := LK.out; simp only [intOf]; omega))
                      · go_wp2
                        go_roundw
                        case rel => exact ⟨kk, o, b, by first | with_reducible rfl | (rw [ek2]; done) | (rw [KK.out]; go_num), rfl, RR.out, Lib.hid ⟨by rw [KK.out]; exact LK.out, HI.out.2.1, HI.out.2.2.mono fun _ e3 h => ⟨h.1, (by rw [KK.out]; exact h.2.next HT.out (fun _ => by rw [← e3]; exact HU.out.2))⟩⟩⟩
                        case measure => (first | ((try rw [ek2]); exact meas_c KK.out LK.out) | (clear ek1 ek2; have := LK.out; simp only [intOf]; omega))
                    · have q7 : ¬ (t : Int) < (c.ins.length : Int) := by clear ek1 ek2; omega
                      have HU := Lib.hid htn
                      have lbo := (Array.getElem?_eq_some_iff.1 hL.r.ob).1
                      clear hL sl hm hlk hx2 ht htn hkk
                      go_wp2
                      go_roundw
                      case rel => exact ⟨kk, o, b, by first | with_reducible rfl | (rw [ek2]; done) | (rw [KK.out]; go_num), rfl, RR.out, Lib.hid ⟨by rw [KK.out]; exact LK.out, HI.out.2.1, HI.out.2.2.mono fun _ e3 h => ⟨h.1, (by rw [KK.out]; exact h.2.next HT.out (fun hh => absurd hh HU.out))⟩⟩⟩
                      case measure => (first | ((try rw [ek2]); exact meas_c KK.out LK.out) | (clear ek1 ek2; have := LK.out; simp only [intOf]; omega))
                  · have q5 : ¬ (k : Int) < (l.length : Int) := by clear ek1; omega
                    have KE := Lib.hid (show k = l.length by have := HI.out.1; clear ek1; omega)
                    clear hL sl hm hlk
                    go_wp2
                    go_roundw
                    case rel => exact ⟨kp, o, b, by first | with_reducible rfl | (rw [ek1]; done) | (rw [KP.out]; go_num), rfl, RR.out.r, Lib.hid ⟨by rw [KP.out]; exact LQ.out, HI.out.2.2.mono fun _ _ h => (by rw [KP.out]; exact NC.out h.1 (fun _ => by rw [← KE.out]; exact h.2))⟩⟩
                    case measure => (first | ((try rw [ek1]); exact meas_c KP.out LQ.out) | (clear ek1; have := LQ.out; simp only [intOf]; omega))
            · have q2 : ¬ (q : Int) < (c.ins.length : Int) := by omega
              have QE := Lib.hid (show q = c.ins.length by have := HI.out.1; omega)
              clear hlt hR
              go_wp2
              go_loopw [4, 8] (fun m i Z => ∃ (k : Nat) (o : List Bool) (b : Bool), i = .int .i64 k ∧ m = .bool b ∧ RrI w (codeO c.nm c.kd c.ln c.rg (.slice A1 c.ins.length c1) (.slice A2 c.pl.length c2) (.slice A3 c.ks.length c3) (.slice A4 c.gs.length c4)) bo o Z ∧ Hid (k ≤ c.gs.length ∧ RrP c p o b (ClW c p c.ins.length ∧ ClG c p k))) (fun _ i _ => c.gs.length - (intOf i).toNat)
              case atStart => exact ⟨0, o, b, rfl, rfl, RR.out, Lib.hid ⟨Nat.zero_le _, HI.out.2.mono fun _ _ h => ⟨(by rw [← QE.out]; exact h), fun y hy => (by simp at hy)⟩⟩⟩
              case round =>
                clear a0 a1 a2 a3 a4 a5 a6 a7 l0 RR HI QE
                obtain ⟨k, o, b, rfl, rfl, hR, HI⟩ := hrel
                have RR := Lib.hid hR
                obtain ⟨⟨a0, a1, a2, a3, a4, a5, a6, a7⟩, -⟩ := cells8 hR.co
                have l0 := (Array.getElem?_eq_some_iff.1 hR.co).1
                by_cases hlk : k < c.gs.length
                · have q5 : (k : Int) < (c.gs.length : Int) := by omega
                  have q6 : ¬ (k : Int) < 0 := by omega
                  obtain ⟨y, hy⟩ : ∃ y, c.gs[k]? = some y := ⟨_, List.getElem?_eq_getElem hlk⟩
                  obtain ⟨b', off', cap', e1, lb', z0, z1, z2, z3⟩ := at_Gd (H.out.g.below hR.lo) hy
                  simp only [Value.slice.injEq] at e1
                  obtain ⟨rfl, _, rfl⟩ := e1
                  obtain ⟨g1, g2, g3, g4, g5, _, _⟩ := gdM_ok (rightC_gs R1.out (List.mem_of_getElem? hy))
                  have q7 : y.f < (c.ins.length : Int) := by omega
                  have q8 : ¬ y.f < 0 := by omega
                  have q9 : y.g < (c.ins.length : Int) := by omega
                  have q10 : ¬ y.g < 0 := by omega
                  obtain ⟨x, hx⟩ : ∃ x, c.ins[y.f.toNat]? = some x := ⟨_, List.getElem?_eq_getElem (by omega)⟩
                  have EG := Lib.hid (⟨true, E3_gs (List.mem_of_getElem? hy) hx (by omega)⟩ : EC c y.f.toNat y.g.toNat)
                  obtain ⟨u, hu⟩ : ∃ u, o[y.f.toNat]? = some u := ⟨_, List.getElem?_eq_getElem (by rw [HI.out.2.ad.snd.len]; omega)⟩
                  obtain ⟨u2, hu2⟩ : ∃ u, o[y.g.toNat]? = some u := ⟨_, List.getElem?_eq_getElem (by rw [HI.out.2.ad.snd.len]; omega)⟩
                  obtain ⟨cb, fb, lb⟩ := hR.cell hu
                  obtain ⟨cb2, fb2, _⟩ := hR.cell hu2
                  have LK := Lib.hid hlk
                  obtain ⟨kk, hkk, ek2⟩ : ∃ kk : Nat, kk = k + 1 ∧ wrap64 ((k : Int) + 1) = (kk : Int) := ⟨k + 1, rfl, w64c rfl (by have := HN.out.2; omega)⟩
                  have KK := Lib.hid hkk
                  have HY := Lib.hid (And.intro hy (And.intro hu hu2))
                  clear hR hlk hy hx hu hu2 hkk g1 g2 g3 g4 g5
                  cases u
                  · go_wp2
                    go_roundw
                    case rel => exact ⟨kk, o, b, by first | with_reducible rfl | (rw [ek2]; done) | (rw [KK.out]; go_num), rfl, RR.out, Lib.hid ⟨by rw [KK.out]; exact LK.out, HI.out.2.mono fun _ e3 h => ⟨h.1, (by rw [KK.out]; exact h.2.next HY.out.1 (fun hp => by rw [← e3, HY.out.2.1] at hp; cases hp))⟩⟩⟩
                    case measure => (first | ((try rw [ek2]); exact meas_c KK.out LK.out) | (clear ek2; have := LK.out; simp only [intOf]; omega))
                  · cases u2
                    · go_wp2
                      go_roundw
                      case rel => exact ⟨kk, o.set y.g.toNat true, true, by first | with_reducible rfl | (rw [ek2]; done) | (rw [KK.out]; go_num), rfl, RR.out.set _, Lib.hid ⟨by rw [KK.out]; exact LK.out, HI.out.2.set HY.out.2.2 ((HI.out.2.ad.snd.rch _ HY.out.2.1).step EG.out)⟩⟩
                      case measure => (first | ((try rw [ek2]); exact meas_c KK.out LK.out) | (clear ek2; have := LK.out; simp only [intOf]; omega))
                    · go_wp2
                      go_roundw
                      case rel => exact ⟨kk, o, b, by first | with_reducible rfl | (rw [ek2]; done) | (rw [KK.out]; go_num), rfl, RR.out, Lib.hid ⟨by rw [KK.out]; exact LK.out, HI.out.2.mono fun _ e3 h => ⟨h.1, (by rw [KK.out]; exact h.2.next HY.out.1 (fun _ => by rw [← e3]; exact HY.out.2.2))⟩⟩⟩
                      case measure => (first | ((try rw [ek2]); exact meas_c KK.out LK.out) | (clear ek2; have := LK.out; simp only [intOf]; omega))
                · have q5 : ¬ (k : Int) < (c.gs.length : Int) := by omega
                  have KE := Lib.hid (show k = c.gs.length by have := HI.out.1; omega)
                  clear hR hlk
                  go_wp2
                  go_roundg (mR o b)
                  case measure => exact Nat.lt_of_lt_of_le (mR_lt HI.out.2.ad) HS.out.2.2
                  case rel => exact ⟨o, b, rfl, RR.out, Lib.hid ⟨HI.out.2.ad.snd, (KE.out ▸ HI.out.2 : RrP c p o b (ClW c p c.ins.length ∧ ClG c p c.gs.length)).done R1.out, Nat.le_refl _⟩⟩
end Go.Proofs.Ytcmpgohpncnagaa
