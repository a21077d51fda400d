/- The reference's pass (printed by gen51P.py). -/
import Derived.Test.YtcmpgohpncnagaaWzC
namespace Go.Proofs.Ytcmpgohpncnagaa
set_option linter.all false
open Go.ChangeShapes Go.WideShapes Go.ChangeAt Go.RowKit Go.Sort Go.Deep Go.Shelf

/-- below what is reachable nothing falls off the end -/
theorem rwl_lt {c : CodeD} (hr : rightC c = true) (ho : openC c < 0) {q : Nat} {x : InsD} (hx : c.ins[q]? = some x) (hq : Rch (EC c) q) {b : Nat} (hb : b ∈ rwlC q x) : b < c.ins.length := by
  have hlt := (List.getElem?_eq_some_iff.1 hx).1
  rcases List.mem_append.1 hb with h | h
  · split at h
    · rename_i hf
      rw [List.mem_singleton.1 h]
      refine Classical.byContradiction fun hn => ?_
      have e : q = c.ins.length - 1 := by omega
      have : openC c = (c.ins.length : Int) - 1 := by
        unfold openC
        have hA : fallsM (c.ins.getD (c.ins.length - 1) default).op = true := by
          rw [← e, List.getD_eq_getElem?_getD, hx]
          exact hf
        have hB : (reachC c).getD (c.ins.length - 1) false = true := by
          rw [← e]
          unfold reachC
          rw [if_pos hr, List.getD_eq_getElem?_getD, (rchL_at hlt).2 hq]
          rfl
        rw [if_pos ⟨by omega, hA, hB⟩]
      omega
    · simp at h
  · exact wlC_lt (a := q) (rightC_ins hr (List.mem_of_getElem? hx)) (List.mem_append_right _ h)
def Keep (o o' : List Int) : Prop := ∀ (x : Nat) (v : Int), o[x]? = some v → 0 ≤ v → o'[x]? = some v
/-- a pass, so far: labels p at its beginning -/
structure RdP (c : CodeD) (p : List Int) (s : List Int × Bool × Bool) (A : List Int → Prop) : Prop where
  bas : PBas (E3 c) (nxC c) c.ins.length s.1 s.2.2
  up : PUp p s.1 s.2.1
  z : s.1[0]? = some 0
  cl : s.2.2 = false → A s.1
theorem RdP.mono {c : CodeD} {p : List Int} {s : List Int × Bool × Bool} {A B : List Int → Prop} (h : RdP c p s A) (hAB : s.2.2 = false → A s.1 → B s.1) : RdP c p s B := ⟨h.bas, h.up, h.z, fun e => hAB e (h.cl e)⟩
theorem RdP.off {c : CodeD} {p o : List Int} {m : Bool} {A B : List Int → Prop} (h : RdP c p (o, m, false) A) (hno : ¬ DepOk (E3 c) (nxC c)) : RdP c p (o, m, true) B := ⟨h.bas.bad hno, h.up, h.z, fun e => by cases e⟩
theorem RdP.ds {c : CodeD} {p o : List Int} {m : Bool} {A B : List Int → Prop} (h : RdP c p (o, m, false) A) {t : Nat} {d : Int} (ht : t < c.ins.length) (hr : Rch (EC c) t) (hD : ∀ D, Cons (E3 c) (nxC c) D → D t = d) (hAB : ∀ o', Keep o o' → o'[t]? = some d → A o → B o') : RdP c p (dsM o m false t d) B := by
  obtain ⟨v, hv⟩ : ∃ v, o[t]? = some v := ⟨_, List.getElem?_eq_getElem (by rw [h.bas.len]; exact ht)⟩
  have hg : o.getD t 0 = v := by rw [List.getD_eq_getElem?_getD, hv]; rfl
  unfold dsM
  rw [hg]
  by_cases c1 : d < 0 ∨ (v ≠ -1 ∧ v ≠ d)
  · rw [if_pos c1]
    refine h.off fun ⟨D, hC⟩ => ?_
    have e := hD D hC
    rcases c1 with c1 | ⟨c1, c2⟩
    · have := hC.pos hr
      omega
    · have hv0 : 0 ≤ v := Classical.byContradiction fun hn => c1 (h.bas.neg t v hv (by omega))
      exact c2 (((h.bas.con D hC).2 t v hv hv0).trans e)
  · rw [if_neg c1]
    have hd : 0 ≤ d := Classical.byContradiction fun hn => c1 (.inl (by omega))
    by_cases c2 : v = -1
    · rw [if_pos c2]
      subst c2
      obtain ⟨b1, u1⟩ := h.bas.new h.up hv hr hd hD
      refine ⟨b1, u1, ?_, fun _ => hAB _ (fun x u hx hu => ?_) (by rw [List.getElem?_set, if_pos rfl, if_pos (List.getElem?_eq_some_iff.1 hv).1]) (h.cl rfl)⟩
      · dsimp only
        rw [List.getElem?_set]
        split
        · rename_i e
          subst e
          have := h.z
          dsimp only at this
          rw [hv] at this
          cases this
        · exact h.z
      · rw [List.getElem?_set]
        split
        · rename_i e
          subst e
          rw [hv] at hx
          cases hx
          omega
        · exact hx
    · rw [if_neg c2]
      have e : v = d := Classical.byContradiction fun hn => c1 (.inr ⟨c2, hn⟩)
      exact ⟨h.bas, h.up, h.z, fun _ => hAB _ (fun _ _ hx _ => hx) (by rw [hv, e]) (h.cl rfl)⟩
theorem dsM_keep (o : List Int) (m bad : Bool) (t : Nat) (d : Int) : Keep o (dsM o m bad t d).1 := by
  intro x v hx hv
  unfold dsM
  split
  · exact hx
  · split
    · rename_i h
      dsimp only
      rw [List.getElem?_set]
      split
      · rename_i e
        subst e
        rw [List.getD_eq_getElem?_getD, hx] at h
        simp at h
        omega
      · exact hx
    · exact hx
def DlW (c : CodeD) (p : List Int) (q : Nat) (o : List Int) : Prop := ∀ j, j < q → ∀ v, p[j]? = some v → 0 ≤ v → 0 ≤ nxC c j v ∧ ∀ x, c.ins[j]? = some x → ∀ b, b ∈ rwlC j x → o[b]? = some (nxC c j v)
def DlK (l : List Nat) (d : Int) (k : Nat) (o : List Int) : Prop := ∀ b, b ∈ l.take k → o[b]? = some d
def DlG (c : CodeD) (p : List Int) (k : Nat) (o : List Int) : Prop := ∀ y, y ∈ c.gs.take k → ∀ v, p[y.f.toNat]? = some v → 0 ≤ v → o[y.g.toNat]? = some v
theorem DlW.keep {c : CodeD} {p : List Int} {q : Nat} {o o' : List Int} (h : DlW c p q o) (hk : Keep o o') : DlW c p q o' := fun j hj v hv h0 => ⟨(h j hj v hv h0).1, fun x hx b hb => hk _ _ ((h j hj v hv h0).2 x hx b hb) (h j hj v hv h0).1⟩
theorem DlG.keep {c : CodeD} {p : List Int} {q : Nat} {o o' : List Int} (h : DlG c p q o) (hk : Keep o o') : DlG c p q o' := fun y hy v hv h0 => hk _ _ (h y hy v hv h0) h0
theorem DlW.next {c : CodeD} {p : List Int} {q : Nat} {o : List Int} {x : InsD} (h : DlW c p q o) (hx : c.ins[q]? = some x) (hk : ∀ v, p[q]? = some v → 0 ≤ v → 0 ≤ nxC c q v ∧ DlK (rwlC q x) (nxC c q v) (rwlC q x).length o) : DlW c p (q + 1) o := by
  intro j hj v hv h0
  by_cases e : j < q
  · exact h j e v hv h0
  · obtain rfl : j = q := by omega
    refine ⟨(hk v hv h0).1, fun y hy b hb => ?_⟩
    rw [hx] at hy
    cases hy
    exact (hk v hv h0).2 b (by rw [List.take_length]; exact hb)
theorem DlK.next {l : List Nat} {d : Int} {k t : Nat} {o o' : List Int} (h : DlK l d k o) (hd : 0 ≤ d) (hk : Keep o o') (ht : l[k]? = some t) (hp : o'[t]? = some d) : DlK l d (k + 1) o' := by
  intro b hb
  rw [List.take_add_one, ht] at hb
  rcases List.mem_append.1 hb with hb | hb
  · exact hk _ _ (h b hb) hd
  · simp at hb
    subst hb
    exact hp
theorem DlG.next {c : CodeD} {p : List Int} {k : Nat} {y : GrdD} {o : List Int} (h : DlG c p k o) (hy : c.gs[k]? = some y) (hp : ∀ v, p[y.f.toNat]? = some v → 0 ≤ v → o[y.g.toNat]? = some v) : DlG c p (k + 1) o := by
  intro z hz
  rw [List.take_add_one, hy] at hz
  rcases List.mem_append.1 hz with hz | hz
  · exact h z hz
  · simp at hz
    subst hz
    exact hp
/-- pass, as it stands: w its beginning, w0 the world that the code object's lists are known in -/
structure RdM (n : Nat) (w0 w : World) (co : Obj) (B bo : Nat) (s : List Int × Bool × Bool) (Z : World) : Prop where
  r : RdI n B bo s Z
  co : Z.heap[w.heap.size]? = some co
  lo : Touch (FD B bo) w Z
  wl : Below w0.heap.size w0 w ∧ w0.heap.size ≤ B ∧ w0.heap.size ≤ bo ∧ B < w.heap.size ∧ bo < w.heap.size
theorem RdM.grow {n : Nat} {w0 w : World} {co : Obj} {B bo : Nat} {s : List Int × Bool × Bool} {Z Y : World} (h : RdM n w0 w co B bo s Z) (hb : Below Z.heap.size Z Y) : RdM n w0 w co B bo s Y :=
  ⟨h.r.touch hb, (hb.block _ (Array.getElem?_eq_some_iff.1 h.co).1).trans h.co, touch_tr h.lo (Touch.of_below hb), h.wl⟩
theorem RdM.to {n : Nat} {w0 w : World} {co : Obj} {B bo : Nat} {s s' : List Int × Bool × Bool} {Z Y : World} (h : RdM n w0 w co B bo s Z) (hr : RdI n B bo s' Y) (ht : Touch (FD B bo) Z Y) : RdM n w0 w co B bo s' Y := by
  obtain ⟨_, _, _, h4, h5⟩ := h.wl
  exact ⟨hr, (ht.block _ (Array.getElem?_eq_some_iff.1 h.co).1 (fun e => by rcases e with e | e <;> omega)).trans h.co, touch_tr h.lo ht, h.wl⟩
theorem RdM.low {n : Nat} {w0 w : World} {co : Obj} {B bo : Nat} {s : List Int × Bool × Bool} {Z : World} (h : RdM n w0 w co B bo s Z) : Below w0.heap.size w0 Z :=
  h.wl.1.trans (h.lo.below h.wl.1.size (fun k e => by have := h.wl; rcases e with e | e <;> omega))
/-- .. with the successors of one instruction -/
structure RdL (n : Nat) (w0 w : World) (co : Obj) (B bo : Nat) (s : List Int × Bool × Bool) (lv : Value) (l : List Nat) (Z : World) : Prop where
  m : RdM n w0 w co B bo s Z
  own : OwnI Z lv l
  hb : ∀ g, lv.ownBlock = some g → B < g ∧ bo < g
theorem RdL.to {n : Nat} {w0 w : World} {co : Obj} {B bo : Nat} {s s' : List Int × Bool × Bool} {lv : Value} {l : List Nat} {Z Y : World} (h : RdL n w0 w co B bo s lv l Z) (hr : RdI n B bo s' Y) (ht : Touch (FD B bo) Z Y) : RdL n w0 w co B bo s' lv l Y :=
  ⟨h.m.to hr ht, ownsRow_touch h.own ht (fun g hg e => by have := h.hb g hg; rcases e with e | e <;> omega), h.hb⟩
def RetP (c : CodeD) (B bo : Nat) (p : List Int) (w : World) (e : Ending) (W' : World) : Prop := e = .returned (.tuple #[]) ∧ ∃ s, RdI c.ins.length B bo s W' ∧ Touch (FD B bo) w W' ∧ RdP c p s (fun o => DlW c p c.ins.length o ∧ DlG c p c.gs.length o)
set_option maxRecDepth 100000 in
set_option maxHeartbeats 16000000 in
theorem rpass_any (c : CodeD) (hr : rightC c = true) (ho : openC c < 0) (i p_ k g : Value) (w0 : World) (h : Cd4 w0 i p_ k g c) (B bo : Nat) (p : List Int) (m0 : Bool) (w : World) (hB : w0.heap.size ≤ B) (hbo : w0.heap.size ≤ bo) (hw : Below w0.heap.size w0 w) (hR : RdI c.ins.length B bo (p, m0, false) w)
    (hP : PBas (E3 c) (nxC c) c.ins.length p false) (hz : p[0]? = some 0) :
    Calls Try.prog 31 #[.pointer (some ⟨B, 0, none⟩), codeV c.nm c.kd c.ln c.rg i p_ k g] w (RetP c B bo p w) := by
  obtain ⟨A1, c1, A2, c2, A3, c3, A4, c4, rfl, rfl, rfl, rfl⟩ := h.forms
  have H := Lib.hid h
  have R1 := Lib.hid (And.intro hr ho)
  have HN := Lib.hid (rightC_len hr)
  obtain ⟨d0, d1, d2, fB, lB, lo, fo, _⟩ := hR.cells
  have WL := Lib.hid (show Below w0.heap.size w0 w ∧ w0.heap.size ≤ B ∧ w0.heap.size ≤ bo ∧ B < w.heap.size ∧ bo < w.heap.size from ⟨hw, hB, hbo, lB, lo⟩)
  have HR := Lib.hid hR
  have HP := Lib.hid (And.intro hP hz)
  have f1 := fB 1
  clear h hr ho hw hB hbo hR hP hz fB fo
  go_enter Try.func31, Try.ntmps31
  go_upto_region 2 with fail
  refine wpc_world (RdM c.ins.length w0 w (codeO c.nm c.kd c.ln c.rg (.slice A1 c.ins.length c1) (.slice A2 c.pl.length c2) (.slice A3 c.ks.length c3) (.slice A4 c.gs.length c4)) B bo (p, false, false)) ?start ?_
  case start =>
    have hm := HR.out.more false
    have hb : Below (w.setCell ⟨B, 1, none⟩ (.bool false)).heap.size (w.setCell ⟨B, 1, none⟩ (.bool false)) ((w.setCell ⟨B, 1, none⟩ (.bool false)).alloc (codeO c.nm c.kd c.ln c.rg (.slice A1 c.ins.length c1) (.slice A2 c.pl.length c2) (.slice A3 c.ks.length c3) (.slice A4 c.gs.length c4))) := bl_al (Below.refl _ _) _
    refine ⟨hm.1.touch hb, ?_, touch_tr hm.2 (Touch.of_below hb), WL.out⟩
    have := heap_alloc_new (w.setCell ⟨B, 1, none⟩ (.bool false)) (codeO c.nm c.kd c.ln c.rg (.slice A1 c.ins.length c1) (.slice A2 c.pl.length c2) (.slice A3 c.ks.length c3) (.slice A4 c.gs.length c4))
    rwa [World.size_setCell] at this
  intro X hX
  have XX := Lib.hid hX
  clear hX d0 d1 d2 lB lo f1
  have IT := Lib.hid (show RdP c p (p, false, false) (DlW c p 0) from ⟨HP.out.1, PUp.refl p, HP.out.2, fun _ j hj => absurd hj (Nat.not_lt_zero _)⟩)
  obtain ⟨⟨a0, a1, a2, a3, a4, a5, a6, a7⟩, -⟩ := cells8 XX.out.co
  go_wp2
  go_loopw [4] (fun i Z => ∃ (q : Nat) (o : List Int) (m bad : Bool), i = .int .i64 q ∧ RdM c.ins.length w0 w (codeO c.nm c.kd c.ln c.rg (.slice A1 c.ins.length c1) (.slice A2 c.pl.length c2) (.slice A3 c.ks.length c3) (.slice A4 c.gs.length c4)) B bo (o, m, bad) Z ∧ Hid (q ≤ c.ins.length ∧ RdP c p (o, m, bad) (DlW c p q))) (fun i _ => c.ins.length - (intOf i).toNat)
  case atStart => exact ⟨0, p, false, false, rfl, XX.out, Lib.hid ⟨Nat.zero_le _, IT.out⟩⟩
  case round =>
    clear a0 a1 a2 a3 a4 a5 a6 a7 IT XX X
    obtain ⟨q, o, m, bad, rfl, hM, HI⟩ := hrel
    have RR := Lib.hid hM
    obtain ⟨⟨a0, a1, a2, a3, a4, a5, a6, a7⟩, -⟩ := cells8 hM.co
    have l0 := (Array.getElem?_eq_some_iff.1 hM.co).1
    obtain ⟨d0, d1, d2, fB, lB, lo, fo, dd⟩ := hM.r.cells
    have fb2 := fB 2
    by_cases hgo : q < c.ins.length ∧ bad = false
    · obtain ⟨hlt, rfl⟩ := hgo
      have q2 : (q : Int) < (c.ins.length : Int) := by omega
      have q3 : ¬ (q : Int) < 0 := by omega
      obtain ⟨x, hx⟩ : ∃ x, c.ins[q]? = some x := ⟨_, List.getElem?_eq_getElem hlt⟩
      obtain ⟨b', off', cap', e1, lb', z0, z1, z2, z3⟩ := at_In (H.out.i.below hM.low) hx
      simp only [Value.slice.injEq] at e1
      obtain ⟨rfl, _, rfl⟩ := e1
      have hi := rightC_ins R1.out.1 (List.mem_of_getElem? hx)
      obtain ⟨u, hu⟩ : ∃ u, o[q]? = some u := ⟨_, List.getElem?_eq_getElem (by rw [HI.out.2.bas.len]; exact hlt)⟩
      have du := dd q u hu
      have LQ := Lib.hid hlt
      have HX := Lib.hid (And.intro hx hu)
      have RY := Lib.hid (fun W (hb : Below w0.heap.size w0 W) => rways_any c (.slice (some ⟨b', off', none⟩) c.ins.length c1) (.slice A2 c.pl.length c2) (.slice A3 c.ks.length c3) (.slice A4 c.gs.length c4) q x hx (insC_op hi) (fun j hj => (insC_j hi j hj).1) W (H.out.below hb))
      have RB := Lib.hid (fun W => rbehind_any x.op u W)
      have NX := Lib.hid (nxC_at hx u)
      obtain ⟨kp, hkp, ek1⟩ : ∃ kp : Nat, kp = q + 1 ∧ wrap64 ((q : Int) + 1) = (kp : Int) := ⟨q + 1, rfl, w64c rfl (by have := HN.out.1; omega)⟩
      have KP := Lib.hid hkp
      clear hkp hM hlt hx hi hu fB fo dd
      by_cases hneg : u < 0
      · have UN := Lib.hid hneg
        go_wp2
        go_roundw
        case rel => exact ⟨kp, o, m, false, by first | with_reducible rfl | (rw [ek1]; done) | (rw [KP.out]; go_num), RR.out, Lib.hid ⟨by rw [KP.out]; exact LQ.out, HI.out.2.mono fun _ h => (by rw [KP.out]; exact h.next HX.out.1 (fun v hv h0 => by have e := HI.out.2.up.keep q v hv h0; dsimp only at e; rw [HX.out.2] at e; cases e; have := UN.out; omega))⟩⟩
        case measure => (first | ((try rw [ek1]); exact meas_c KP.out LQ.out) | (clear ek1; have := LQ.out; simp only [intOf]; omega))
      · have U0 := Lib.hid (show 0 ≤ u by clear ek1; omega)
        go_upto_region 6 with fail
        ((first | (with_reducible refine wp_quiet_gr Try.mixed ?_ ?_) | (with_reducible refine wp_quiet_any Try.mixed ?_ ?_)); (next => kernel_rfl); (repeat (with_reducible refine wpQuiet_step (fun K hK => ?_); go_simp; first | (refine hK _ ?_; clear hK K) | (apply Exists.intro; refine ⟨fun _ => ?_, hK _ ?_⟩; ((go_at_call 54; exact callQ (RB.out _))); clear hK K))); refine wpQuiet_nil ?_; intro pq)
        go_simp
        generalize behM x.op u = d at *
        by_cases hd : d < 0
        · have DN := Lib.hid hd
          go_upto_region 9 with fail
          refine wpc_world (RdM c.ins.length w0 w (codeO c.nm c.kd c.ln c.rg (.slice (some ⟨b', off', none⟩) c.ins.length c1) (.slice A2 c.pl.length c2) (.slice A3 c.ks.length c3) (.slice A4 c.gs.length c4)) B bo (o, m, true)) (by first | exact (RR.out.to (RR.out.r.bad true).1 (RR.out.r.bad true).2).grow (below_gr _ _) | exact (RR.out.grow (below_gr _ _)).to ((RR.out.grow (below_gr _ _)).r.bad true).1 ((RR.out.grow (below_gr _ _)).r.bad true).2) ?_
          have I9 := Lib.hid (show RdP c p (o, m, true) (fun o => DlW c p q o ∧ DlK (rwlC q x) d 0 o) from HI.out.2.off (fun ⟨D, hC⟩ => by
            have e1 := (HI.out.2.bas.con D hC).2 q u HX.out.2 U0.out
            have e2 := hC.nn q (HI.out.2.bas.rch q u HX.out.2 U0.out)
            rw [← e1, NX.out] at e2
            have := DN.out
            omega))
          have NC := Lib.hid (fun (o' : List Int) (h : DlW c p q o') (hk : ∀ v, p[q]? = some v → 0 ≤ v → 0 ≤ nxC c q v ∧ DlK (rwlC q x) (nxC c q v) (rwlC q x).length o') => h.next HX.out.1 hk)
          have LT := Lib.hid (fun (t : Nat) (ht : t ∈ rwlC q x) => (⟨rwl_lt R1.out.1 R1.out.2 HX.out.1 (HI.out.2.bas.rch q u HX.out.2 U0.out) ht, (HI.out.2.bas.rch q u HX.out.2 U0.out).step ⟨false, E3_rwl HX.out.1 (rwl_lt R1.out.1 R1.out.2 HX.out.1 (HI.out.2.bas.rch q u HX.out.2 U0.out) ht) ht⟩, fun D hC => by
            have hq := HI.out.2.bas.rch q u HX.out.2 U0.out
            have e1 := (HI.out.2.bas.con D hC).2 q u HX.out.2 U0.out
            rw [hC.next q t false hq (E3_rwl HX.out.1 (rwl_lt R1.out.1 R1.out.2 HX.out.1 hq ht) ht), ← e1, ← NX.out]
            rfl⟩ : t < c.ins.length ∧ Rch (EC c) t ∧ ∀ D, Cons (E3 c) (nxC c) D → D t = d))
          have PQ := Lib.hid (fun (v : Int) (hv : p[q]? = some v) (h0 : 0 ≤ v) => by have e := HI.out.2.up.keep q v hv h0; dsimp only at e; rw [HX.out.2] at e; cases e; rfl : ∀ v, p[q]? = some v → 0 ≤ v → v = u)
          generalize rwlC q x = l at *
          intro Z hZ
          have ZZ := Lib.hid hZ
          clear hZ a0 a1 a2 a3 a4 a5 a6 a7 l0 d0 d1 d2 lB lo fb2 du z0 z1 z2 z3 lb' RR
          obtain ⟨⟨a0, a1, a2, a3, a4, a5, a6, a7⟩, -⟩ := cells8 ZZ.out.co
          have l0 := (Array.getElem?_eq_some_iff.1 ZZ.out.co).1
          obtain ⟨_, _, _, _, lB, lo, _, _⟩ := ZZ.out.r.cells
          go_wp2_with (go_at_call 23; go_loud (refine (RY.out _ ZZ.out.low).mono ?_; rintro e w3 ⟨lv, rfl, ow, hb3, hbl⟩; obtain ⟨A, cp, rfl⟩ := ownsRow_form ow; have R3 := Lib.hid (show RdL c.ins.length w0 w (codeO c.nm c.kd c.ln c.rg (.slice (some ⟨b', off', none⟩) c.ins.length c1) (.slice A2 c.pl.length c2) (.slice A3 c.ks.length c3) (.slice A4 c.gs.length c4)) B bo (o, m, true) (.slice A l.length cp) l w3 from ⟨ZZ.out.grow hbl, ow, fun g hg => by have := hb3 g hg; (try simp at this); constructor <;> omega⟩); clear ow hb3 hbl))
          clear a0 a1 a2 a3 a4 a5 a6 a7 l0 lB lo
          go_loopw [7] (fun i Z => ∃ (k : Nat) (o : List Int) (m bad : Bool), i = .int .i64 k ∧ RdL c.ins.length w0 w (codeO c.nm c.kd c.ln c.rg (.slice (some ⟨b', off', none⟩) c.ins.length c1) (.slice A2 c.pl.length c2) (.slice A3 c.ks.length c3) (.slice A4 c.gs.length c4)) B bo (o, m, bad) (.slice A l.length cp) l Z ∧ Hid (k ≤ l.length ∧ o[q]? = some u ∧ RdP c p (o, m, bad) (fun o => DlW c p q o ∧ DlK l d k o) ∧ (bad = false → 0 ≤ d))) (fun i _ => l.length - (intOf i).toNat)
          case atStart => exact ⟨0, o, m, true, rfl, R3.out, Lib.hid ⟨Nat.zero_le _, HX.out.2, I9.out, (fun h => by cases h)⟩⟩
          case round =>
            clear R3 HI I9 HX
            obtain ⟨k, o, m, bad, rfl, hL, HI⟩ := hrel
            have RR := Lib.hid hL
            have sl : IsN wr (.slice A l.length cp) l := ownsRow_slOf (en := enN) (fun _ => rfl) hL.own
            have hm := sl.1
            obtain ⟨d0, d1, d2, fB, lB, lo, fo, dd⟩ := hL.m.r.cells
            by_cases hgo : k < l.length ∧ bad = false
            · obtain ⟨hlk, rfl⟩ := hgo
              obtain ⟨b2, off2, cp2, e2, _, lb2, hx2⟩ := sl.at_ (by clear ek1; omega)
              simp only [Value.slice.injEq] at e2
              obtain ⟨rfl, _, rfl⟩ := e2
              obtain ⟨t, ht⟩ : ∃ t, l[k]? = some t := ⟨_, List.getElem?_eq_getElem hlk⟩
              have ct : wr.cell? ⟨b2, off2 + k, none⟩ = some (.int .i64 (t : Int)) := by have := hx2 k t ht 0 _ rfl; simpa using this
              have q5 : (k : Int) < (l.length : Int) := by clear ek1; omega
              have q6 : ¬ (k : Int) < 0 := by clear ek1; omega
              have LK := Lib.hid hlk
              obtain ⟨kk, hkk, ek2⟩ : ∃ kk : Nat, kk = k + 1 ∧ wrap64 ((k : Int) + 1) = (kk : Int) := ⟨k + 1, rfl, w64c rfl (by clear ek1; unfold maxLen at hm; omega)⟩
              have KK := Lib.hid hkk
              have ST := Lib.hid (rset_any c.ins.length B bo o m false t d (LT.out t (List.mem_of_getElem? ht)).1 wr hL.m.r)
              have TT := Lib.hid (LT.out t (List.mem_of_getElem? ht))
              have HT := Lib.hid ht
              have DS := Lib.hid (show RdP c p (dsM o m false t d) (fun o => DlW c p q o ∧ DlK l d (k + 1) o) from HI.out.2.2.1.ds TT.out.1 TT.out.2.1 TT.out.2.2 fun o' hk h1 h => ⟨h.1.keep hk, h.2.next (HI.out.2.2.2 (by simp)) hk HT.out h1⟩)
              have DQ := Lib.hid (dsM_keep o m false t d q u HI.out.2.1 U0.out)
              generalize dsM o m false t d = s5 at *
              obtain ⟨o5, m5, b5⟩ := s5
              clear hL sl hm hlk hx2 ht hkk fB fo dd
              go_wp2_with (go_at_call 30; go_loud (refine ST.out.mono ?_; rintro e w5 ⟨rfl, r5, t5⟩; have G5 := Lib.hid (RR.out.to r5 t5); clear r5 t5))
              go_roundw
              case rel => exact ⟨kk, o5, m5, b5, by first | with_reducible rfl | (rw [ek2]; done) | (rw [KK.out]; go_num), G5.out, Lib.hid ⟨by rw [KK.out]; exact LK.out, DQ.out, (by rw [KK.out]; exact DS.out), fun _ => HI.out.2.2.2 (by simp)⟩⟩
              case measure => (first | ((try rw [ek2]); exact meas_c KK.out LK.out) | (clear ek1 ek2; have := LK.out; simp only [intOf]; omega))
            · have KE := Lib.hid (show bad = false → k = l.length from fun e => by have := HI.out.1; have h : ¬ k < l.length := fun h => hgo ⟨h, e⟩; clear ek1; omega)
              have q5 : ¬ (k : Int) < (l.length : Int) ∨ ((k : Int) < (l.length : Int) ∧ bad = true) := by
                by_cases h : k < l.length
                · right
                  exact ⟨by clear ek1; omega, by cases bad; exact absurd ⟨h, rfl⟩ hgo; rfl⟩
                · left
                  clear ek1
                  omega
              have NX2 := Lib.hid (show RdP c p (o, m, bad) (DlW c p (q + 1)) from HI.out.2.2.1.mono fun e h => NC.out _ h.1 fun v hv h0 => by
                have := PQ.out v hv h0
                subst this
                rw [NX.out, ← KE.out e]
                exact ⟨HI.out.2.2.2 e, h.2⟩)
              clear hL sl hm fo dd hgo
              have fb2 := fB 2
              clear fB
              rcases q5 with q5 | ⟨q5, rfl⟩
              all_goals
                go_wp2
                go_roundw
                case rel => exact ⟨kp, o, m, _, by first | with_reducible rfl | (rw [ek1]; done) | (rw [KP.out]; go_num), RR.out.m, Lib.hid ⟨by rw [KP.out]; exact LQ.out, (by rw [KP.out]; exact NX2.out)⟩⟩
                case measure => (first | ((try rw [ek1]); exact meas_c KP.out LQ.out) | (clear ek1; have := LQ.out; simp only [intOf]; omega))
        · have D0 := Lib.hid (show 0 ≤ d by clear ek1; omega)
          go_upto_region 9 with fail
          refine wpc_world (RdM c.ins.length w0 w (codeO c.nm c.kd c.ln c.rg (.slice (some ⟨b', off', none⟩) c.ins.length c1) (.slice A2 c.pl.length c2) (.slice A3 c.ks.length c3) (.slice A4 c.gs.length c4)) B bo (o, m, false)) (RR.out.grow (by (repeat (with_reducible first | exact Below.refl _ _ | (refine bl_set ?_ (by first | omega | (simp; done) | (simp; omega)) _) | refine bl_gr ?_ _ | refine bl_al ?_ _ | refine below_setRow ?_ (by first | omega | (simp; done) | (simp; omega)) _ | refine bl_drewN ?_ _ | refine Below.drew ?_ | (refine bl_tr ?_ (by assumption)))))) ?_
          have I9 := Lib.hid (show RdP c p (o, m, false) (fun o => DlW c p q o ∧ DlK (rwlC q x) d 0 o) from HI.out.2.mono fun _ h => ⟨h, fun b hb => by simp at hb⟩)
          have NC := Lib.hid (fun (o' : List Int) (h : DlW c p q o') (hk : ∀ v, p[q]? = some v → 0 ≤ v → 0 ≤ nxC c q v ∧ DlK (rwlC q x) (nxC c q v) (rwlC q x).length o') => h.next HX.out.1 hk)
          have LT := Lib.hid (fun (t : Nat) (ht : t ∈ rwlC q x) => (⟨rwl_lt R1.out.1 R1.out.2 HX.out.1 (HI.out.2.bas.rch q u HX.out.2 U0.out) ht, (HI.out.2.bas.rch q u HX.out.2 U0.out).step ⟨false, E3_rwl HX.out.1 (rwl_lt R1.out.1 R1.out.2 HX.out.1 (HI.out.2.bas.rch q u HX.out.2 U0.out) ht) ht⟩, fun D hC => by
            have hq := HI.out.2.bas.rch q u HX.out.2 U0.out
            have e1 := (HI.out.2.bas.con D hC).2 q u HX.out.2 U0.out
            rw [hC.next q t false hq (E3_rwl HX.out.1 (rwl_lt R1.out.1 R1.out.2 HX.out.1 hq ht) ht), ← e1, ← NX.out]
            rfl⟩ : t < c.ins.length ∧ Rch (EC c) t ∧ ∀ D, Cons (E3 c) (nxC c) D → D t = d))
          have PQ := Lib.hid (fun (v : Int) (hv : p[q]? = some v) (h0 : 0 ≤ v) => by have e := HI.out.2.up.keep q v hv h0; dsimp only at e; rw [HX.out.2] at e; cases e; rfl : ∀ v, p[q]? = some v → 0 ≤ v → v = u)
          generalize rwlC q x = l at *
          intro Z hZ
          have ZZ := Lib.hid hZ
          clear hZ a0 a1 a2 a3 a4 a5 a6 a7 l0 d0 d1 d2 lB lo fb2 du z0 z1 z2 z3 lb' RR
          obtain ⟨⟨a0, a1, a2, a3, a4, a5, a6, a7⟩, -⟩ := cells8 ZZ.out.co
          have l0 := (Array.getElem?_eq_some_iff.1 ZZ.out.co).1
          obtain ⟨_, _, _, _, lB, lo, _, _⟩ := ZZ.out.r.cells
          go_wp2_with (go_at_call 23; go_loud (refine (RY.out _ ZZ.out.low).mono ?_; rintro e w3 ⟨lv, rfl, ow, hb3, hbl⟩; obtain ⟨A, cp, rfl⟩ := ownsRow_form ow; have R3 := Lib.hid (show RdL c.ins.length w0 w (codeO c.nm c.kd c.ln c.rg (.slice (some ⟨b', off', none⟩) c.ins.length c1) (.slice A2 c.pl.length c2) (.slice A3 c.ks.length c3) (.slice A4 c.gs.length c4)) B bo (o, m, false) (.slice A l.length cp) l w3 from ⟨ZZ.out.grow hbl, ow, fun g hg => by have := hb3 g hg; (try simp at this); constructor <;> omega⟩); clear ow hb3 hbl))
          clear a0 a1 a2 a3 a4 a5 a6 a7 l0 lB lo
          go_loopw [7] (fun i Z => ∃ (k : Nat) (o : List Int) (m bad : Bool), i = .int .i64 k ∧ RdL c.ins.length w0 w (codeO c.nm c.kd c.ln c.rg (.slice (some ⟨b', off', none⟩) c.ins.length c1) (.slice A2 c.pl.length c2) (.slice A3 c.ks.length c3) (.slice A4 c.gs.length c4)) B bo (o, m, bad) (.slice A l.length cp) l Z ∧ Hid (k ≤ l.length ∧ o[q]? = some u ∧ RdP c p (o, m, bad) (fun o => DlW c p q o ∧ DlK l d k o) ∧ (bad = false → 0 ≤ d))) (fun i _ => l.length - (intOf i).toNat)
          case atStart => exact ⟨0, o, m, false, rfl, R3.out, Lib.hid ⟨Nat.zero_le _, HX.out.2, I9.out, (fun _ => D0.out)⟩⟩
          case round =>
            clear R3 HI I9 HX
            obtain ⟨k, o, m, bad, rfl, hL, HI⟩ := hrel
            have RR := Lib.hid hL
            have sl : IsN wr (.slice A l.length cp) l := ownsRow_slOf (en := enN) (fun _ => rfl) hL.own
            have hm := sl.1
            obtain ⟨d0, d1, d2, fB, lB, lo, fo, dd⟩ := hL.m.r.cells
            by_cases hgo : k < l.length ∧ bad = false
            · obtain ⟨hlk, rfl⟩ := hgo
              obtain ⟨b2, off2, cp2, e2, _, lb2, hx2⟩ := sl.at_ (by clear ek1; omega)
              simp only [Value.slice.injEq] at e2
              obtain ⟨rfl, _, rfl⟩ := e2
              obtain ⟨t, ht⟩ : ∃ t, l[k]? = some t := ⟨_, List.getElem?_eq_getElem hlk⟩
              have ct : wr.cell? ⟨b2, off2 + k, none⟩ = some (.int .i64 (t : Int)) := by have := hx2 k t ht 0 _ rfl; simpa using this
              have q5 : (k : Int) < (l.length : Int) := by clear ek1; omega
              have q6 : ¬ (k : Int) < 0 := by clear ek1; omega
              have LK := Lib.hid hlk
              obtain ⟨kk, hkk, ek2⟩ : ∃ kk : Nat, kk = k + 1 ∧ wrap64 ((k : Int) + 1) = (kk : Int) := ⟨k + 1, rfl, w64c rfl (by clear ek1; unfold maxLen at hm; omega)⟩
              have KK := Lib.hid hkk
              have ST := Lib.hid (rset_any c.ins.length B bo o m false t d (LT.out t (List.mem_of_getElem? ht)).1 wr hL.m.r)
              have TT := Lib.hid (LT.out t (List.mem_of_getElem? ht))
              have HT := Lib.hid ht
              have DS := Lib.hid (show RdP c p (dsM o m false t d) (fun o => DlW c p q o ∧ DlK l d (k + 1) o) from HI.out.2.2.1.ds TT.out.1 TT.out.2.1 TT.out.2.2 fun o' hk h1 h => ⟨h.1.keep hk, h.2.next (HI.out.2.2.2 (by simp)) hk HT.out h1⟩)
              have DQ := Lib.hid (dsM_keep o m false t d q u HI.out.2.1 U0.out)
              generalize dsM o m false t d = s5 at *
              obtain ⟨o5, m5, b5⟩ := s5
              clear hL sl hm hlk hx2 ht hkk fB fo dd
              go_wp2_with (go_at_call 30; go_loud (refine ST.out.mono ?_; rintro e w5 ⟨rfl, r5, t5⟩; have G5 := Lib.hid (RR.out.to r5 t5); clear r5 t5))
              go_roundw
              case rel => exact ⟨kk, o5, m5, b5, by first | with_reducible rfl | (rw [ek2]; done) | (rw [KK.out]; go_num), G5.out, Lib.hid ⟨by rw [KK.out]; exact LK.out, DQ.out, (by rw [KK.out]; exact DS.out), fun _ => HI.out.2.2.2 (by simp)⟩⟩
              case measure => (first | ((try rw [ek2]); exact meas_c KK.out LK.out) | (clear ek1 ek2; have := LK.out; simp only [intOf]; omega))
            · have KE := Lib.hid (show bad = false → k = l.length from fun e => by have := HI.out.1; have h : ¬ k < l.length := fun h => hgo ⟨h, e⟩; clear ek1; omega)
              have q5 : ¬ (k : Int) < (l.length : Int) ∨ ((k : Int) < (l.length : Int) ∧ bad = true) := by
                by_cases h : k < l.length
                · right
                  exact ⟨by clear ek1; omega, by cases bad; exact absurd ⟨h, rfl⟩ hgo; rfl⟩
                · left
                  clear ek1
                  omega
              have NX2 := Lib.hid (show RdP c p (o, m, bad) (DlW c p (q + 1)) from HI.out.2.2.1.mono fun e h => NC.out _ h.1 fun v hv h0 => by
                have := PQ.out v hv h0
                subst this
                rw [NX.out, ← KE.out e]
                exact ⟨HI.out.2.2.2 e, h.2⟩)
              clear hL sl hm fo dd hgo
              have fb2 := fB 2
              clear fB
              rcases q5 with q5 | ⟨q5, rfl⟩
              all_goals
                go_wp2
                go_roundw
                case rel => exact ⟨kp, o, m, _, by first | with_reducible rfl | (rw [ek1]; done) | (rw [KP.out]; go_num), RR.out.m, Lib.hid ⟨by rw [KP.out]; exact LQ.out, (by rw [KP.out]; exact NX2.out)⟩⟩
                case measure => (first | ((try rw [ek1]); exact meas_c KP.out LQ.out) | (clear ek1; have := LQ.out; simp only [intOf]; omega))
    · have W1 := Lib.hid (show RdP c p (o, m, bad) (DlW c p c.ins.length) from HI.out.2.mono fun e h => by
        have h2 := HI.out.1
        have e2 : q = c.ins.length := Classical.byContradiction fun hn => hgo ⟨by omega, e⟩
        rw [← e2]
        exact h)
      have q5 : ¬ (q : Int) < (c.ins.length : Int) ∨ ((q : Int) < (c.ins.length : Int) ∧ bad = true) := by
        by_cases h : q < c.ins.length
        · right
          exact ⟨by omega, by cases bad; exact absurd ⟨h, rfl⟩ hgo; rfl⟩
        · left
          omega
      have T1 := Lib.hid (show RdM c.ins.length w0 w (codeO c.nm c.kd c.ln c.rg (.slice A1 c.ins.length c1) (.slice A2 c.pl.length c2) (.slice A3 c.ks.length c3) (.slice A4 c.gs.length c4)) B bo (o, m, bad) wr from RR.out)
      clear hM hgo fB fo dd
      rcases q5 with q5 | ⟨q5, rfl⟩
      all_goals
        go_wp2
        go_loopw [8] (fun i Z => ∃ (k : Nat) (o : List Int) (m bad : Bool), i = .int .i64 k ∧ RdM c.ins.length w0 w (codeO c.nm c.kd c.ln c.rg (.slice A1 c.ins.length c1) (.slice A2 c.pl.length c2) (.slice A3 c.ks.length c3) (.slice A4 c.gs.length c4)) B bo (o, m, bad) Z ∧ Hid (k ≤ c.gs.length ∧ RdP c p (o, m, bad) (fun o => DlW c p c.ins.length o ∧ DlG c p k o))) (fun i _ => c.gs.length - (intOf i).toNat)
        case atStart => exact ⟨0, o, m, _, rfl, T1.out, Lib.hid ⟨Nat.zero_le _, W1.out.mono fun _ h => ⟨h, fun y hy => (by simp at hy)⟩⟩⟩
        case round =>
          clear a0 a1 a2 a3 a4 a5 a6 a7 l0 d0 d1 d2 lB lo fb2 RR HI W1 T1 q5
          obtain ⟨k, o, m, bad, rfl, hM, HI⟩ := hrel
          have RR := Lib.hid hM
          obtain ⟨⟨a0, a1, a2, a3, a4, a5, a6, a7⟩, -⟩ := cells8 hM.co
          have l0 := (Array.getElem?_eq_some_iff.1 hM.co).1
          obtain ⟨d0, d1, d2, fB, lB, lo, fo, dd⟩ := hM.r.cells
          have fb2 := fB 2
          by_cases hgo : k < c.gs.length ∧ bad = false
          · obtain ⟨hlk, rfl⟩ := hgo
            have q6 : (k : Int) < (c.gs.length : Int) := by omega
            have q7 : ¬ (k : Int) < 0 := by omega
            obtain ⟨y, hy⟩ : ∃ y, c.gs[k]? = some y := ⟨_, List.getElem?_eq_getElem hlk⟩
            obtain ⟨b', off', cap', e1, lb', z0, z1, z2, z3⟩ := at_Gd (H.out.g.below hM.low) hy
            simp only [Value.slice.injEq] at e1
            obtain ⟨rfl, _, rfl⟩ := e1
            obtain ⟨g1, g2, g3, g4, g5, _, _⟩ := gdM_ok (rightC_gs R1.out.1 (List.mem_of_getElem? hy))
            have q8 : y.f < (c.ins.length : Int) := by omega
            have q9 : ¬ y.f < 0 := by omega
            have q9' : 0 ≤ y.f := by omega
            obtain ⟨x, hx⟩ : ∃ x, c.ins[y.f.toNat]? = some x := ⟨_, List.getElem?_eq_getElem (by omega)⟩
            obtain ⟨u, hu⟩ : ∃ u, o[y.f.toNat]? = some u := ⟨_, List.getElem?_eq_getElem (by rw [HI.out.2.bas.len]; omega)⟩
            have du := dd _ u hu
            have EG := Lib.hid (E3_gs (List.mem_of_getElem? hy) hx (by omega))
            have GN := Lib.hid (show y.g.toNat < c.ins.length by omega)
            obtain ⟨gn, hgn⟩ : ∃ gn : Nat, y.g = (gn : Int) := ⟨y.g.toNat, by omega⟩
            have GE := Lib.hid (show y.g.toNat = gn by omega)
            have LK := Lib.hid hlk
            obtain ⟨kk, hkk, ek2⟩ : ∃ kk : Nat, kk = k + 1 ∧ wrap64 ((k : Int) + 1) = (kk : Int) := ⟨k + 1, rfl, w64c rfl (by have := HN.out.2; omega)⟩
            have KK := Lib.hid hkk
            have HY := Lib.hid (And.intro hy hu)
            have z2' := z2
            rw [hgn] at z2'
            clear hM hlk hy hx hu hkk g1 g2 g3 g4 g5 fB fo dd hgn z2
            by_cases hneg : u < 0
            · have UN := Lib.hid hneg
              have r1 : ¬ 0 ≤ u := by clear ek2; omega
              go_upto_region 17 with fail
              ((first | (with_reducible refine wp_quiet_gr Try.mixed ?_ ?_) | (with_reducible refine wp_quiet_any Try.mixed ?_ ?_)); (next => kernel_rfl); (repeat (with_reducible refine wpQuiet_step (fun K hK => ?_); go_simp; first | (refine hK _ ?_; clear hK K) | (apply Exists.intro; refine ⟨fun _ => ?_, hK _ ?_⟩; (fail); clear hK K))); refine wpQuiet_nil ?_; intro pq)
              go_simp
              go_wp2
              go_roundw
              case rel => exact ⟨kk, o, m, false, by first | with_reducible rfl | (rw [ek2]; done) | (rw [KK.out]; go_num), RR.out.grow (by (repeat (with_reducible first | exact Below.refl _ _ | (refine bl_set ?_ (by first | omega | (simp; done) | (simp; omega)) _) | refine bl_gr ?_ _ | refine bl_al ?_ _ | refine below_setRow ?_ (by first | omega | (simp; done) | (simp; omega)) _ | refine bl_drewN ?_ _ | refine Below.drew ?_ | (refine bl_tr ?_ (by assumption))))), Lib.hid ⟨by rw [KK.out]; exact LK.out, HI.out.2.mono fun _ h => ⟨h.1, (by rw [KK.out]; exact h.2.next HY.out.1 (fun v hv h0 => by have e := HI.out.2.up.keep _ v hv h0; dsimp only at e; rw [HY.out.2] at e; cases e; have := UN.out; omega))⟩⟩⟩
              case measure => (first | ((try rw [ek2]); exact meas_c KK.out LK.out) | (clear ek2; have := LK.out; simp only [intOf]; omega))
            · have U0 := Lib.hid (show 0 ≤ u by clear ek2; omega)
              have r1 : 0 ≤ u := U0.out
              have hq := HI.out.2.bas.rch _ u HY.out.2 U0.out
              have DS := Lib.hid (show RdP c p (dsM o m false gn u) (fun o => DlW c p c.ins.length o ∧ DlG c p (k + 1) o) from by
                rw [← GE.out]
                exact HI.out.2.ds GN.out (hq.step ⟨true, EG.out⟩) (fun D hC => by rw [hC.next _ _ true hq EG.out, ← (HI.out.2.bas.con D hC).2 _ u HY.out.2 U0.out]; rfl) fun o' hk h1 h => ⟨h.1.keep hk, (h.2.keep hk).next HY.out.1 (fun v hv h0 => by have e := HI.out.2.up.keep _ v hv h0; dsimp only at e; rw [HY.out.2] at e; cases e; exact h1)⟩)
              have ST := Lib.hid (fun W (hR : RdI c.ins.length B bo (o, m, false) W) => rset_any c.ins.length B bo o m false gn u (by have := GN.out; rw [GE.out] at this; exact this) W hR)
              generalize dsM o m false gn u = s5 at *
              obtain ⟨o5, m5, b5⟩ := s5
              clear hq
              go_upto_region 17 with fail
              ((first | (with_reducible refine wp_quiet_gr Try.mixed ?_ ?_) | (with_reducible refine wp_quiet_any Try.mixed ?_ ?_)); (next => kernel_rfl); (repeat (with_reducible refine wpQuiet_step (fun K hK => ?_); go_simp; first | (refine hK _ ?_; clear hK K) | (apply Exists.intro; refine ⟨fun _ => ?_, hK _ ?_⟩; (fail); clear hK K))); refine wpQuiet_nil ?_; intro pq)
              go_simp
              go_upto_region 18 with fail
              ((first | (with_reducible refine wp_tail_gr 19 Try.mixed ?_ ?_) | (with_reducible refine wp_tail_any 19 Try.mixed ?_ ?_)); (next => kernel_rfl); simp only [List.take_succ_cons, List.take_zero, List.drop_succ_cons, List.drop_zero]; (repeat (with_reducible refine wpQuiet_step (fun K hK => ?_); go_simp; first | (refine hK _ ?_; clear hK K) | (apply Exists.intro; refine ⟨fun _ => ?_, hK _ ?_⟩; (fail); clear hK K))); refine wpQuiet_nil ?_; intro pq)
              go_wp2_with (go_at_call 30; go_loud (refine (ST.out _ (RR.out.r.touch (by (repeat (with_reducible first | exact Below.refl _ _ | (refine bl_set ?_ (by first | omega | (simp; done) | (simp; omega)) _) | refine bl_gr ?_ _ | refine bl_al ?_ _ | refine below_setRow ?_ (by first | omega | (simp; done) | (simp; omega)) _ | refine bl_drewN ?_ _ | refine Below.drew ?_ | (refine bl_tr ?_ (by assumption))))))).mono ?_; rintro e w5 ⟨rfl, r5, t5⟩; have G5 := Lib.hid ((RR.out.grow (by (repeat (with_reducible first | exact Below.refl _ _ | (refine bl_set ?_ (by first | omega | (simp; done) | (simp; omega)) _) | refine bl_gr ?_ _ | refine bl_al ?_ _ | refine below_setRow ?_ (by first | omega | (simp; done) | (simp; omega)) _ | refine bl_drewN ?_ _ | refine Below.drew ?_ | (refine bl_tr ?_ (by assumption)))))).to r5 t5); clear r5 t5))
              go_roundw
              case rel => exact ⟨kk, o5, m5, b5, by first | with_reducible rfl | (rw [ek2]; done) | (rw [KK.out]; go_num), G5.out, Lib.hid ⟨by rw [KK.out]; exact LK.out, (by rw [KK.out]; exact DS.out)⟩⟩
              case measure => (first | ((try rw [ek2]); exact meas_c KK.out LK.out) | (clear ek2; have := LK.out; simp only [intOf]; omega))
          · have F1 := Lib.hid (show RdP c p (o, m, bad) (fun o => DlW c p c.ins.length o ∧ DlG c p c.gs.length o) from HI.out.2.mono fun e h => by
              have h2 := HI.out.1
              have e2 : k = c.gs.length := Classical.byContradiction fun hn => hgo ⟨by omega, e⟩
              rw [← e2]
              exact h)
            have q5 : ¬ (k : Int) < (c.gs.length : Int) ∨ ((k : Int) < (c.gs.length : Int) ∧ bad = true) := by
              by_cases h : k < c.gs.length
              · right
                exact ⟨by omega, by cases bad; exact absurd ⟨h, rfl⟩ hgo; rfl⟩
              · left
                omega
            clear hM hgo fB fo dd
            rcases q5 with q5 | ⟨q5, rfl⟩
            all_goals
              go_wp2
              go_end0
              exact ⟨rfl, _, RR.out.r, RR.out.lo, F1.out⟩
end Go.Proofs.Ytcmpgohpncnagaa
