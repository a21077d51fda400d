/- verify.along over a closure that is kept open. -/
import Derived.Test.YtcmpgohpncnagaaWyC
namespace Go.Proofs.Ytcmpgohpncnagaa
set_option linter.all false
open Go.ChangeShapes Go.WideShapes Go.ChangeAt Go.RowKit Go.Sort Go.Deep Go.Shelf

section
variable {σ : Type}
abbrev fnO (F : FuncId) (cap : Array Value) : Obj := .cells #[.func (.func F) #[] cap] 60
set_option maxRecDepth 100000 in
set_option maxHeartbeats 8000000 in
theorem along1_any (St : σ → World → Prop) (K : Nat → Prop) (hB : ∀ s W W', St s W → Below W.heap.size W W' → St s W') (F : FuncId) (cap : Array Value) (eg : ∀ args W, (callFunc F args).run Try.prog W = .ok (.enter F args) W)
    (s s' : σ) (t : Nat) (B : Nat) (W : World) (hS : St s W) (hb : W.heap[B]? = some (fnO F cap))
    (hF : ∀ W, St s W → Calls Try.prog F (#[.int .i64 (t : Int), .bool false] ++ cap) W fun e W' => e = .returned (.tuple #[]) ∧ St s' W' ∧ Kp K W W') :
    Calls Try.prog 53 #[.int .i64 (t : Int), .pointer (some ⟨B, 0, none⟩)] W fun e W' => e = .returned (.tuple #[]) ∧ (St s' W' ∧ W'.heap[B]? = some (fnO F cap)) ∧ Kp K W W' := by
  have c0 : W.cell? ⟨B, 0, none⟩ = some (.func (.func F) #[] cap) := by rw [cell_of_row W B _ _ _ _ hb]; rfl
  have CF := Lib.hid (hF W hS)
  have HB := Lib.hid hb
  clear hF hB hS hb
  go_enter Try.func53, Try.ntmps53
  go_wp2_with (go_at_fn F; refine CF.out.mono ?_; rintro e W3 ⟨rfl, hs, hk⟩; have WY := Lib.hid (And.intro hs hk); clear hs hk)
  go_end0
  exact ⟨rfl, ⟨WY.out.1, WY.out.2.blk _ _ HB.out (.inr rfl)⟩, WY.out.2⟩

/-- what the walk of along knows between two calls -/
structure AlI (St : σ → World → Prop) (K : Nat → Prop) (w0 w : World) (s : σ) (co fo : Obj) (X : World) : Prop where
  st : St s X
  lo : Below w0.heap.size w0 X
  kp : Kp K w X
  co : X.heap[w.heap.size]? = some co
  fo : X.heap[w.heap.size + 1]? = some fo
theorem AlI.call {St : σ → World → Prop} {K : Nat → Prop} {w0 w : World} {s t : σ} {co fo : Obj} {X Y Z : World} (h : AlI St K w0 w s co fo X) (hXY : Below X.heap.size X Y) (hs : St t Z) (hk : Kp K Y Z) (hK : ∀ k, k < w0.heap.size → K k) (h1 : tg co = true) (h2 : tg fo = true) : AlI St K w0 w t co fo Z := by
  have k1 : Kp K X Z := (Kp.of_below hXY).trans hk
  exact ⟨hs, h.lo.trans (k1.below h.lo.size hK), h.kp.trans k1, k1.blk _ _ h.co (.inr h1), k1.blk _ _ h.fo (.inr h2)⟩
theorem AlI.grow {St : σ → World → Prop} {K : Nat → Prop} {w0 w : World} {s : σ} {co fo : Obj} {X Y : World} (h : AlI St K w0 w s co fo X) (hXY : Below X.heap.size X Y) (hB : ∀ s W W', St s W → Below W.heap.size W W' → St s W') : AlI St K w0 w s co fo Y :=
  ⟨hB _ _ _ h.st hXY, bl_tr h.lo hXY, h.kp.trans (Kp.of_below hXY), (hXY.block _ (Array.getElem?_eq_some_iff.1 h.co).1).trans h.co, (hXY.block _ (Array.getElem?_eq_some_iff.1 h.fo).1).trans h.fo⟩
theorem AlI.start {St : σ → World → Prop} {K : Nat → Prop} {w0 w : World} {s : σ} {co fo : Obj} (hS : St s w) (hW : Below w0.heap.size w0 w) (hB : ∀ s W W', St s W → Below W.heap.size W W' → St s W') : AlI St K w0 w s co fo ((w.alloc co).alloc fo) := by
  have hb : Below w.heap.size w ((w.alloc co).alloc fo) := bl_al (bl_al (Below.refl _ _) _) _
  exact ⟨hB _ _ _ hS hb, bl_tr hW hb, Kp.of_below hb, (heap_alloc_old _ _ (by simp)).trans (heap_alloc_new _ _), by have := heap_alloc_new (w.alloc co) fo; simpa using this⟩
theorem foldl_false {f : σ → Nat × Bool → σ} (s : σ) (l : List Nat) (b : Bool) : (l.map fun t => (t, b)).foldl f s = l.foldl (fun s t => f s (t, b)) s := by rw [List.foldl_map]

set_option maxRecDepth 100000 in
set_option maxHeartbeats 8000000 in
theorem along_any (c : CodeD) (i p k g : Value) (w0 : World) (h : Cd4 w0 i p k g c) (at_ : Nat) (x : InsD) (hx : c.ins[at_]? = some x) (hop : 0 ≤ x.op ∧ x.op < 55) (hj : ∀ j, sgn x.op j = 106 → 0 ≤ opd x j) (hg : ∀ y ∈ c.gs, 0 ≤ y.g)
    (f : σ → Nat × Bool → σ) (St : σ → World → Prop) (K : Nat → Prop) (hK : ∀ k, k < w0.heap.size → K k) (hB : ∀ s W W', St s W → Below W.heap.size W W' → St s W')
    (F : FuncId) (cap : Array Value) (eg : ∀ args W, (callFunc F args).run Try.prog W = .ok (.enter F args) W)
    (hF : ∀ (s : σ) (t : Nat) (b : Bool) (W : World), (t, b) ∈ qC c at_ x → St s W → Calls Try.prog F (#[.int .i64 (t : Int), .bool b] ++ cap) W fun e W' => e = .returned (.tuple #[]) ∧ St (f s (t, b)) W' ∧ Kp K W W')
    (s : σ) (w : World) (hS : St s w) (hW : Below w0.heap.size w0 w) :
    Calls Try.prog 27 #[codeV c.nm c.kd c.ln c.rg i p k g, .int .i64 (at_ : Int), .func (.func F) #[] cap] w fun e W' => e = .returned (.tuple #[]) ∧ St ((qC c at_ x).foldl f s) W' ∧ Kp K w W' := by
  obtain ⟨A1, c1, A2, c2, A3, c3, A4, c4, rfl, rfl, rfl, rfl⟩ := h.forms
  obtain ⟨_, _, _, _, hm4⟩ := h.g.form
  have WA := Lib.hid (fun W (hS : St s W ∧ W.heap[w.heap.size + 1]? = some (fnO F cap)) (hW : Below w0.heap.size w0 W) => ways_any { c with gs := [] } (.slice A1 c.ins.length c1) (.slice A2 c.pl.length c2) (.slice A3 c.ks.length c3) (.slice none 0 0) w0 ⟨h.i, h.p, h.k, .nil_⟩ at_ x hx hop hj (by simp)
    (fun s t => f s (t, false)) (fun s W => St s W ∧ W.heap[w.heap.size + 1]? = some (fnO F cap)) K hK (fun s W W' h hb => ⟨hB _ _ _ h.1 hb, (hb.block _ (Array.getElem?_eq_some_iff.1 h.2).1).trans h.2⟩) 53 #[.pointer (some ⟨w.heap.size + 1, 0, none⟩)] (fun args W => by go_simp)
    (fun s t W ht hS => along1_any St K hB F cap eg s (f s (t, false)) t (w.heap.size + 1) W hS.1 hS.2 (fun W hW => hF s t false W (List.mem_append_left _ (List.mem_map.2 ⟨t, by simpa [wlC, flC, glC] using ht, rfl⟩)) hW)) s W hS hW)
  have HW := Lib.hid hW
  have HF := Lib.hid hF
  have HB := Lib.hid hB
  have HK := Lib.hid hK
  have HG := Lib.hid hg
  have HS := Lib.hid hS
  have HC := Lib.hid h
  have HM := Lib.hid hm4
  clear hW hF hB hK hj hg hS h hop hm4 hx
  obtain ⟨s2, hs2⟩ : ∃ s2, s2 = (wlC c at_ x).foldl (fun s t => f s (t, false)) s := ⟨_, rfl⟩
  have S2 := Lib.hid hs2
  have WB := Lib.hid (fun W hS hW => by have := WA.out W hS hW; rw [show (wlC { c with gs := [] } at_ x ++ glC ({ c with gs := [] } : CodeD).gs at_) = wlC c at_ x by simp [wlC, flC, glC], ← hs2] at this; exact this : ∀ W, (St s W ∧ W.heap[w.heap.size + 1]? = some (fnO F cap)) → Below w0.heap.size w0 W → Calls Try.prog 20 #[codeV c.nm c.kd c.ln c.rg (.slice A1 c.ins.length c1) (.slice A2 c.pl.length c2) (.slice A3 c.ks.length c3) (.slice none 0 0), .int .i64 (at_ : Int), .func (.func 53) #[] #[.pointer (some ⟨w.heap.size + 1, 0, none⟩)]] W
    fun e W' => e = .returned (.tuple #[]) ∧ (St s2 W' ∧ W'.heap[w.heap.size + 1]? = some (fnO F cap)) ∧ Kp K W W')
  clear WA hs2
  go_enter Try.func27, Try.ntmps27
  go_upto_region 1 with fail
  refine wpc_world (AlI St K w0 w s (codeO c.nm c.kd c.ln c.rg (.slice A1 c.ins.length c1) (.slice A2 c.pl.length c2) (.slice A3 c.ks.length c3) (.slice A4 c.gs.length c4)) (fnO F cap)) (AlI.start HS.out HW.out HB.out) ?_
  intro X hX
  have WX := Lib.hid hX
  obtain ⟨⟨a0, a1, a2, a3, a4, a5, a6, a7⟩, -⟩ := cells8 hX.co
  have l0 := (Array.getElem?_eq_some_iff.1 hX.co).1
  have l1 := (Array.getElem?_eq_some_iff.1 hX.fo).1
  have b0 : X.cell? ⟨w.heap.size + 1, 0, none⟩ = some (.func (.func F) #[] cap) := by rw [cell_of_row X _ _ _ _ _ hX.fo]; rfl
  clear hX
  go_upto_region 4 with (go_at_call 20; go_loud (refine (WB.out _ ⟨HB.out _ _ _ WX.out.st (by (repeat (with_reducible first | exact Below.refl _ _ | (refine bl_set ?_ (by first | omega | (simp; done) | (simp; omega)) _) | refine bl_gr ?_ _ | refine bl_al ?_ _ | refine below_setRow ?_ (by first | omega | (simp; done) | (simp; omega)) _ | refine bl_drewN ?_ _ | refine Below.drew ?_ | (refine bl_tr ?_ (by assumption))))), ((show Below X.heap.size X _ by (repeat (with_reducible first | exact Below.refl _ _ | (refine bl_set ?_ (by first | omega | (simp; done) | (simp; omega)) _) | refine bl_gr ?_ _ | refine bl_al ?_ _ | refine below_setRow ?_ (by first | omega | (simp; done) | (simp; omega)) _ | refine bl_drewN ?_ _ | refine Below.drew ?_ | (refine bl_tr ?_ (by assumption))))).block _ l1).trans WX.out.fo⟩ (bl_tr WX.out.lo (by (repeat (with_reducible first | exact Below.refl _ _ | (refine bl_set ?_ (by first | omega | (simp; done) | (simp; omega)) _) | refine bl_gr ?_ _ | refine bl_al ?_ _ | refine below_setRow ?_ (by first | omega | (simp; done) | (simp; omega)) _ | refine bl_drewN ?_ _ | refine Below.drew ?_ | (refine bl_tr ?_ (by assumption))))))).mono ?_; rintro e W3 ⟨rfl, hs, hk⟩; have WY := Lib.hid (WX.out.call (by (repeat (with_reducible first | exact Below.refl _ _ | (refine bl_set ?_ (by first | omega | (simp; done) | (simp; omega)) _) | refine bl_gr ?_ _ | refine bl_al ?_ _ | refine below_setRow ?_ (by first | omega | (simp; done) | (simp; omega)) _ | refine bl_drewN ?_ _ | refine Below.drew ?_ | (refine bl_tr ?_ (by assumption))))) hs.1 hk HK.out (by rfl) (by rfl)); clear hs hk))
  refine wpc_world (AlI St K w0 w s2 (codeO c.nm c.kd c.ln c.rg (.slice A1 c.ins.length c1) (.slice A2 c.pl.length c2) (.slice A3 c.ks.length c3) (.slice A4 c.gs.length c4)) (fnO F cap)) WY.out ?_
  clear a0 a1 a2 a3 a4 a5 a6 a7 b0 l0 l1 WX WY WB
  intro Y hX
  have WX := Lib.hid hX
  obtain ⟨⟨a0, a1, a2, a3, a4, a5, a6, a7⟩, -⟩ := cells8 hX.co
  have l0 := (Array.getElem?_eq_some_iff.1 hX.co).1
  clear hX
  go_wp2
  go_loopw [18] (fun i X => ∃ q : Nat, i = .int .i64 q ∧ Hid (q ≤ c.gs.length) ∧ AlI St K w0 w ((glC (c.gs.take q) at_).foldl (fun s t => f s (t, true)) s2) (codeO c.nm c.kd c.ln c.rg (.slice A1 c.ins.length c1) (.slice A2 c.pl.length c2) (.slice A3 c.ks.length c3) (.slice A4 c.gs.length c4)) (fnO F cap) X) (fun i _ => c.gs.length - (intOf i).toNat)
  case atStart => exact ⟨0, rfl, Lib.hid (Nat.zero_le _), WX.out⟩
  case round =>
    clear a0 a1 a2 a3 a4 a5 a6 a7 l0 WX
    obtain ⟨q, rfl, HQ, hX⟩ := hrel
    have WX := Lib.hid hX
    clear hX
    by_cases hlt : q < c.gs.length
    · have q2 : (q : Int) < (c.gs.length : Int) := by omega
      have q3 : ¬ (q : Int) < 0 := by omega
      obtain ⟨y, hy⟩ : ∃ y, c.gs[q]? = some y := ⟨_, List.getElem?_eq_getElem hlt⟩
      obtain ⟨b', off', cap', e1, lb', z0, z1, z2, z3⟩ := at_Gd (HC.out.g.below WX.out.lo) hy
      simp only [Value.slice.injEq] at e1
      obtain ⟨rfl, _, rfl⟩ := e1
      have HY := Lib.hid hy
      have b0 : wr.cell? ⟨w.heap.size + 1, 0, none⟩ = some (.func (.func F) #[] cap) := by rw [cell_of_row wr _ _ _ _ _ WX.out.fo]; rfl
      have l1 := (Array.getElem?_eq_some_iff.1 WX.out.fo).1
      obtain ⟨kp, hkp, ek1⟩ : ∃ kp : Nat, kp = q + 1 ∧ wrap64 ((q : Int) + 1) = (kp : Int) := ⟨q + 1, rfl, w64c rfl (by have := HM.out; unfold maxLen at this; omega)⟩
      have KP := Lib.hid hkp
      have LQ := Lib.hid hlt
      clear hkp hlt hy
      cases hb : (y.f == (at_ : Int))
      · have NX := Lib.hid (show (glC (c.gs.take (q + 1)) at_).foldl (fun s t => f s (t, true)) s2 = (glC (c.gs.take q) at_).foldl (fun s t => f s (t, true)) s2 by rw [glC_snoc _ _ _ _ HY.out, List.foldl_append]; unfold goC; rw [if_neg (by simpa using hb)]; rfl)
        go_wp2
        go_roundw
        case rel => exact ⟨kp, by first | with_reducible rfl | rw [ek1], Lib.hid (by rw [KP.out]; exact LQ.out), by rw [KP.out, NX.out]; exact WX.out.grow (by (repeat (with_reducible first | exact Below.refl _ _ | (refine bl_set ?_ (by first | omega | (simp; done) | (simp; omega)) _) | refine bl_gr ?_ _ | refine bl_al ?_ _ | refine below_setRow ?_ (by first | omega | (simp; done) | (simp; omega)) _ | refine bl_drewN ?_ _ | refine Below.drew ?_ | (refine bl_tr ?_ (by assumption))))) HB.out⟩
        case measure => ((try rw [ek1]); exact meas_c KP.out LQ.out)
      · have hn := HG.out y (List.mem_of_getElem? HY.out)
        have JE := Lib.hid (show goC at_ y = [y.g.toNat] by unfold goC; rw [if_pos (by simpa using hb)])
        have NX := Lib.hid (show (glC (c.gs.take (q + 1)) at_).foldl (fun s t => f s (t, true)) s2 = f ((glC (c.gs.take q) at_).foldl (fun s t => f s (t, true)) s2) (y.g.toNat, true) by rw [glC_snoc _ _ _ _ HY.out, List.foldl_append, JE.out]; rfl)
        have CF : ∀ W, St ((glC (c.gs.take q) at_).foldl (fun s t => f s (t, true)) s2) W → Calls Try.prog F (#[.int .i64 y.g, .bool true] ++ cap) W fun e W' => e = .returned (.tuple #[]) ∧ St (f ((glC (c.gs.take q) at_).foldl (fun s t => f s (t, true)) s2) (y.g.toNat, true)) W' ∧ Kp K W W' := fun W hS => by
          have := HF.out ((glC (c.gs.take q) at_).foldl (fun s t => f s (t, true)) s2) y.g.toNat true W (List.mem_append_right _ (List.mem_map.2 ⟨_, List.mem_flatMap.2 ⟨y, List.mem_of_getElem? HY.out, by rw [JE.out]; simp⟩, rfl⟩)) hS
          rw [Int.toNat_of_nonneg hn] at this
          exact this
        have CF := Lib.hid CF
        clear hn
        go_wp2_with (go_at_fn F; refine (CF.out _ (WX.out.grow (by (repeat (with_reducible first | exact Below.refl _ _ | (refine bl_set ?_ (by first | omega | (simp; done) | (simp; omega)) _) | refine bl_gr ?_ _ | refine bl_al ?_ _ | refine below_setRow ?_ (by first | omega | (simp; done) | (simp; omega)) _ | refine bl_drewN ?_ _ | refine Below.drew ?_ | (refine bl_tr ?_ (by assumption))))) HB.out).st).mono ?_; rintro e W3 ⟨rfl, hs, hk⟩; have WY := Lib.hid (WX.out.call (by (repeat (with_reducible first | exact Below.refl _ _ | (refine bl_set ?_ (by first | omega | (simp; done) | (simp; omega)) _) | refine bl_gr ?_ _ | refine bl_al ?_ _ | refine below_setRow ?_ (by first | omega | (simp; done) | (simp; omega)) _ | refine bl_drewN ?_ _ | refine Below.drew ?_ | (refine bl_tr ?_ (by assumption))))) hs hk HK.out (by rfl) (by rfl)); clear hs hk)
        go_roundw
        case rel => exact ⟨kp, by first | with_reducible rfl | rw [ek1], Lib.hid (by rw [KP.out]; exact LQ.out), by rw [KP.out, NX.out]; exact WY.out⟩
        case measure => ((try rw [ek1]); exact meas_c KP.out LQ.out)
    · have q2 : ¬ (q : Int) < (c.gs.length : Int) := by omega
      have RS := Lib.hid (show (qC c at_ x).foldl f s = (glC (c.gs.take q) at_).foldl (fun s t => f s (t, true)) s2 by rw [List.take_of_length_le (by omega), S2.out]; unfold qC; rw [List.foldl_append, foldl_false, foldl_false])
      clear hlt
      go_wp2
      go_end0
      exact ⟨rfl, by rw [RS.out]; exact WX.out.st, WX.out.kp⟩
end
end Go.Proofs.Ytcmpgohpncnagaa
