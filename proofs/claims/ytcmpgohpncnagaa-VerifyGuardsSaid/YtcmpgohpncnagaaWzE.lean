/- The reference's Deep (printed by gen51E.py). -/
import Derived.Test.YtcmpgohpncnagaaWzD
namespace Go.Proofs.Ytcmpgohpncnagaa
set_option linter.all false
open Go.ChangeShapes Go.WideShapes Go.ChangeAt Go.RowKit Go.Sort Go.Deep Go.Shelf

def RdEnd (c : CodeD) (o : List Int) (m bad : Bool) : Prop := m = false → bad = false → DepOk (E3 c) (nxC c) ∧ o = depL (E3 c) (nxC c) c.ins.length
theorem RdP.done {c : CodeD} (hr : rightC c = true) {p : List Int} {s : List Int × Bool × Bool} (h : RdP c p s (fun o => DlW c p c.ins.length o ∧ DlG c p c.gs.length o)) : RdEnd c s.1 s.2.1 s.2.2 := by
  intro e1 e2
  obtain ⟨h1, h2⟩ := h.cl e2
  have hp := h.up.same e1
  have hb := h.bas
  rw [e2] at hb
  rw [← hp] at h1 h2
  refine hb.done h.z fun a v hv h0 => ?_
  have hlt := (List.getElem?_eq_some_iff.1 hv).1
  rw [hb.len] at hlt
  refine ⟨(h1 a hlt v hv h0).1, fun b g hab => ?_⟩
  rcases E3_cases hr hab with ⟨x, hx, hm, _, rfl⟩ | ⟨y, hy, hf, rfl, rfl⟩
  · exact (h1 a hlt v hv h0).2 x hx b hm
  · exact h2 y (by rw [List.take_length]; exact hy) v (by rw [hf]; exact hv) h0
def mD (o : List Int) (m : Bool) : Nat := 2 * cn o + (if m then 1 else 0)
theorem mD_lt {p o : List Int} {b : Bool} (h : PUp p o b) : mD o b < mD p true := by
  unfold mD
  cases b
  · have := h.same rfl
    subst this
    simp
  · have := h.more rfl
    simp
    omega
structure RdZ (w : World) (co : Obj) (n B bo : Nat) (s : List Int × Bool × Bool) (Z : World) : Prop where
  r : RdI n B bo s Z
  co : Z.heap[w.heap.size]? = some co
  lo : Below w.heap.size w Z
  lt : w.heap.size < B ∧ w.heap.size < bo
theorem RdZ.to {w : World} {co : Obj} {n B bo : Nat} {s s' : List Int × Bool × Bool} {Z Y : World} (h : RdZ w co n B bo s Z) (hr : RdI n B bo s' Y) (ht : Touch (FD B bo) Z Y) : RdZ w co n B bo s' Y := by
  obtain ⟨h4, h5⟩ := h.lt
  exact ⟨hr, (ht.block _ (Array.getElem?_eq_some_iff.1 h.co).1 (fun e => by rcases e with e | e <;> omega)).trans h.co, h.lo.trans (ht.below h.lo.size (fun k e => by rcases e with e | e <;> omega)), h.lt⟩
set_option maxRecDepth 100000 in
set_option maxHeartbeats 16000000 in
theorem rdeep_any (c : CodeD) (i p k g : Value) (hc : c.ok) (w : World) (h : Cd4 w i p k g c) :
    Calls Try.prog 13 #[codeV c.nm c.kd c.ln c.rg i p k g] w (RetD w c) := by
  obtain ⟨A1, c1, A2, c2, A3, c3, A4, c4, rfl, rfl, rfl, rfl⟩ := h.forms
  have H := Lib.hid h
  have RT := Lib.hid (fun W hW => rrightC_any c (.slice A1 c.ins.length c1) (.slice A2 c.pl.length c2) (.slice A3 c.ks.length c3) (.slice A4 c.gs.length c4) hc W (h.below hW) : ∀ W, Below w.heap.size w W → _)
  cases hr : rightC c
  · have RS := Lib.hid (show depE c = 1 by unfold depE; rw [if_pos hr])
    have RV := Lib.hid (show depV c = [] by unfold depV; rw [RS.out]; rfl)
    rw [hr] at RT
    clear hr h hc
    go_enter Try.func13, Try.ntmps13
    go_wp2_with (go_at_call 22; refine (callGr (RT.out _ (by (repeat (with_reducible first | exact Below.refl _ _ | (refine bl_set ?_ (by first | omega | (simp; done) | (simp; omega)) _) | refine bl_gr ?_ _ | refine bl_al ?_ _ | refine below_setRow ?_ (by first | omega | (simp; done) | (simp; omega)) _ | refine bl_drewN ?_ _ | refine Below.drew ?_ | (refine bl_tr ?_ (by assumption))))))).mono ?_; rintro e w' ⟨pp, rfl, rfl⟩)
    go_ret2
    exact ⟨.slice none 0 0, by rw [RS.out]; rfl, by rw [RV.out]; exact .nil_, by (repeat (with_reducible first | exact Below.refl _ _ | (refine bl_set ?_ (by first | omega | (simp; done) | (simp; omega)) _) | refine bl_gr ?_ _ | refine bl_al ?_ _ | refine below_setRow ?_ (by first | omega | (simp; done) | (simp; omega)) _ | refine bl_drewN ?_ _ | refine Below.drew ?_ | (refine bl_tr ?_ (by assumption))))⟩
  · have OP := Lib.hid (fun W hW => roff_any c hr (.slice A1 c.ins.length c1) (.slice A2 c.pl.length c2) (.slice A3 c.ks.length c3) (.slice A4 c.gs.length c4) hc W (h.below hW) : ∀ W, Below w.heap.size w W → _)
    rw [hr] at RT
    by_cases ho : 0 ≤ openC c
    · have RS := Lib.hid (show depE c = 42 by unfold depE; rw [hr]; simp [ho])
      have RV := Lib.hid (show depV c = [] by unfold depV; rw [RS.out]; rfl)
      generalize openC c = oc at *
      clear hr h hc
      go_enter Try.func13, Try.ntmps13
      go_wp2_with (first | (go_at_call 22; refine (callGr (RT.out _ (by (repeat (with_reducible first | exact Below.refl _ _ | (refine bl_set ?_ (by first | omega | (simp; done) | (simp; omega)) _) | refine bl_gr ?_ _ | refine bl_al ?_ _ | refine below_setRow ?_ (by first | omega | (simp; done) | (simp; omega)) _ | refine bl_drewN ?_ _ | refine Below.drew ?_ | (refine bl_tr ?_ (by assumption))))))).mono ?_; rintro e w' ⟨pp, rfl, rfl⟩) | (go_at_call 29; refine (callGr (OP.out _ (by (repeat (with_reducible first | exact Below.refl _ _ | (refine bl_set ?_ (by first | omega | (simp; done) | (simp; omega)) _) | refine bl_gr ?_ _ | refine bl_al ?_ _ | refine below_setRow ?_ (by first | omega | (simp; done) | (simp; omega)) _ | refine bl_drewN ?_ _ | refine Below.drew ?_ | (refine bl_tr ?_ (by assumption))))))).mono ?_; rintro e w' ⟨pp, rfl, rfl⟩))
      go_ret2
      exact ⟨.slice none 0 0, by rw [RS.out]; rfl, by rw [RV.out]; exact .nil_, by (repeat (with_reducible first | exact Below.refl _ _ | (refine bl_set ?_ (by first | omega | (simp; done) | (simp; omega)) _) | refine bl_gr ?_ _ | refine bl_al ?_ _ | refine below_setRow ?_ (by first | omega | (simp; done) | (simp; omega)) _ | refine bl_drewN ?_ _ | refine Below.drew ?_ | (refine bl_tr ?_ (by assumption))))⟩
    · have RD := Lib.hid (And.intro hr ho)
      have hn := rightC_len hr
      have MB := fun W => make_ints c.ins.length (by omega) W
      have HN := Lib.hid hn
      have R6 := Lib.hid (fun h => by unfold depE; rw [RD.out.1]; simp [RD.out.2, h] : ¬ DepOk (E3 c) (nxC c) → depE c = 6)
      have R6v := Lib.hid (fun h => by unfold depV; rw [R6.out h]; rfl : ¬ DepOk (E3 c) (nxC c) → depV c = [])
      have R0 := Lib.hid (fun h => by unfold depE; rw [RD.out.1]; simp [RD.out.2, h] : DepOk (E3 c) (nxC c) → depE c = 0)
      have R0v := Lib.hid (fun h => by unfold depV; rw [R0.out h]; rfl : DepOk (E3 c) (nxC c) → depV c = depL (E3 c) (nxC c) c.ins.length)
      have PS := Lib.hid (fun (B bo : Nat) (p : List Int) (W : World) (hB : w.heap.size ≤ B) (hbo : w.heap.size ≤ bo) (hw : Below w.heap.size w W) (hR : RdI c.ins.length B bo (p, true, false) W) (hP : PBas (E3 c) (nxC c) c.ins.length p false) (hz : p[0]? = some 0) => rpass_any c hr (by omega) (.slice A1 c.ins.length c1) (.slice A2 c.pl.length c2) (.slice A3 c.ks.length c3) (.slice A4 c.gs.length c4) w h B bo p true W hB hbo hw hR hP hz)
      generalize openC c = oc at OP ho
      clear hr h hc hn
      go_enter Try.func13, Try.ntmps13
      go_upto_region 5 with (first | (go_at_call 22; refine (callGr (RT.out _ (by (repeat (with_reducible first | exact Below.refl _ _ | (refine bl_set ?_ (by first | omega | (simp; done) | (simp; omega)) _) | refine bl_gr ?_ _ | refine bl_al ?_ _ | refine below_setRow ?_ (by first | omega | (simp; done) | (simp; omega)) _ | refine bl_drewN ?_ _ | refine Below.drew ?_ | (refine bl_tr ?_ (by assumption))))))).mono ?_; rintro e w' ⟨pp, rfl, rfl⟩) | (go_at_call 29; refine (callGr (OP.out _ (by (repeat (with_reducible first | exact Below.refl _ _ | (refine bl_set ?_ (by first | omega | (simp; done) | (simp; omega)) _) | refine bl_gr ?_ _ | refine bl_al ?_ _ | refine below_setRow ?_ (by first | omega | (simp; done) | (simp; omega)) _ | refine bl_drewN ?_ _ | refine Below.drew ?_ | (refine bl_tr ?_ (by assumption))))))).mono ?_; rintro e w' ⟨pp, rfl, rfl⟩))
      refine wpc_world (fun X => X.heap[w.heap.size]? = some (codeO c.nm c.kd c.ln c.rg (.slice A1 c.ins.length c1) (.slice A2 c.pl.length c2) (.slice A3 c.ks.length c3) (.slice A4 c.gs.length c4)) ∧ Below w.heap.size w X) ⟨((show Below (w.alloc (codeO c.nm c.kd c.ln c.rg (.slice A1 c.ins.length c1) (.slice A2 c.pl.length c2) (.slice A3 c.ks.length c3) (.slice A4 c.gs.length c4))).heap.size (w.alloc (codeO c.nm c.kd c.ln c.rg (.slice A1 c.ins.length c1) (.slice A2 c.pl.length c2) (.slice A3 c.ks.length c3) (.slice A4 c.gs.length c4))) _ by (repeat (with_reducible first | exact Below.refl _ _ | (refine bl_set ?_ (by first | omega | (simp; done) | (simp; omega)) _) | refine bl_gr ?_ _ | refine bl_al ?_ _ | refine below_setRow ?_ (by first | omega | (simp; done) | (simp; omega)) _ | refine bl_drewN ?_ _ | refine Below.drew ?_ | (refine bl_tr ?_ (by assumption))))).block _ (by simp)).trans (heap_alloc_new _ _), by (repeat (with_reducible first | exact Below.refl _ _ | (refine bl_set ?_ (by first | omega | (simp; done) | (simp; omega)) _) | refine bl_gr ?_ _ | refine bl_al ?_ _ | refine below_setRow ?_ (by first | omega | (simp; done) | (simp; omega)) _ | refine bl_drewN ?_ _ | refine Below.drew ?_ | (refine bl_tr ?_ (by assumption))))⟩ ?_
      rintro X ⟨j0, jb⟩
      have JJ := Lib.hid (And.intro j0 jb)
      obtain ⟨⟨a0, a1, a2, a3, a4, a5, a6, a7⟩, -⟩ := cells8 j0
      have l0 := (Array.getElem?_eq_some_iff.1 j0).1
      clear j0 jb
      go_upto_region 6 with fail
      refine wpc_world (RdZ w (codeO c.nm c.kd c.ln c.rg (.slice A1 c.ins.length c1) (.slice A2 c.pl.length c2) (.slice A3 c.ks.length c3) (.slice A4 c.gs.length c4)) c.ins.length (X.heap.size + 1) X.heap.size (fillL c.ins.length 0, false, false)) ⟨⟨?_, ?_, fillL_len (Nat.zero_le _)⟩, ?_, bl_tr JJ.out.2 (by (repeat (with_reducible first | exact Below.refl _ _ | (refine bl_set ?_ (by first | omega | (simp; done) | (simp; omega)) _) | refine bl_gr ?_ _ | refine bl_al ?_ _ | refine below_setRow ?_ (by first | omega | (simp; done) | (simp; omega)) _ | refine bl_drewN ?_ _ | refine Below.drew ?_ | (refine bl_tr ?_ (by assumption))))), by omega, l0⟩ ?_
      · have := heap_alloc_new (X.alloc (.cells ((List.replicate c.ins.length (0 : Int)).map vI).toArray 3)) (.cells #[.slice (some ⟨X.heap.size, 0, none⟩) c.ins.length c.ins.length, .bool false, .bool false] 63)
        simpa using this
      · dsimp only
        rw [heap_alloc_old _ _ (by simp), fillL_0, List.map_replicate, List.toArray_replicate]
        exact heap_alloc_new _ _
      · rw [heap_alloc_old _ _ (by simp; omega), heap_alloc_old _ _ l0]
        exact JJ.out.1
      intro Y hY
      have YY := Lib.hid hY
      have LX := Lib.hid l0
      clear hY a0 a1 a2 a3 a4 a5 a6 a7 JJ MB l0 ho RT OP
      generalize X.heap.size = bo at *
      generalize bo + 1 = B at *
      clear X
      go_wp2
      go_loopw [5] (fun i Z => ∃ q : Nat, i = .int .i64 q ∧ RdZ w (codeO c.nm c.kd c.ln c.rg (.slice A1 c.ins.length c1) (.slice A2 c.pl.length c2) (.slice A3 c.ks.length c3) (.slice A4 c.gs.length c4)) c.ins.length B bo (fillL c.ins.length q, false, false) Z ∧ Hid (q ≤ c.ins.length)) (fun i _ => c.ins.length - (intOf i).toNat)
      case atStart => exact ⟨0, rfl, YY.out, Lib.hid (Nat.zero_le _)⟩
      case round =>
        clear YY Y
        obtain ⟨q, rfl, hZ, HQ⟩ := hrel
        have ZZ := Lib.hid hZ
        obtain ⟨d0, d1, d2, fB, lB, lo, fo, dd⟩ := hZ.r.cells
        by_cases hlt : q < c.ins.length
        · have q2 : (q : Int) < (c.ins.length : Int) := by omega
          have q3 : ¬ (q : Int) < 0 := by omega
          obtain ⟨u, hu⟩ : ∃ u, (fillL c.ins.length q)[q]? = some u := ⟨_, List.getElem?_eq_getElem (by rw [fillL_len HQ.out]; exact hlt)⟩
          have db := dd q u hu
          have fb := fo q
          have NX := Lib.hid (show RdZ w (codeO c.nm c.kd c.ln c.rg (.slice A1 c.ins.length c1) (.slice A2 c.pl.length c2) (.slice A3 c.ks.length c3) (.slice A4 c.gs.length c4)) c.ins.length B bo (fillL c.ins.length (q + 1), false, false) (wr.setCell ⟨bo, q, none⟩ (.int .i64 (-1))) by
            have := hZ.r.lab q (-1)
            rw [fillL_next hlt] at this
            exact hZ.to this.1 this.2)
          obtain ⟨kp, hkp, ek1⟩ : ∃ kp : Nat, kp = q + 1 ∧ wrap64 ((q : Int) + 1) = (kp : Int) := ⟨q + 1, rfl, w64c rfl (by have := HN.out.1; omega)⟩
          have KP := Lib.hid hkp
          have LQ := Lib.hid hlt
          clear hkp hlt hu hZ fB fo dd
          go_wp2
          go_roundw
          case rel => exact ⟨kp, by first | with_reducible rfl | (rw [ek1]; done) | (rw [KP.out]; go_num), by rw [KP.out]; exact NX.out, Lib.hid (by rw [KP.out]; exact LQ.out)⟩
          case measure => (first | ((try rw [ek1]); exact meas_c KP.out LQ.out) | (clear ek1; have := LQ.out; simp only [intOf]; omega))
        · have hq := HQ.out
          obtain rfl : q = c.ins.length := by omega
          have q2 : ¬ (c.ins.length : Int) < (c.ins.length : Int) := by omega
          clear fB fo dd hq hlt
          have FIN : ∀ (o : List Int) (m bad : Bool) (Z : World), RdZ w (codeO c.nm c.kd c.ln c.rg (.slice A1 c.ins.length c1) (.slice A2 c.pl.length c2) (.slice A3 c.ks.length c3) (.slice A4 c.gs.length c4)) c.ins.length B bo (o, m, bad) Z → IsZ Z (.slice (some ⟨bo, 0, none⟩) c.ins.length c.ins.length) o := fun o m bad Z h => intsB h.r.ob h.r.len HN.out.1
          have FI := Lib.hid FIN
          clear FIN
          by_cases h0 : c.ins.length = 0
          · have q4 : ¬ (0 : Int) < (c.ins.length : Int) := by omega
            have q5 : decide (0 < c.ins.length) = false := decide_eq_false (by omega)
            have hnil : c.ins = [] := List.eq_nil_of_length_eq_zero h0
            have RE := Lib.hid (show depV c = fillL c.ins.length c.ins.length by rw [R0v.out (depOk_nil hnil), h0]; rfl)
            have RZ := Lib.hid (R0.out (depOk_nil hnil))
            clear h0 hnil hZ
            go_wp2
            go_loopg [41] 0 (fun g _ Z => RdZ w (codeO c.nm c.kd c.ln c.rg (.slice A1 c.ins.length c1) (.slice A2 c.pl.length c2) (.slice A3 c.ks.length c3) (.slice A4 c.gs.length c4)) c.ins.length B bo (fillL c.ins.length c.ins.length, false, false) Z)
            case atStart => exact ZZ.out
            case round =>
              clear ZZ d0 d1 d2 lB lo
              have ZZ := Lib.hid hrel
              obtain ⟨d0, d1, d2, _, lB, lo, _, _⟩ := hrel.r.cells
              clear hrel
              go_wp2
              go_ret2
              exact ⟨.slice (some ⟨bo, 0, none⟩) c.ins.length c.ins.length, by rw [RZ.out]; rfl, by rw [RE.out]; exact FI.out _ _ _ _ ZZ.out, ZZ.out.lo⟩
          · have hp : 0 < c.ins.length := Nat.pos_of_ne_zero h0
            have q4 : (0 : Int) < (c.ins.length : Int) := by omega
            have q5 : decide (0 < c.ins.length) = true := decide_eq_true (by omega)
            have EF := Lib.hid (show dsM (fillL c.ins.length c.ins.length) false false 0 0 = ((List.replicate c.ins.length (-1 : Int)).set 0 0, true, false) by
              unfold dsM
              rw [fillL_end, List.getD_eq_getElem?_getD, List.getElem?_replicate, if_pos hp]
              simp)
            have ST := Lib.hid (fun W hR => by have := rset_any c.ins.length B bo (fillL c.ins.length c.ins.length) false false 0 0 hp W hR; rw [EF.out] at this; exact this : ∀ W, RdI c.ins.length B bo (fillL c.ins.length c.ins.length, false, false) W → Calls Try.prog 30 #[.pointer (some ⟨B, 0, none⟩), .int .i64 0, .int .i64 0] W (RetS c.ins.length B bo ((List.replicate c.ins.length (-1 : Int)).set 0 0, true, false) W))
            have P0 := Lib.hid (PBas.start (E := E3 c) (nx := nxC c) hp)
            clear h0 hp hZ
            go_wp2_with (go_at_call 30; go_loud (refine (ST.out _ ZZ.out.r).mono ?_; rintro e w5 ⟨rfl, r5, t5⟩; have G5 := Lib.hid (ZZ.out.to r5 t5); clear r5 t5))
            go_loopg [41] (2 * cn ((List.replicate c.ins.length (-1 : Int)).set 0 0) + 1) (fun g _ Z => ∃ (o : List Int) (m bad : Bool), RdZ w (codeO c.nm c.kd c.ln c.rg (.slice A1 c.ins.length c1) (.slice A2 c.pl.length c2) (.slice A3 c.ks.length c3) (.slice A4 c.gs.length c4)) c.ins.length B bo (o, m, bad) Z ∧ Hid (PBas (E3 c) (nxC c) c.ins.length o bad ∧ o[0]? = some 0 ∧ RdEnd c o m bad ∧ mD o m ≤ g))
            case atStart => exact ⟨_, true, false, G5.out, Lib.hid ⟨P0.out.1, P0.out.2, (fun h => by cases h), by unfold mD; simp⟩⟩
            case round =>
              clear ZZ d0 d1 d2 lB lo G5 P0 ST EF
              obtain ⟨o, m, bad, hZ, HI⟩ := hrel
              have ZZ := Lib.hid hZ
              obtain ⟨d0, d1, d2, _, lB, lo, _, _⟩ := hZ.r.cells
              clear hZ
              cases bad
              · cases m
                · have DN := Lib.hid (HI.out.2.2.1 rfl rfl)
                  go_wp2
                  go_ret2
                  exact ⟨.slice (some ⟨bo, 0, none⟩) c.ins.length c.ins.length, by rw [R0.out DN.out.1]; rfl, by rw [R0v.out DN.out.1, ← DN.out.2]; exact FI.out _ _ _ _ ZZ.out, ZZ.out.lo⟩
                · have CP := Lib.hid (PS.out B bo o wr (Nat.le_of_lt ZZ.out.lt.1) (Nat.le_of_lt ZZ.out.lt.2) ZZ.out.lo ZZ.out.r HI.out.1 HI.out.2.1)
                  obtain ⟨⟨a0, a1, a2, a3, a4, a5, a6, a7⟩, -⟩ := cells8 ZZ.out.co
                  have l0 := (Array.getElem?_eq_some_iff.1 ZZ.out.co).1
                  go_wp2_with (go_at_call 31; go_loud (refine CP.out.mono ?_; rintro e w5 ⟨rfl, ⟨o5, m5, b5⟩, r5, t5, p5⟩; have G5 := Lib.hid (And.intro (ZZ.out.to r5 t5) p5); clear r5 t5 p5))
                  go_roundg (mD o5 m5)
                  case measure => exact Nat.lt_of_lt_of_le (mD_lt G5.out.2.up) HI.out.2.2.2
                  case rel => exact ⟨o5, m5, b5, G5.out.1, Lib.hid ⟨G5.out.2.bas, G5.out.2.z, G5.out.2.done RD.out.1, Nat.le_refl _⟩⟩
              · have ND := Lib.hid HI.out.1.not
                cases m
                all_goals
                  go_wp2
                  go_ret2
                  exact ⟨.slice none 0 0, by rw [R6.out ND.out]; rfl, by rw [R6v.out ND.out]; exact .nil_, ZZ.out.lo⟩
end Go.Proofs.Ytcmpgohpncnagaa
