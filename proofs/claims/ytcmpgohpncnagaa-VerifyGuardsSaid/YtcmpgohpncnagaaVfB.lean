/- The law's bounds: small, few. -/
import Derived.Test.YtcmpgohpncnagaaChF
namespace Go.Proofs.Ytcmpgohpncnagaa
set_option linter.all false
open Go.ChangeShapes Go.WideShapes Go.ChangeAt Go.RowKit Go.Sort Go.Deep Go.Shelf

/-- a box that a function keeps -/
def OneB (w X : World) (o : Obj) : Prop := X.heap[w.heap.size]? = some o ∧ Below w.heap.size w X
theorem OneB.step {w X Y : World} {o : Obj} (h : OneB w X o) (hb : Below X.heap.size X Y) : OneB w Y o :=
  ⟨(hb.block _ (Array.getElem?_eq_some_iff.1 h.1).1).trans h.1, bl_tr h.2 hb⟩
theorem OneB.start (w : World) (o : Obj) : OneB w (w.alloc o) o := ⟨heap_alloc_new _ _, by (repeat (with_reducible first | exact Below.refl _ _ | (refine bl_set ?_ (by first | omega | (simp; done) | (simp; omega)) _) | refine bl_gr ?_ _ | refine bl_al ?_ _ | refine below_setRow ?_ (by first | omega | (simp; done) | (simp; omega)) _ | refine bl_drewN ?_ _ | refine Below.drew ?_ | (refine bl_tr ?_ (by assumption))))⟩
theorem OneB.lt {w X : World} {o : Obj} (h : OneB w X o) : w.heap.size < X.heap.size := (Array.getElem?_eq_some_iff.1 h.1).1
/-- the answer of small -/
def SmallC (c : CodeD) (v : Value) : Prop := ∃ r : Bool, v = .bool r ∧ (r = true → c.ins.length ≤ 120 ∧ c.gs.length ≤ 60)
theorem smallC_no (c : CodeD) : SmallC c (.bool false) := ⟨false, rfl, fun h => Bool.noConfusion h⟩
theorem smallC_yes (c : CodeD) (h : c.ins.length ≤ 120 ∧ c.gs.length ≤ 60) : SmallC c (.bool true) := ⟨true, rfl, fun _ => h⟩
set_option maxRecDepth 100000 in
set_option maxHeartbeats 4000000 in
theorem smallc_any (c : CodeD) (i p k g : Value) (hc : c.ok) (w : World) (h : Cd4 w i p k g c) :
    Calls Try.prog 8 #[codeV c.nm c.kd c.ln c.rg i p k g] w fun e w' => ∃ v, e = .returned v ∧ SmallC c v ∧ Below w.heap.size w w' := by
  obtain ⟨A1, c1, A2, c2, A3, c3, A4, c4, rfl, rfl, rfl, rfl⟩ := h.forms
  have H := Lib.hid h
  have HC := Lib.hid hc
  have m1 := h.i.1
  have m2 := h.p.1
  have m3 := h.k.1
  have m4 := h.g.1
  unfold maxLen at m1 m2 m3 m4
  clear h hc
  by_cases s1 : 120 < c.ins.length
  · have q1 : (120 : Int) < c.ins.length := by omega
    go_enter Try.func8, Try.ntmps8
    go_wp2
    go_ret
    exact ⟨.bool false, rfl, smallC_no c, by (repeat (with_reducible first | exact Below.refl _ _ | (refine bl_set ?_ (by first | omega | (simp; done) | (simp; omega)) _) | refine bl_gr ?_ _ | refine bl_al ?_ _ | refine below_setRow ?_ (by first | omega | (simp; done) | (simp; omega)) _ | refine bl_drewN ?_ _ | refine Below.drew ?_ | (refine bl_tr ?_ (by assumption))))⟩
  have q1 : ¬ (120 : Int) < c.ins.length := by omega
  by_cases s2 : 100 < c.pl.length
  · have q2 : (100 : Int) < c.pl.length := by omega
    go_enter Try.func8, Try.ntmps8
    go_wp2
    go_ret
    exact ⟨.bool false, rfl, smallC_no c, by (repeat (with_reducible first | exact Below.refl _ _ | (refine bl_set ?_ (by first | omega | (simp; done) | (simp; omega)) _) | refine bl_gr ?_ _ | refine bl_al ?_ _ | refine below_setRow ?_ (by first | omega | (simp; done) | (simp; omega)) _ | refine bl_drewN ?_ _ | refine Below.drew ?_ | (refine bl_tr ?_ (by assumption))))⟩
  have q2 : ¬ (100 : Int) < c.pl.length := by omega
  by_cases s3 : 100 < c.ks.length
  · have q3 : (100 : Int) < c.ks.length := by omega
    go_enter Try.func8, Try.ntmps8
    go_wp2
    go_ret
    exact ⟨.bool false, rfl, smallC_no c, by (repeat (with_reducible first | exact Below.refl _ _ | (refine bl_set ?_ (by first | omega | (simp; done) | (simp; omega)) _) | refine bl_gr ?_ _ | refine bl_al ?_ _ | refine below_setRow ?_ (by first | omega | (simp; done) | (simp; omega)) _ | refine bl_drewN ?_ _ | refine Below.drew ?_ | (refine bl_tr ?_ (by assumption))))⟩
  have q3 : ¬ (100 : Int) < c.ks.length := by omega
  by_cases s4 : 60 < c.gs.length
  · have q4 : (60 : Int) < c.gs.length := by omega
    go_enter Try.func8, Try.ntmps8
    go_wp2
    go_ret
    exact ⟨.bool false, rfl, smallC_no c, by (repeat (with_reducible first | exact Below.refl _ _ | (refine bl_set ?_ (by first | omega | (simp; done) | (simp; omega)) _) | refine bl_gr ?_ _ | refine bl_al ?_ _ | refine below_setRow ?_ (by first | omega | (simp; done) | (simp; omega)) _ | refine bl_drewN ?_ _ | refine Below.drew ?_ | (refine bl_tr ?_ (by assumption))))⟩
  have q4 : ¬ (60 : Int) < c.gs.length := by omega
  have S := Lib.hid (And.intro (show c.ins.length ≤ 120 by omega) (show c.gs.length ≤ 60 by omega))
  have PK := Lib.hid (And.intro (show c.pl.length ≤ 100 by omega) (show c.ks.length ≤ 100 by omega))
  have T0 := Lib.hid (show _ ∧ Below w.heap.size w (w.alloc (codeO c.nm c.kd c.ln c.rg (.slice A1 c.ins.length c1) (.slice A2 c.pl.length c2) (.slice A3 c.ks.length c3) (.slice A4 c.gs.length c4))) from ⟨heap_alloc_new w (codeO c.nm c.kd c.ln c.rg (.slice A1 c.ins.length c1) (.slice A2 c.pl.length c2) (.slice A3 c.ks.length c3) (.slice A4 c.gs.length c4)), by (repeat (with_reducible first | exact Below.refl _ _ | (refine bl_set ?_ (by first | omega | (simp; done) | (simp; omega)) _) | refine bl_gr ?_ _ | refine bl_al ?_ _ | refine below_setRow ?_ (by first | omega | (simp; done) | (simp; omega)) _ | refine bl_drewN ?_ _ | refine Below.drew ?_ | (refine bl_tr ?_ (by assumption))))⟩)
  clear m1 m2 m3 m4 s1 s2 s3 s4
  go_enter Try.func8, Try.ntmps8
  go_wp2
  clear q1 q2 q3 q4
  go_loopw [3, 4] (fun s i wr => ∃ (q : Nat) (x : Int), i = .int .i64 q ∧ s = .int .i64 x ∧ Hid (q ≤ c.pl.length) ∧
    wr.heap[w.heap.size]? = some (codeO c.nm c.kd c.ln c.rg (.slice A1 c.ins.length c1) (.slice A2 c.pl.length c2) (.slice A3 c.ks.length c3) (.slice A4 c.gs.length c4)) ∧ Below w.heap.size w wr) (fun _ i _ => c.pl.length - (intOf i).toNat)
  case atStart => exact ⟨0, _, rfl, rfl, Lib.hid (Nat.zero_le _), T0.out⟩
  case round =>
    clear T0
    obtain ⟨q, x, rfl, rfl, HQ, hx, hB⟩ := hrel
    obtain ⟨⟨b0, b1, b2, b3, b4, b5, b6, b7⟩, _⟩ := cells8 hx
    have INV := Lib.hid (And.intro hx hB)
    have l0 := (Array.getElem?_eq_some_iff.1 hx).1
    by_cases hlt : q < c.pl.length
    · have q0 : ¬ (q : Int) < 0 := by omega
      have q1 : (q : Int) < c.pl.length := by omega
      obtain ⟨y, hy⟩ : ∃ y, c.pl[q]? = some y := ⟨_, List.getElem?_eq_getElem hlt⟩
      obtain ⟨b, off, cap', e1, lb, h0, h1, h2⟩ := at_Vl (H.out.p.below hB) hy
      simp only [Value.slice.injEq] at e1
      obtain ⟨rfl, _, rfl⟩ := e1
      obtain ⟨kp, hkp, ek1⟩ : ∃ kp : Nat, kp = q + 1 ∧ wrap64 ((q : Int) + 1) = (kp : Int) := ⟨q + 1, rfl, w64c rfl (by have := PK.out; omega)⟩
      have KP := Lib.hid hkp
      have LQ := Lib.hid hlt
      clear hkp hlt hy hx hB
      go_wp2
      · go_ret
        exact ⟨.bool false, rfl, smallC_no c, INV.out.2⟩
      · go_roundw
        case rel => exact ⟨kp, _, by first | with_reducible rfl | (rw [ek1]; done), rfl, Lib.hid (by rw [KP.out]; exact LQ.out), INV.out.1, INV.out.2⟩
        case measure => (first | ((try rw [ek1]); exact meas_c KP.out LQ.out) | (clear ek1; have := LQ.out; simp only [intOf]; omega))
    · have q1 : ¬ (q : Int) < c.pl.length := by omega
      clear hx hB hlt
      go_wp2
      clear b0 b1 b2 b3 b4 b5 b6 b7 q1
      go_loopw [3, 5] (fun s i X => ∃ (q : Nat) (x : Int), i = .int .i64 q ∧ s = .int .i64 x ∧ Hid (q ≤ c.ks.length) ∧
        X.heap[w.heap.size]? = some (codeO c.nm c.kd c.ln c.rg (.slice A1 c.ins.length c1) (.slice A2 c.pl.length c2) (.slice A3 c.ks.length c3) (.slice A4 c.gs.length c4)) ∧ Below w.heap.size w X) (fun _ i _ => c.ks.length - (intOf i).toNat)
      case atStart => exact ⟨0, x, rfl, rfl, Lib.hid (Nat.zero_le _), INV.out.1, INV.out.2⟩
      case round =>
        clear INV HQ l0
        obtain ⟨q, x, rfl, rfl, HQ, hx, hB⟩ := hrel
        obtain ⟨⟨b0, b1, b2, b3, b4, b5, b6, b7⟩, _⟩ := cells8 hx
        have INV := Lib.hid (And.intro hx hB)
        have l0 := (Array.getElem?_eq_some_iff.1 hx).1
        by_cases hlt : q < c.ks.length
        · have q0 : ¬ (q : Int) < 0 := by omega
          have q1 : (q : Int) < c.ks.length := by omega
          obtain ⟨y, hy⟩ : ∃ y, c.ks[q]? = some y := ⟨_, List.getElem?_eq_getElem hlt⟩
          obtain ⟨b, off, cap', e1, lb, h0, h1, h2⟩ := at_Vl (H.out.k.below hB) hy
          simp only [Value.slice.injEq] at e1
          obtain ⟨rfl, _, rfl⟩ := e1
          obtain ⟨kp, hkp, ek1⟩ : ∃ kp : Nat, kp = q + 1 ∧ wrap64 ((q : Int) + 1) = (kp : Int) := ⟨q + 1, rfl, w64c rfl (by have := PK.out; omega)⟩
          have KP := Lib.hid hkp
          have LQ := Lib.hid hlt
          clear hkp hlt hy hx hB
          go_wp2
          · go_ret
            exact ⟨.bool false, rfl, smallC_no c, INV.out.2⟩
          · go_roundw
            case rel => exact ⟨kp, _, by first | with_reducible rfl | (rw [ek1]; done), rfl, Lib.hid (by rw [KP.out]; exact LQ.out), INV.out.1, INV.out.2⟩
            case measure => (first | ((try rw [ek1]); exact meas_c KP.out LQ.out) | (clear ek1; have := LQ.out; simp only [intOf]; omega))
        · have q1 : ¬ (q : Int) < c.ks.length := by omega
          clear hx hB hlt
          go_wp2
          go_ret
          exact ⟨.bool true, rfl, smallC_yes c S.out, INV.out.2⟩
/-- the answer of few -/
def FewC (l : List CodeD) (v : Value) : Prop := ∃ r : Bool, v = .bool r ∧ (r = true → l.length ≤ 8)
theorem fewC_no (l : List CodeD) : FewC l (.bool false) := ⟨false, rfl, fun h => Bool.noConfusion h⟩
theorem fewC_yes (l : List CodeD) (h : l.length ≤ 8) : FewC l (.bool true) := ⟨true, rfl, fun _ => h⟩
set_option maxRecDepth 100000 in
set_option maxHeartbeats 4000000 in
theorem fewc_any (s : Value) (l : List CodeD) (hok : ∀ c ∈ l, c.ok) (w : World) (h : IsCd w s l) :
    Calls Try.prog 15 #[imgV s] w fun e w' => ∃ v, e = .returned v ∧ FewC l v ∧ Below w.heap.size w w' := by
  obtain ⟨A, cp, rfl, hmax⟩ := h.form
  have H := Lib.hid h
  have HC := Lib.hid hok
  unfold maxLen at hmax
  clear h hok
  by_cases s1 : 8 < l.length
  · have q1 : (8 : Int) < l.length := by omega
    go_enter Try.func15, Try.ntmps15
    go_wp2
    go_ret
    exact ⟨.bool false, rfl, fewC_no l, by (repeat (with_reducible first | exact Below.refl _ _ | (refine bl_set ?_ (by first | omega | (simp; done) | (simp; omega)) _) | refine bl_gr ?_ _ | refine bl_al ?_ _ | refine below_setRow ?_ (by first | omega | (simp; done) | (simp; omega)) _ | refine bl_drewN ?_ _ | refine Below.drew ?_ | (refine bl_tr ?_ (by assumption))))⟩
  have q1 : ¬ (8 : Int) < l.length := by omega
  have S := Lib.hid (show l.length ≤ 8 by omega)
  have T0 := Lib.hid (show _ ∧ Below w.heap.size w (w.alloc (imgO (.slice A l.length cp))) from ⟨heap_alloc_new w (imgO (.slice A l.length cp)), by (repeat (with_reducible first | exact Below.refl _ _ | (refine bl_set ?_ (by first | omega | (simp; done) | (simp; omega)) _) | refine bl_gr ?_ _ | refine bl_al ?_ _ | refine below_setRow ?_ (by first | omega | (simp; done) | (simp; omega)) _ | refine bl_drewN ?_ _ | refine Below.drew ?_ | (refine bl_tr ?_ (by assumption))))⟩)
  clear hmax s1
  go_enter Try.func15, Try.ntmps15
  go_wp2
  clear q1
  go_loopw [3] (fun i wr => ∃ q : Nat, i = .int .i64 q ∧ Hid (q ≤ l.length) ∧ wr.heap[w.heap.size]? = some (imgO (.slice A l.length cp)) ∧ Below w.heap.size w wr) (fun i _ => l.length - (intOf i).toNat)
  case atStart => exact ⟨0, rfl, Lib.hid (Nat.zero_le _), T0.out⟩
  case round =>
    clear T0
    obtain ⟨q, rfl, HQ, j0, jb⟩ := hrel
    have CX := Lib.hid (And.intro j0 jb)
    have a0 : wr.cell? ⟨w.heap.size, 0, none⟩ = some (.slice A l.length cp) := by rw [cell_of_row wr _ _ _ _ _ j0]; rfl
    have l0 := (Array.getElem?_eq_some_iff.1 j0).1
    by_cases hlt : q < l.length
    · have q2 : (q : Int) < (l.length : Int) := by omega
      have q3 : ¬ (q : Int) < 0 := by omega
      obtain ⟨c, hx⟩ : ∃ c, l[q]? = some c := ⟨_, List.getElem?_eq_getElem hlt⟩
      obtain ⟨b', off', cap', i', p', k', g', e1, lb, h4, h0, h1, h2, h3, h5, h6, h7, h8⟩ := at_Cd (H.out.below jb) hx
      simp only [Value.slice.injEq] at e1
      obtain ⟨rfl, _, rfl⟩ := e1
      obtain ⟨A1, c1, A2, c2, A3, c3, A4, c4, rfl, rfl, rfl, rfl⟩ := h4.forms
      have SM := Lib.hid (fun W (hW : Below wr.heap.size wr W) => smallc_any c _ _ _ _ (HC.out c (List.mem_of_getElem? hx)) W (h4.below hW))
      have LQ := Lib.hid hlt
      obtain ⟨kp, hkp, ek1⟩ : ∃ kp : Nat, kp = q + 1 ∧ wrap64 ((q : Int) + 1) = (kp : Int) := ⟨q + 1, rfl, w64c rfl (by have := S.out; omega)⟩
      have KP := Lib.hid hkp
      clear hkp hlt hx h4 j0 jb
      go_wp2_with (go_at_call 8; go_loud (refine (SM.out _ (by (repeat (with_reducible first | exact Below.refl _ _ | (refine bl_set ?_ (by first | omega | (simp; done) | (simp; omega)) _) | refine bl_gr ?_ _ | refine bl_al ?_ _ | refine below_setRow ?_ (by first | omega | (simp; done) | (simp; omega)) _ | refine bl_drewN ?_ _ | refine Below.drew ?_ | (refine bl_tr ?_ (by assumption)))))).mono ?_; rintro e w3 ⟨v, rfl, ⟨r, rfl, -⟩, hb⟩; have B3 := Lib.hid (bl_tr (show Below wr.heap.size wr _ by (repeat (with_reducible first | exact Below.refl _ _ | (refine bl_set ?_ (by first | omega | (simp; done) | (simp; omega)) _) | refine bl_gr ?_ _ | refine bl_al ?_ _ | refine below_setRow ?_ (by first | omega | (simp; done) | (simp; omega)) _ | refine bl_drewN ?_ _ | refine Below.drew ?_ | (refine bl_tr ?_ (by assumption))))) hb); clear hb; cases r))
      · go_ret
        exact ⟨.bool false, rfl, fewC_no l, bl_tr CX.out.2 (bl_tr B3.out (by (repeat (with_reducible first | exact Below.refl _ _ | (refine bl_set ?_ (by first | omega | (simp; done) | (simp; omega)) _) | refine bl_gr ?_ _ | refine bl_al ?_ _ | refine below_setRow ?_ (by first | omega | (simp; done) | (simp; omega)) _ | refine bl_drewN ?_ _ | refine Below.drew ?_ | (refine bl_tr ?_ (by assumption))))))⟩
      · go_roundw
        case rel => exact ⟨kp, by first | with_reducible rfl | (rw [ek1]; done), Lib.hid (by rw [KP.out]; exact LQ.out), (B3.out.block _ l0).trans CX.out.1, bl_tr CX.out.2 B3.out⟩
        case measure => (first | ((try rw [ek1]); exact meas_c KP.out LQ.out) | (clear ek1; have := LQ.out; simp only [intOf]; omega))
    · have q2 : ¬ (q : Int) < (l.length : Int) := by omega
      clear hlt j0 jb
      go_wp2
      go_ret
      exact ⟨.bool true, rfl, fewC_yes l S.out, CX.out.2⟩
end Go.Proofs.Ytcmpgohpncnagaa
