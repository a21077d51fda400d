/- Weak maps: the reference's Get, Delete and Clean. -/
import Derived.Test.YtdikdkllbhanfaaWkM
namespace Go.Proofs.Ytdikdkllbhanfaa
set_option linter.all false
open Go.RowKit Go.Sort Go.Deep Go.Shelf

theorem heap3c (w : World) (a b c : Obj) : (((w.alloc a).alloc b).alloc c).heap[w.heap.size]? = some a ∧ (((w.alloc a).alloc b).alloc c).heap[w.heap.size + 1]? = some b ∧ (((w.alloc a).alloc b).alloc c).heap[w.heap.size + 1 + 1]? = some c ∧ Below w.heap.size w (((w.alloc a).alloc b).alloc c) := heap3 w a b c
/-- a value stored -/
theorem put3 {w Y : World} {a : Nat} {u v : Val} (hB : Below w.heap.size w Y) (ha : w.heap.size ≤ a) (h1 : Y.heap[a]? = some (valB u)) :
    ((((Y.setCell ⟨a, 0, none⟩ (.int .i64 v.k)).setCell ⟨a, 1, none⟩ (.int .i64 v.n)).setCell ⟨a, 2, none⟩ (.string v.s)).heap[a]? = some (valB v)) ∧
    Below w.heap.size w (((Y.setCell ⟨a, 0, none⟩ (.int .i64 v.k)).setCell ⟨a, 1, none⟩ (.int .i64 v.n)).setCell ⟨a, 2, none⟩ (.string v.s)) := by
  refine ⟨heap_setCell_same _ _ 2 _ _ _ (heap_setCell_same _ _ 1 _ _ _ (heap_setCell_same _ _ 0 _ _ _ h1)), ?_⟩
  iterate 3 refine bl_set ?_ (by assumption) _
  exact hB

set_option maxRecDepth 100000 in
set_option maxHeartbeats 8000000 in
theorem rget_no (sv mv : Value) (c : CellD) (key : Val) (hc : c.ok) (w : World) (h1 : IsV w sv c.sl) (h2 : IsV w mv c.mo) (hb : isW c = false) :
    Calls Try.prog 21 #[cellV c.k c.sh c.fl c.ag sv mv, key.agg] w fun e w' => e = .returned (.tuple #[Val.zero.agg, .bool false]) ∧ Below w.heap.size w w' := by
  obtain ⟨A0, n0, rfl, _, _⟩ := h1.form
  obtain ⟨A2, n2, rfl, _, _⟩ := h2.form
  have H1 := Lib.hid h1
  have H2 := Lib.hid h2
  have IS := Lib.hid (fun W a b => by have := ris_any (.slice A0 c.sl.length n0) (.slice A2 c.mo.length n2) c hc W a b; rw [hb] at this; exact this : ∀ (W : World), IsV W (.slice A0 c.sl.length n0) c.sl → IsV W (.slice A2 c.mo.length n2) c.mo → Calls Try.prog 32 #[cellV c.k c.sh c.fl c.ag (.slice A0 c.sl.length n0) (.slice A2 c.mo.length n2)] W fun e w' => e = .returned (.bool false) ∧ Below W.heap.size W w')
  clear h1 h2 hc hb
  go_enter Try.func21, Try.ntmps21
  go_upto_region 1 with fail
  refine wp_world (fun W => W.heap[w.heap.size]? = some (cellO c.k c.sh c.fl c.ag (.slice A0 c.sl.length n0) (.slice A2 c.mo.length n2)) ∧ W.heap[w.heap.size + 1]? = some (valB key) ∧ W.heap[w.heap.size + 1 + 1]? = some (valB Val.zero) ∧ Below w.heap.size w W) (heap3 w _ _ _) ?_
  rintro W ⟨j1, j2, j3, jb⟩
  have l0 : w.heap.size < W.heap.size := (Array.getElem?_eq_some_iff.1 j1).1
  have l1 : w.heap.size + 1 < W.heap.size := (Array.getElem?_eq_some_iff.1 j2).1
  have l2 : w.heap.size + 1 + 1 < W.heap.size := (Array.getElem?_eq_some_iff.1 j3).1
  have KK := Lib.hid (show ∀ X, Below W.heap.size W X → X.heap[w.heap.size]? = some (cellO c.k c.sh c.fl c.ag (.slice A0 c.sl.length n0) (.slice A2 c.mo.length n2)) ∧ X.heap[w.heap.size + 1]? = some (valB key) ∧ X.heap[w.heap.size + 1 + 1]? = some (valB Val.zero) from fun X h => ⟨(h.block _ l0).trans j1, (h.block _ l1).trans j2, (h.block _ l2).trans j3⟩)
  have BW := Lib.hid jb
  have I1 := Lib.hid (H1.out.below jb)
  have I2 := Lib.hid (H2.out.below jb)
  obtain ⟨⟨a0, a1, a2, a3, a4, a5⟩, _⟩ := cells6 j1
  obtain ⟨t0, t1, t2⟩ := cells3 j2
  clear j1 j2 j3 jb H1 H2
  go_upto_region 2 with (go_at_call 32; refine (callGr (IS.out _ (I1.out.below (by (repeat (with_reducible first | exact Below.refl _ _ | (refine bl_set ?_ (by first | omega | (simp; done) | (simp; omega)) _) | refine bl_gr ?_ _ | refine bl_al ?_ _ | refine below_setRow ?_ (by first | omega | (simp; done) | (simp; omega)) _ | refine bl_drewN ?_ _ | refine Below.drew ?_ | (refine bl_tr ?_ (by assumption)))))) (I2.out.below (by (repeat (with_reducible first | exact Below.refl _ _ | (refine bl_set ?_ (by first | omega | (simp; done) | (simp; omega)) _) | refine bl_gr ?_ _ | refine bl_al ?_ _ | refine below_setRow ?_ (by first | omega | (simp; done) | (simp; omega)) _ | refine bl_drewN ?_ _ | refine Below.drew ?_ | (refine bl_tr ?_ (by assumption)))))))).mono ?_; rintro e w' ⟨pp, rfl, rfl⟩)
  refine wp_world (fun X => Below W.heap.size W X) (by (repeat (with_reducible first | exact Below.refl _ _ | (refine bl_set ?_ (by first | omega | (simp; done) | (simp; omega)) _) | refine bl_gr ?_ _ | refine bl_al ?_ _ | refine below_setRow ?_ (by first | omega | (simp; done) | (simp; omega)) _ | refine bl_drewN ?_ _ | refine Below.drew ?_ | (refine bl_tr ?_ (by assumption))))) ?_
  intro X hX
  obtain ⟨_, _, k3⟩ := KK.out X hX
  obtain ⟨x0, x1, x2, x3⟩ := cells3f k3
  have lX := hX.size
  have K34 := Lib.hid (And.intro k3 (bl_tr BW.out hX))
  clear hX a0 a1 a2 a3 a4 a5 t0 t1 t2 k3
  go_wp2_with fail
  refine wp_post (fun W6 => W6.heap[w.heap.size + 1 + 1]? = some (valB Val.zero) ∧ Below w.heap.size w W6) (put3 (v := Val.zero) K34.out.2 (by omega) K34.out.1) ?_
  rintro W6 ⟨r1, rb⟩
  obtain ⟨e0, e1, e2⟩ := cells3 r1
  clear x0 x1 x2 x3
  refine bodyPost_ret (v := .tuple #[Val.zero.agg, .bool false]) ?_ rfl ⟨rfl, rb⟩
  clear r1 rb
  simp [results, Try.results21, go_sem, *]
set_option maxRecDepth 100000 in
set_option maxHeartbeats 8000000 in
theorem rget_none (sv mv : Value) (c : CellD) (key : Val) (hc : c.ok) (w : World) (h1 : IsV w sv c.sl) (h2 : IsV w mv c.mo) (hb : isW c = true) (m : Nat) (hm : c.mo.length = 2 * m) (hmx : c.mo.length ≤ 1048576) (hg : getW key c.mo (List.finRange m) = none) :
    Calls Try.prog 21 #[cellV c.k c.sh c.fl c.ag sv mv, key.agg] w fun e w' => e = .returned (.tuple #[Val.zero.agg, .bool false]) ∧ Below w.heap.size w w' := by
  obtain ⟨A0, n0, rfl, _, _⟩ := h1.form
  obtain ⟨A2, n2, rfl, _, _⟩ := h2.form
  have H1 := Lib.hid h1
  have H2 := Lib.hid h2
  have IS := Lib.hid (fun W a b => by have := ris_any (.slice A0 c.sl.length n0) (.slice A2 c.mo.length n2) c hc W a b; rw [hb] at this; exact this : ∀ (W : World), IsV W (.slice A0 c.sl.length n0) c.sl → IsV W (.slice A2 c.mo.length n2) c.mo → Calls Try.prog 32 #[cellV c.k c.sh c.fl c.ag (.slice A0 c.sl.length n0) (.slice A2 c.mo.length n2)] W fun e w' => e = .returned (.bool true) ∧ Below W.heap.size W w')
  have PL := Lib.hid (fun W a b => by have := place_any (.slice A0 c.sl.length n0) (.slice A2 c.mo.length n2) c key m hm hmx W a b; rw [hg] at this; exact this : ∀ (W : World), IsV W (.slice A0 c.sl.length n0) c.sl → IsV W (.slice A2 c.mo.length n2) c.mo → Calls Try.prog 38 #[cellV c.k c.sh c.fl c.ag (.slice A0 c.sl.length n0) (.slice A2 c.mo.length n2), key.agg] W fun e w' => e = .returned (.int .i64 (-1)) ∧ Below W.heap.size W w')
  clear hm hmx hg
  clear h1 h2 hc hb
  go_enter Try.func21, Try.ntmps21
  go_upto_region 1 with fail
  refine wp_world (fun W => W.heap[w.heap.size]? = some (cellO c.k c.sh c.fl c.ag (.slice A0 c.sl.length n0) (.slice A2 c.mo.length n2)) ∧ W.heap[w.heap.size + 1]? = some (valB key) ∧ W.heap[w.heap.size + 1 + 1]? = some (valB Val.zero) ∧ Below w.heap.size w W) (heap3 w _ _ _) ?_
  rintro W ⟨j1, j2, j3, jb⟩
  have l0 : w.heap.size < W.heap.size := (Array.getElem?_eq_some_iff.1 j1).1
  have l1 : w.heap.size + 1 < W.heap.size := (Array.getElem?_eq_some_iff.1 j2).1
  have l2 : w.heap.size + 1 + 1 < W.heap.size := (Array.getElem?_eq_some_iff.1 j3).1
  have KK := Lib.hid (show ∀ X, Below W.heap.size W X → X.heap[w.heap.size]? = some (cellO c.k c.sh c.fl c.ag (.slice A0 c.sl.length n0) (.slice A2 c.mo.length n2)) ∧ X.heap[w.heap.size + 1]? = some (valB key) ∧ X.heap[w.heap.size + 1 + 1]? = some (valB Val.zero) from fun X h => ⟨(h.block _ l0).trans j1, (h.block _ l1).trans j2, (h.block _ l2).trans j3⟩)
  have BW := Lib.hid jb
  have I1 := Lib.hid (H1.out.below jb)
  have I2 := Lib.hid (H2.out.below jb)
  obtain ⟨⟨a0, a1, a2, a3, a4, a5⟩, _⟩ := cells6 j1
  obtain ⟨t0, t1, t2⟩ := cells3 j2
  clear j1 j2 j3 jb H1 H2
  go_upto_region 2 with (first | (go_at_call 32; refine (callGr (IS.out _ (I1.out.below (by (repeat (with_reducible first | exact Below.refl _ _ | (refine bl_set ?_ (by first | omega | (simp; done) | (simp; omega)) _) | refine bl_gr ?_ _ | refine bl_al ?_ _ | refine below_setRow ?_ (by first | omega | (simp; done) | (simp; omega)) _ | refine bl_drewN ?_ _ | refine Below.drew ?_ | (refine bl_tr ?_ (by assumption)))))) (I2.out.below (by (repeat (with_reducible first | exact Below.refl _ _ | (refine bl_set ?_ (by first | omega | (simp; done) | (simp; omega)) _) | refine bl_gr ?_ _ | refine bl_al ?_ _ | refine below_setRow ?_ (by first | omega | (simp; done) | (simp; omega)) _ | refine bl_drewN ?_ _ | refine Below.drew ?_ | (refine bl_tr ?_ (by assumption)))))))).mono ?_; rintro e w' ⟨pp, rfl, rfl⟩) | (go_at_call 38; refine (callGr (PL.out _ (I1.out.below (by (repeat (with_reducible first | exact Below.refl _ _ | (refine bl_set ?_ (by first | omega | (simp; done) | (simp; omega)) _) | refine bl_gr ?_ _ | refine bl_al ?_ _ | refine below_setRow ?_ (by first | omega | (simp; done) | (simp; omega)) _ | refine bl_drewN ?_ _ | refine Below.drew ?_ | (refine bl_tr ?_ (by assumption)))))) (I2.out.below (by (repeat (with_reducible first | exact Below.refl _ _ | (refine bl_set ?_ (by first | omega | (simp; done) | (simp; omega)) _) | refine bl_gr ?_ _ | refine bl_al ?_ _ | refine below_setRow ?_ (by first | omega | (simp; done) | (simp; omega)) _ | refine bl_drewN ?_ _ | refine Below.drew ?_ | (refine bl_tr ?_ (by assumption)))))))).mono ?_; rintro e w' ⟨pp, rfl, rfl⟩))
  refine wp_world (fun X => Below W.heap.size W X) (by (repeat (with_reducible first | exact Below.refl _ _ | (refine bl_set ?_ (by first | omega | (simp; done) | (simp; omega)) _) | refine bl_gr ?_ _ | refine bl_al ?_ _ | refine below_setRow ?_ (by first | omega | (simp; done) | (simp; omega)) _ | refine bl_drewN ?_ _ | refine Below.drew ?_ | (refine bl_tr ?_ (by assumption))))) ?_
  intro X hX
  obtain ⟨_, _, k3⟩ := KK.out X hX
  obtain ⟨x0, x1, x2, x3⟩ := cells3f k3
  have lX := hX.size
  have K34 := Lib.hid (And.intro k3 (bl_tr BW.out hX))
  clear hX a0 a1 a2 a3 a4 a5 t0 t1 t2 k3
  go_wp2_with fail
  refine wp_post (fun W6 => W6.heap[w.heap.size + 1 + 1]? = some (valB Val.zero) ∧ Below w.heap.size w W6) (put3 (v := Val.zero) K34.out.2 (by omega) K34.out.1) ?_
  rintro W6 ⟨r1, rb⟩
  obtain ⟨e0, e1, e2⟩ := cells3 r1
  clear x0 x1 x2 x3
  refine bodyPost_ret (v := .tuple #[Val.zero.agg, .bool false]) ?_ rfl ⟨rfl, rb⟩
  clear r1 rb
  simp [results, Try.results21, go_sem, *]
set_option maxRecDepth 100000 in
set_option maxHeartbeats 8000000 in
theorem rget_some (sv mv : Value) (c : CellD) (key : Val) (hc : c.ok) (w : World) (h1 : IsV w sv c.sl) (h2 : IsV w mv c.mo) (hb : isW c = true) (m : Nat) (hm : c.mo.length = 2 * m) (hmx : c.mo.length ≤ 1048576) (x : Fin m) (hg : getW key c.mo (List.finRange m) = some x) :
    Calls Try.prog 21 #[cellV c.k c.sh c.fl c.ag sv mv, key.agg] w fun e w' => e = .returned (.tuple #[(vAt c.mo (2 * x.val + 1)).agg, .bool true]) ∧ Below w.heap.size w w' := by
  have hx := x.isLt
  have hbl := h2.at_ (by omega)
  obtain ⟨A0, n0, rfl, _, _⟩ := h1.form
  obtain ⟨A2, n2, rfl, _, _⟩ := h2.form
  have H1 := Lib.hid h1
  have H2 := Lib.hid h2
  have IS := Lib.hid (fun W a b => by have := ris_any (.slice A0 c.sl.length n0) (.slice A2 c.mo.length n2) c hc W a b; rw [hb] at this; exact this : ∀ (W : World), IsV W (.slice A0 c.sl.length n0) c.sl → IsV W (.slice A2 c.mo.length n2) c.mo → Calls Try.prog 32 #[cellV c.k c.sh c.fl c.ag (.slice A0 c.sl.length n0) (.slice A2 c.mo.length n2)] W fun e w' => e = .returned (.bool true) ∧ Below W.heap.size W w')
  have PL := Lib.hid (fun W a b => by have := place_any (.slice A0 c.sl.length n0) (.slice A2 c.mo.length n2) c key m hm hmx W a b; rw [hg] at this; exact this : ∀ (W : World), IsV W (.slice A0 c.sl.length n0) c.sl → IsV W (.slice A2 c.mo.length n2) c.mo → Calls Try.prog 38 #[cellV c.k c.sh c.fl c.ag (.slice A0 c.sl.length n0) (.slice A2 c.mo.length n2), key.agg] W fun e w' => e = .returned (.int .i64 ((2 * x.val : Nat) : Int)) ∧ Below W.heap.size W w')
  have HM := Lib.hid (And.intro hm (And.intro hmx hx))
  clear hg hm hmx hx
  clear h1 h2 hc hb
  go_enter Try.func21, Try.ntmps21
  go_upto_region 1 with fail
  refine wp_world (fun W => W.heap[w.heap.size]? = some (cellO c.k c.sh c.fl c.ag (.slice A0 c.sl.length n0) (.slice A2 c.mo.length n2)) ∧ W.heap[w.heap.size + 1]? = some (valB key) ∧ W.heap[w.heap.size + 1 + 1]? = some (valB Val.zero) ∧ Below w.heap.size w W) (heap3 w _ _ _) ?_
  rintro W ⟨j1, j2, j3, jb⟩
  have l0 : w.heap.size < W.heap.size := (Array.getElem?_eq_some_iff.1 j1).1
  have l1 : w.heap.size + 1 < W.heap.size := (Array.getElem?_eq_some_iff.1 j2).1
  have l2 : w.heap.size + 1 + 1 < W.heap.size := (Array.getElem?_eq_some_iff.1 j3).1
  have KK := Lib.hid (show ∀ X, Below W.heap.size W X → X.heap[w.heap.size]? = some (cellO c.k c.sh c.fl c.ag (.slice A0 c.sl.length n0) (.slice A2 c.mo.length n2)) ∧ X.heap[w.heap.size + 1]? = some (valB key) ∧ X.heap[w.heap.size + 1 + 1]? = some (valB Val.zero) from fun X h => ⟨(h.block _ l0).trans j1, (h.block _ l1).trans j2, (h.block _ l2).trans j3⟩)
  have BW := Lib.hid jb
  have I1 := Lib.hid (H1.out.below jb)
  have I2 := Lib.hid (H2.out.below jb)
  obtain ⟨⟨a0, a1, a2, a3, a4, a5⟩, _⟩ := cells6 j1
  obtain ⟨t0, t1, t2⟩ := cells3 j2
  clear j1 j2 j3 jb H1 H2
  obtain ⟨hm, hmx, hx⟩ := HM.out
  obtain ⟨b, off, rfl⟩ := isV_addr I2.out (by omega)
  have lb : b < w.heap.size := by
    obtain ⟨b', off', cap', e, _, hb', _⟩ := hbl
    simp only [Value.slice.injEq, Option.some.injEq, Addr.mk.injEq] at e
    rw [e.1.1]; exact hb'
  clear hbl
  have nb : ¬ b = w.heap.size + 1 + 1 := by omega
  have SK := Lib.hid (show ∀ Z, Below W.heap.size W Z → Z.cell? ⟨b, off + (2 * x.val + 1) * 3, none⟩ = some (.int .i64 (vAt c.mo (2 * x.val + 1)).k) ∧ Z.cell? ⟨b, off + (2 * x.val + 1) * 3 + 1, none⟩ = some (.int .i64 (vAt c.mo (2 * x.val + 1)).n) ∧ Z.cell? ⟨b, off + (2 * x.val + 1) * 3 + 2, none⟩ = some (.string (vAt c.mo (2 * x.val + 1)).s) from fun Z hZ => by
    obtain ⟨_, h0, h1, h2⟩ := (I2.out.below hZ).v3 (2 * x.val + 1) (by omega)
    exact ⟨h0, h1, h2⟩)
  generalize hL : c.mo.length = L at *
  generalize hq : 2 * x.val = q at *
  generalize hv : vAt c.mo (q + 1) = v at *
  have HV := Lib.hid (show vAt c.mo (2 * x.val + 1) = v by rw [hq]; exact hv)
  clear hv
  have w2 : IntKind.i64.wrap ((q : Int) + 1) = (q : Int) + 1 := IntWalk.i64_in _ (by omega)
  have e1 : ((q : Int) + 1).toNat = q + 1 := by omega
  have s1 : (0 : Int) ≤ (q : Int) + 1 := by omega
  have s2 : (q : Int) + 1 < L := by omega
  have s5 : ¬ (q : Int) < 0 := by omega
  clear hL hq hm hmx hx
  go_upto_region 3 with (first | (go_at_call 32; refine (callGr (IS.out _ (I1.out.below (by (repeat (with_reducible first | exact Below.refl _ _ | (refine bl_set ?_ (by first | omega | (simp; done) | (simp; omega)) _) | refine bl_gr ?_ _ | refine bl_al ?_ _ | refine below_setRow ?_ (by first | omega | (simp; done) | (simp; omega)) _ | refine bl_drewN ?_ _ | refine Below.drew ?_ | (refine bl_tr ?_ (by assumption)))))) (I2.out.below (by (repeat (with_reducible first | exact Below.refl _ _ | (refine bl_set ?_ (by first | omega | (simp; done) | (simp; omega)) _) | refine bl_gr ?_ _ | refine bl_al ?_ _ | refine below_setRow ?_ (by first | omega | (simp; done) | (simp; omega)) _ | refine bl_drewN ?_ _ | refine Below.drew ?_ | (refine bl_tr ?_ (by assumption)))))))).mono ?_; rintro e w' ⟨pp, rfl, rfl⟩) | (go_at_call 38; refine (callGr (PL.out _ (I1.out.below (by (repeat (with_reducible first | exact Below.refl _ _ | (refine bl_set ?_ (by first | omega | (simp; done) | (simp; omega)) _) | refine bl_gr ?_ _ | refine bl_al ?_ _ | refine below_setRow ?_ (by first | omega | (simp; done) | (simp; omega)) _ | refine bl_drewN ?_ _ | refine Below.drew ?_ | (refine bl_tr ?_ (by assumption)))))) (I2.out.below (by (repeat (with_reducible first | exact Below.refl _ _ | (refine bl_set ?_ (by first | omega | (simp; done) | (simp; omega)) _) | refine bl_gr ?_ _ | refine bl_al ?_ _ | refine below_setRow ?_ (by first | omega | (simp; done) | (simp; omega)) _ | refine bl_drewN ?_ _ | refine Below.drew ?_ | (refine bl_tr ?_ (by assumption)))))))).mono ?_; rintro e w' ⟨pp, rfl, rfl⟩))
  refine wp_world (fun X => Below W.heap.size W X) (by (repeat (with_reducible first | exact Below.refl _ _ | (refine bl_set ?_ (by first | omega | (simp; done) | (simp; omega)) _) | refine bl_gr ?_ _ | refine bl_al ?_ _ | refine below_setRow ?_ (by first | omega | (simp; done) | (simp; omega)) _ | refine bl_drewN ?_ _ | refine Below.drew ?_ | (refine bl_tr ?_ (by assumption))))) ?_
  intro X hX
  obtain ⟨k1, k2, k3⟩ := KK.out X hX
  clear a0 a1 a2 a3 a4 a5 t0 t1 t2
  obtain ⟨⟨a0, a1, a2, a3, a4, a5⟩, _⟩ := cells6 k1
  obtain ⟨t0, t1, t2⟩ := cells3 k2
  obtain ⟨v0, v1, v2⟩ := SK.out X hX
  obtain ⟨x0, x1, x2, x3⟩ := cells3f k3
  have lX := hX.size
  have lX0 : w.heap.size < X.heap.size := by omega
  have lX1 : w.heap.size + 1 < X.heap.size := by omega
  have lX2 : w.heap.size + 1 + 1 < X.heap.size := by omega
  have lXb : b < X.heap.size := by omega
  have K34 := Lib.hid (And.intro k3 (bl_tr BW.out hX))
  have O2 := Lib.hid hX
  clear hX k1 k2 k3
  (refine wp_region_held_drew (S := (fun Z : World => Z.cell? ⟨w.heap.size, 0, none⟩ = some (.int .i64 c.k) ∧ Z.cell? ⟨w.heap.size, 1, none⟩ = some (.int .i64 c.sh) ∧ Z.cell? ⟨w.heap.size, 2, none⟩ = some (.int .i64 c.fl) ∧ Z.cell? ⟨w.heap.size, 3, none⟩ = some (.int .i64 c.ag) ∧ Z.cell? ⟨w.heap.size, 4, none⟩ = some (.slice A0 c.sl.length n0) ∧ Z.cell? ⟨w.heap.size, 5, none⟩ = some (.slice (some ⟨b, off, none⟩) L n2) ∧ Z.cell? ⟨w.heap.size + 1, 0, none⟩ = some (.int .i64 key.k) ∧ Z.cell? ⟨w.heap.size + 1, 1, none⟩ = some (.int .i64 key.n) ∧ Z.cell? ⟨w.heap.size + 1, 2, none⟩ = some (.string key.s) ∧ Z.cell? ⟨b, off + (q + 1) * 3, none⟩ = some (.int .i64 v.k) ∧ Z.cell? ⟨b, off + (q + 1) * 3 + 1, none⟩ = some (.int .i64 v.n) ∧ Z.cell? ⟨b, off + (q + 1) * 3 + 2, none⟩ = some (.string v.s))) Try.mixed (by (and_intros <;> go_simp)) (fun hS => ?_); (refine wpAnyH_take (i := 0) (v := ?_) rfl (by kernel_rfl) (by kernel_rfl) (by kernel_rfl) (fun _ _ _ h => h) ?_ (by assumption) ?_; rotate_left; (next => (refine Or.inl ⟨by kernel_rfl, ?_⟩; ((intro w hSw; (try dsimp only at hSw); go_simp) <;> with_reducible rfl))); (try simp only [Act.put, List.setIfInBounds_toArray, List.set_cons_zero, List.set_cons_succ])); (refine wpAnyH_take (i := 1) (v := ?_) rfl (by kernel_rfl) (by kernel_rfl) (by kernel_rfl) (fun _ _ _ h => h) ?_ (by assumption) ?_; rotate_left; (next => (refine Or.inl ⟨by kernel_rfl, ?_⟩; ((intro w hSw; (try dsimp only at hSw); obtain ⟨a0, a1, a2, a3, a4, a5, t0, t1, t2, v0, v1, v2⟩ := hSw; go_simp) <;> with_reducible rfl))); (try simp only [Act.put, List.setIfInBounds_toArray, List.set_cons_zero, List.set_cons_succ])); (refine wpAnyH_take (i := 2) (v := ?_) rfl (by kernel_rfl) (by kernel_rfl) (by kernel_rfl) (fun _ _ _ h => h) ?_ (by assumption) ?_; rotate_left; (next => (refine Or.inl ⟨by kernel_rfl, ?_⟩; ((intro w hSw; (try dsimp only at hSw); obtain ⟨a0, a1, a2, a3, a4, a5, t0, t1, t2, v0, v1, v2⟩ := hSw; go_simp) <;> with_reducible rfl))); (try simp only [Act.put, List.setIfInBounds_toArray, List.set_cons_zero, List.set_cons_succ])); (refine wpAnyH_take (i := 3) (v := ?_) rfl (by kernel_rfl) (by kernel_rfl) (by kernel_rfl) (fun _ _ _ h => h) ?_ (by assumption) ?_; rotate_left; (next => (refine Or.inl ⟨by kernel_rfl, ?_⟩; ((intro w hSw; (try dsimp only at hSw); obtain ⟨a0, a1, a2, a3, a4, a5, t0, t1, t2, v0, v1, v2⟩ := hSw; go_simp) <;> with_reducible rfl))); (try simp only [Act.put, List.setIfInBounds_toArray, List.set_cons_zero, List.set_cons_succ])); refine wpAnyH_ready (rs := [4]) (by kernel_rfl) (by simp) ?_; refine AllReadyH.cons rfl (fun K hK => ?_) AllReadyH.nil; go_simp; ((go_at_call 38; refine (callGr (PL.out _ (I1.out.below (by (repeat (with_reducible first | exact O2.out | exact Below.refl _ _ | refine bl_rapp ?_ | (refine bl_set ?_ (by first | omega | (simp; done) | (simp; omega)) _) | refine bl_gr ?_ _ | refine bl_al ?_ _ | refine bl_drewN ?_ _ | refine Below.drew ?_)))) (I2.out.below (by (repeat (with_reducible first | exact O2.out | exact Below.refl _ _ | refine bl_rapp ?_ | (refine bl_set ?_ (by first | omega | (simp; done) | (simp; omega)) _) | refine bl_gr ?_ _ | refine bl_al ?_ _ | refine bl_drewN ?_ _ | refine Below.drew ?_)))))).mono ?_; rintro e w' ⟨pp, rfl, rfl⟩)); refine hK.out _ _ (by (and_intros <;> go_simp)) (fun hS => ?_); clear hK K; (try simp only [Act.put, List.setIfInBounds_toArray, List.set_cons_zero, List.set_cons_succ]); (refine wpAnyH_take (i := 5) (v := ?_) rfl (by kernel_rfl) (by kernel_rfl) (by kernel_rfl) (fun _ _ _ h => h) ?_ (by assumption) ?_; rotate_left; (next => (refine Or.inl ⟨by kernel_rfl, ?_⟩; ((intro w hSw; (try dsimp only at hSw); go_simp) <;> with_reducible rfl))); (try simp only [Act.put, List.setIfInBounds_toArray, List.set_cons_zero, List.set_cons_succ])); (refine wpAnyH_take (i := 6) (v := ?_) rfl (by kernel_rfl) (by kernel_rfl) (by kernel_rfl) (fun _ _ _ h => h) ?_ (by assumption) ?_; rotate_left; (next => (refine Or.inl ⟨by kernel_rfl, ?_⟩; ((intro w hSw; (try dsimp only at hSw); go_simp) <;> with_reducible rfl))); (try simp only [Act.put, List.setIfInBounds_toArray, List.set_cons_zero, List.set_cons_succ])); (refine wpAnyH_take (i := 7) (v := ?_) rfl (by kernel_rfl) (by kernel_rfl) (by kernel_rfl) (fun _ _ _ h => h) ?_ (by assumption) ?_; rotate_left; (next => (refine Or.inl ⟨by kernel_rfl, ?_⟩; ((intro w hSw; (try dsimp only at hSw); obtain ⟨a0, a1, a2, a3, a4, a5, t0, t1, t2, v0, v1, v2⟩ := hSw; go_simp) <;> with_reducible rfl))); (try simp only [Act.put, List.setIfInBounds_toArray, List.set_cons_zero, List.set_cons_succ])); refine wpAnyH_ready (rs := [8]) (by kernel_rfl) (by simp) ?_; refine AllReadyH.cons rfl (fun K hK => ?_) AllReadyH.nil; go_simp; refine hK.out _ _ (by (and_intros <;> go_simp)) (fun hS => ?_); clear hK K; (try simp only [Act.put, List.setIfInBounds_toArray, List.set_cons_zero, List.set_cons_succ]); (refine wpAnyH_take (i := 9) (v := ?_) rfl (by kernel_rfl) (by kernel_rfl) (by kernel_rfl) (fun _ _ _ h => h) ?_ (by assumption) ?_; rotate_left; (next => (refine Or.inl ⟨by kernel_rfl, ?_⟩; ((intro w hSw; (try dsimp only at hSw); go_simp) <;> with_reducible rfl))); (try simp only [Act.put, List.setIfInBounds_toArray, List.set_cons_zero, List.set_cons_succ])); refine wpAnyH_done (by kernel_rfl) ?_ _)
  go_simp
  go_wp2
  refine wp_post (fun W6 => W6.heap[w.heap.size + 1 + 1]? = some (valB v) ∧ Below w.heap.size w W6) ?_ ?_
  · have P := put3 (v := v) K34.out.2 (show w.heap.size ≤ w.heap.size + 1 + 1 by omega) K34.out.1
    exact ⟨((below_gr _ _).block _ (by simpa using lX2)).trans P.1, bl_gr P.2 _⟩
  rintro W6 ⟨r1, rb⟩
  obtain ⟨e0, e1, e2⟩ := cells3 r1
  clear x0 x1 x2 x3 a0 a1 a2 a3 a4 a5 t0 t1 t2 v0 v1 v2 hS
  refine bodyPost_ret (v := .tuple #[v.agg, .bool true]) ?_ rfl ⟨by rw [HV.out], rb⟩
  clear r1 rb
  simp [results, Try.results21, go_sem, *]
theorem rget_any (sv mv : Value) (c : CellD) (key : Val) (hc : c.ok) (w : World) (h1 : IsV w sv c.sl) (h2 : IsV w mv c.mo) :
    Calls Try.prog 21 #[cellV c.k c.sh c.fl c.ag sv mv, key.agg] w fun e w' => e = .returned (.tuple #[(getC c key).agg, .bool (getB c key)]) ∧ Below w.heap.size w w' := by
  cases hb : isW c
  · have := rget_no sv mv c key hc w h1 h2 hb
    rw [show getC c key = Val.zero by simp [getC, hb], show getB c key = false by simp [getB, hb]]
    exact this
  · obtain ⟨m, hm, _, hmx⟩ := isW_len hb
    rw [show getC c key = getV c.mo (getW key c.mo (List.finRange m)) by unfold getC; rw [if_pos hb, show c.mo.length / 2 = m by omega], show getB c key = (getW key c.mo (List.finRange m)).isSome by unfold getB; rw [hb, show c.mo.length / 2 = m by omega, Bool.true_and]]
    cases hg : getW key c.mo (List.finRange m) with
    | none => exact rget_none sv mv c key hc w h1 h2 hb m hm hmx hg
    | some x => exact rget_some sv mv c key hc w h1 h2 hb m hm hmx x hg
end Go.Proofs.Ytdikdkllbhanfaa
