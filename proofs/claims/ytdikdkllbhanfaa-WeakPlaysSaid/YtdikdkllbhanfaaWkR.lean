/- Weak maps: the reference's Set. -/
import Derived.Test.YtdikdkllbhanfaaWkQ
namespace Go.Proofs.Ytdikdkllbhanfaa
set_option linter.all false
open Go.RowKit Go.Sort Go.Deep Go.Shelf

set_option maxRecDepth 100000 in
set_option maxHeartbeats 8000000 in
theorem rset_no (sv mv : Value) (c : CellD) (key v : Val) (hc : c.ok) (w : World) (h1 : IsV w sv c.sl) (h2 : IsV w mv c.mo) (hb : isW c = false) :
    Calls Try.prog 17 #[cellV c.k c.sh c.fl c.ag sv mv, key.agg, v.agg] w (RetP w zeroC (.int .i64 51)) := by
  obtain ⟨A0, n0, rfl, _, _⟩ := h1.form
  obtain ⟨A2, n2, rfl, _, _⟩ := h2.form
  have H1 := Lib.hid h1
  have H2 := Lib.hid h2
  have IS := Lib.hid (fun W a b => by have := ris_any _ _ c hc W a b; rw [hb] at this; exact this : ∀ (W : World), IsV W (.slice A0 c.sl.length n0) c.sl → IsV W (.slice A2 c.mo.length n2) c.mo → Calls Try.prog 32 #[cellV c.k c.sh c.fl c.ag (.slice A0 c.sl.length n0) (.slice A2 c.mo.length n2)] W fun e w' => e = .returned (.bool false) ∧ Below W.heap.size W w')
  clear h1 h2 hc hb
  go_enter Try.func17, Try.ntmps17
  go_upto_region 1 with fail
  refine wp_world (fun W => W.heap[w.heap.size]? = some (cellO c.k c.sh c.fl c.ag (.slice A0 c.sl.length n0) (.slice A2 c.mo.length n2)) ∧ W.heap[w.heap.size + 1]? = some (valB key) ∧ W.heap[w.heap.size + 1 + 1]? = some (valB v) ∧ W.heap[w.heap.size + 1 + 1 + 1]? = some (cellO 0 0 0 0 (.slice none 0 0) (.slice none 0 0)) ∧ Below w.heap.size w W) (heap4c w _ _ _ _) ?_
  rintro W ⟨j1, j2, j3, j4, jb⟩
  have l0 : w.heap.size < W.heap.size := (Array.getElem?_eq_some_iff.1 j1).1
  have l3 : w.heap.size + 1 + 1 + 1 < W.heap.size := (Array.getElem?_eq_some_iff.1 j4).1
  have KK := Lib.hid (show ∀ X, Below W.heap.size W X → X.heap[w.heap.size + 1 + 1 + 1]? = some (cellO 0 0 0 0 (.slice none 0 0) (.slice none 0 0)) from fun X h => (h.block _ l3).trans j4)
  have BW := Lib.hid jb
  have I1 := Lib.hid (H1.out.below jb)
  have I2 := Lib.hid (H2.out.below jb)
  obtain ⟨⟨a0, a1, a2, a3, a4, a5⟩, _⟩ := cells6 j1
  clear j1 j2 j3 j4 jb H1 H2
  go_upto_region 2 with (go_at_call 32; refine (callGr (IS.out _ (I1.out.below (by (repeat (with_reducible first | exact Below.refl _ _ | (refine bl_set ?_ (by first | omega | (simp; done) | (simp; omega)) _) | refine bl_gr ?_ _ | refine bl_al ?_ _ | refine below_setRow ?_ (by first | omega | (simp; done) | (simp; omega)) _ | refine bl_drewN ?_ _ | refine Below.drew ?_ | (refine bl_tr ?_ (by assumption)))))) (I2.out.below (by (repeat (with_reducible first | exact Below.refl _ _ | (refine bl_set ?_ (by first | omega | (simp; done) | (simp; omega)) _) | refine bl_gr ?_ _ | refine bl_al ?_ _ | refine below_setRow ?_ (by first | omega | (simp; done) | (simp; omega)) _ | refine bl_drewN ?_ _ | refine Below.drew ?_ | (refine bl_tr ?_ (by assumption)))))))).mono ?_; rintro e w' ⟨pp, rfl, rfl⟩)
  refine wp_world (fun X => Below W.heap.size W X) (by (repeat (with_reducible first | exact Below.refl _ _ | (refine bl_set ?_ (by first | omega | (simp; done) | (simp; omega)) _) | refine bl_gr ?_ _ | refine bl_al ?_ _ | refine below_setRow ?_ (by first | omega | (simp; done) | (simp; omega)) _ | refine bl_drewN ?_ _ | refine Below.drew ?_ | (refine bl_tr ?_ (by assumption))))) ?_
  intro X hX
  have X4 := Lib.hid (KK.out X hX)
  have XB := Lib.hid (bl_tr BW.out hX)
  have lX := hX.size
  clear hX a0 a1 a2 a3 a4 a5
  obtain ⟨⟨x0, x1, x2, x3, x4, x5⟩, y0, y1, y2, y3, y4, y5⟩ := cells6 X4.out
  go_wp2_with fail
  refine wp_post (fun Y => Y.heap[w.heap.size + 1 + 1 + 1]? = some (cellO 0 0 0 0 (.slice none 0 0) (.slice none 0 0)) ∧ Touch (fun b => b = w.heap.size + 1 + 1 + 1) X Y ∧ Below w.heap.size w Y) (put6 XB.out (by omega) X4.out) ?_
  rintro Y ⟨z0, _, zb⟩
  have ZB := Lib.hid zb
  clear x0 x1 x2 x3 x4 x5 y0 y1 y2 y3 y4 y5 zb
  obtain ⟨⟨b0, b1, b2, b3, b4, b5⟩, _⟩ := cells6 z0
  refine bodyPost_ret (v := .tuple #[cellV 0 0 0 0 (.slice none 0 0) (.slice none 0 0), .int .i64 51]) (by clear z0; simp [results, Try.results17, go_sem, *]) rfl (retP_zero ZB.out)
set_option maxRecDepth 100000 in
set_option maxHeartbeats 8000000 in
theorem rset_arg (sv mv : Value) (c : CellD) (key v : Val) (hc : c.ok) (hk : key.ok) (hv : v.ok) (w : World) (h1 : IsV w sv c.sl) (h2 : IsV w mv c.mo) (hb : isW c = true) (ho : okSet key v = false) :
    Calls Try.prog 17 #[cellV c.k c.sh c.fl c.ag sv mv, key.agg, v.agg] w (RetP w zeroC (.int .i64 1)) := by
  obtain ⟨A0, n0, rfl, _, _⟩ := h1.form
  obtain ⟨A2, n2, rfl, _, _⟩ := h2.form
  have H1 := Lib.hid h1
  have H2 := Lib.hid h2
  have IS := Lib.hid (fun W a b => by have := ris_any _ _ c hc W a b; rw [hb] at this; exact this : ∀ (W : World), IsV W (.slice A0 c.sl.length n0) c.sl → IsV W (.slice A2 c.mo.length n2) c.mo → Calls Try.prog 32 #[cellV c.k c.sh c.fl c.ag (.slice A0 c.sl.length n0) (.slice A2 c.mo.length n2)] W fun e w' => e = .returned (.bool true) ∧ Below W.heap.size W w')
  obtain ⟨ho', _⟩ | ⟨_, cs⟩ := okSet_cases key v
  · rw [ho] at ho'; cases ho'
  have MK := Lib.hid (fun W => rwmay_any key hk.2.2 W)
  have MV := Lib.hid (fun W => rwmay_any v hv.2.2 W)
  have CS := Lib.hid cs
  clear h1 h2 hc hb ho cs hk hv
  go_enter Try.func17, Try.ntmps17
  go_upto_region 1 with fail
  refine wp_world (fun W => W.heap[w.heap.size]? = some (cellO c.k c.sh c.fl c.ag (.slice A0 c.sl.length n0) (.slice A2 c.mo.length n2)) ∧ W.heap[w.heap.size + 1]? = some (valB key) ∧ W.heap[w.heap.size + 1 + 1]? = some (valB v) ∧ W.heap[w.heap.size + 1 + 1 + 1]? = some (cellO 0 0 0 0 (.slice none 0 0) (.slice none 0 0)) ∧ Below w.heap.size w W) (heap4c w _ _ _ _) ?_
  rintro W ⟨j1, j2, j3, j4, jb⟩
  have l0 : w.heap.size < W.heap.size := (Array.getElem?_eq_some_iff.1 j1).1
  have l1 : w.heap.size + 1 < W.heap.size := (Array.getElem?_eq_some_iff.1 j2).1
  have l2 : w.heap.size + 1 + 1 < W.heap.size := (Array.getElem?_eq_some_iff.1 j3).1
  have l3 : w.heap.size + 1 + 1 + 1 < W.heap.size := (Array.getElem?_eq_some_iff.1 j4).1
  have KK := Lib.hid (show ∀ X, Below W.heap.size W X → X.heap[w.heap.size + 1 + 1 + 1]? = some (cellO 0 0 0 0 (.slice none 0 0) (.slice none 0 0)) from fun X h => (h.block _ l3).trans j4)
  have BW := Lib.hid jb
  have I1 := Lib.hid (H1.out.below jb)
  have I2 := Lib.hid (H2.out.below jb)
  obtain ⟨⟨a0, a1, a2, a3, a4, a5⟩, _⟩ := cells6 j1
  obtain ⟨t0, t1, t2⟩ := cells3 j2
  obtain ⟨u0, u1, u2⟩ := cells3 j3
  clear j1 j2 j3 j4 jb H1 H2
  go_upto_region 3 with (go_at_call 32; refine (callGr (IS.out _ (I1.out.below (by (repeat (with_reducible first | exact Below.refl _ _ | (refine bl_set ?_ (by first | omega | (simp; done) | (simp; omega)) _) | refine bl_gr ?_ _ | refine bl_al ?_ _ | refine below_setRow ?_ (by first | omega | (simp; done) | (simp; omega)) _ | refine bl_drewN ?_ _ | refine Below.drew ?_ | (refine bl_tr ?_ (by assumption)))))) (I2.out.below (by (repeat (with_reducible first | exact Below.refl _ _ | (refine bl_set ?_ (by first | omega | (simp; done) | (simp; omega)) _) | refine bl_gr ?_ _ | refine bl_al ?_ _ | refine below_setRow ?_ (by first | omega | (simp; done) | (simp; omega)) _ | refine bl_drewN ?_ _ | refine Below.drew ?_ | (refine bl_tr ?_ (by assumption)))))))).mono ?_; rintro e w' ⟨pp, rfl, rfl⟩)
  rcases CS.out with e1 | ⟨e1, e2 | ⟨e2, e3 | ⟨e3, e4⟩⟩⟩
  · go_upto_region 4 with fail
    refine wp_world (fun X => Below W.heap.size W X) (by (repeat (with_reducible first | exact Below.refl _ _ | (refine bl_set ?_ (by first | omega | (simp; done) | (simp; omega)) _) | refine bl_gr ?_ _ | refine bl_al ?_ _ | refine below_setRow ?_ (by first | omega | (simp; done) | (simp; omega)) _ | refine bl_drewN ?_ _ | refine Below.drew ?_ | (refine bl_tr ?_ (by assumption))))) ?_
    intro X hX
    have X4 := Lib.hid (KK.out X hX)
    have XB := Lib.hid (bl_tr BW.out hX)
    have lX := hX.size
    clear hX a0 a1 a2 a3 a4 a5 t0 t1 t2 u0 u1 u2
    obtain ⟨⟨x0, x1, x2, x3, x4, x5⟩, y0, y1, y2, y3, y4, y5⟩ := cells6 X4.out
    go_wp2_with fail
    refine wp_post (fun Y => Y.heap[w.heap.size + 1 + 1 + 1]? = some (cellO 0 0 0 0 (.slice none 0 0) (.slice none 0 0)) ∧ Touch (fun b => b = w.heap.size + 1 + 1 + 1) X Y ∧ Below w.heap.size w Y) (put6 XB.out (by omega) X4.out) ?_
    rintro Y ⟨z0, _, zb⟩
    have ZB := Lib.hid zb
    clear x0 x1 x2 x3 x4 x5 y0 y1 y2 y3 y4 y5 zb
    obtain ⟨⟨b0, b1, b2, b3, b4, b5⟩, _⟩ := cells6 z0
    refine bodyPost_ret (v := .tuple #[cellV 0 0 0 0 (.slice none 0 0) (.slice none 0 0), .int .i64 1]) (by clear z0; simp [results, Try.results17, go_sem, *]) rfl (retP_zero ZB.out)
  · have K1 := Lib.hid (show ∀ W, Calls Try.prog 37 #[key.agg] W fun e w' => e = .returned (.bool false) ∧ Below W.heap.size W w' from fun W => by have := MK.out W; rw [e2] at this; exact this)
    go_upto_region 4 with (go_at_call_of 37 key.s; refine (callGr (K1.out _)).mono ?_; rintro e w' ⟨pp, rfl, rfl⟩)
    refine wp_world (fun X => Below W.heap.size W X) (by (repeat (with_reducible first | exact Below.refl _ _ | (refine bl_set ?_ (by first | omega | (simp; done) | (simp; omega)) _) | refine bl_gr ?_ _ | refine bl_al ?_ _ | refine below_setRow ?_ (by first | omega | (simp; done) | (simp; omega)) _ | refine bl_drewN ?_ _ | refine Below.drew ?_ | (refine bl_tr ?_ (by assumption))))) ?_
    intro X hX
    have X4 := Lib.hid (KK.out X hX)
    have XB := Lib.hid (bl_tr BW.out hX)
    have lX := hX.size
    clear hX a0 a1 a2 a3 a4 a5 t0 t1 t2 u0 u1 u2
    obtain ⟨⟨x0, x1, x2, x3, x4, x5⟩, y0, y1, y2, y3, y4, y5⟩ := cells6 X4.out
    go_wp2_with fail
    refine wp_post (fun Y => Y.heap[w.heap.size + 1 + 1 + 1]? = some (cellO 0 0 0 0 (.slice none 0 0) (.slice none 0 0)) ∧ Touch (fun b => b = w.heap.size + 1 + 1 + 1) X Y ∧ Below w.heap.size w Y) (put6 XB.out (by omega) X4.out) ?_
    rintro Y ⟨z0, _, zb⟩
    have ZB := Lib.hid zb
    clear x0 x1 x2 x3 x4 x5 y0 y1 y2 y3 y4 y5 zb
    obtain ⟨⟨b0, b1, b2, b3, b4, b5⟩, _⟩ := cells6 z0
    refine bodyPost_ret (v := .tuple #[cellV 0 0 0 0 (.slice none 0 0) (.slice none 0 0), .int .i64 1]) (by clear z0; simp [results, Try.results17, go_sem, *]) rfl (retP_zero ZB.out)
  · have K1 := Lib.hid (show ∀ W, Calls Try.prog 37 #[key.agg] W fun e w' => e = .returned (.bool true) ∧ Below W.heap.size W w' from fun W => by have := MK.out W; rw [e2] at this; exact this)
    have K2 := Lib.hid (show ∀ W, Calls Try.prog 37 #[v.agg] W fun e w' => e = .returned (.bool false) ∧ Below W.heap.size W w' from fun W => by have := MV.out W; rw [e3] at this; exact this)
    clear e2 e3
    go_upto_region 4 with (first | (go_at_call_of 37 key.s; refine (callGr (K1.out _)).mono ?_; rintro e w' ⟨pp, rfl, rfl⟩) | (go_at_call_of 37 v.s; refine (callGr (K2.out _)).mono ?_; rintro e w' ⟨pp, rfl, rfl⟩))
    refine wp_world (fun X => Below W.heap.size W X) (by (repeat (with_reducible first | exact Below.refl _ _ | (refine bl_set ?_ (by first | omega | (simp; done) | (simp; omega)) _) | refine bl_gr ?_ _ | refine bl_al ?_ _ | refine below_setRow ?_ (by first | omega | (simp; done) | (simp; omega)) _ | refine bl_drewN ?_ _ | refine Below.drew ?_ | (refine bl_tr ?_ (by assumption))))) ?_
    intro X hX
    have X4 := Lib.hid (KK.out X hX)
    have XB := Lib.hid (bl_tr BW.out hX)
    have lX := hX.size
    clear hX a0 a1 a2 a3 a4 a5 t0 t1 t2 u0 u1 u2
    obtain ⟨⟨x0, x1, x2, x3, x4, x5⟩, y0, y1, y2, y3, y4, y5⟩ := cells6 X4.out
    go_wp2_with fail
    refine wp_post (fun Y => Y.heap[w.heap.size + 1 + 1 + 1]? = some (cellO 0 0 0 0 (.slice none 0 0) (.slice none 0 0)) ∧ Touch (fun b => b = w.heap.size + 1 + 1 + 1) X Y ∧ Below w.heap.size w Y) (put6 XB.out (by omega) X4.out) ?_
    rintro Y ⟨z0, _, zb⟩
    have ZB := Lib.hid zb
    clear x0 x1 x2 x3 x4 x5 y0 y1 y2 y3 y4 y5 zb
    obtain ⟨⟨b0, b1, b2, b3, b4, b5⟩, _⟩ := cells6 z0
    refine bodyPost_ret (v := .tuple #[cellV 0 0 0 0 (.slice none 0 0) (.slice none 0 0), .int .i64 1]) (by clear z0; simp [results, Try.results17, go_sem, *]) rfl (retP_zero ZB.out)
  · have K1 := Lib.hid (show ∀ W, Calls Try.prog 37 #[key.agg] W fun e w' => e = .returned (.bool true) ∧ Below W.heap.size W w' from fun W => by have := MK.out W; rw [e2] at this; exact this)
    have K2 := Lib.hid (show ∀ W, Calls Try.prog 37 #[v.agg] W fun e w' => e = .returned (.bool true) ∧ Below W.heap.size W w' from fun W => by have := MV.out W; rw [e3] at this; exact this)
    clear e2 e3
    go_upto_region 4 with (first | (go_at_call_of 37 key.s; refine (callGr (K1.out _)).mono ?_; rintro e w' ⟨pp, rfl, rfl⟩) | (go_at_call_of 37 v.s; refine (callGr (K2.out _)).mono ?_; rintro e w' ⟨pp, rfl, rfl⟩))
    refine wp_world (fun X => Below W.heap.size W X) (by (repeat (with_reducible first | exact Below.refl _ _ | (refine bl_set ?_ (by first | omega | (simp; done) | (simp; omega)) _) | refine bl_gr ?_ _ | refine bl_al ?_ _ | refine below_setRow ?_ (by first | omega | (simp; done) | (simp; omega)) _ | refine bl_drewN ?_ _ | refine Below.drew ?_ | (refine bl_tr ?_ (by assumption))))) ?_
    intro X hX
    have X4 := Lib.hid (KK.out X hX)
    have XB := Lib.hid (bl_tr BW.out hX)
    have lX := hX.size
    clear hX a0 a1 a2 a3 a4 a5 t0 t1 t2 u0 u1 u2
    obtain ⟨⟨x0, x1, x2, x3, x4, x5⟩, y0, y1, y2, y3, y4, y5⟩ := cells6 X4.out
    go_wp2_with fail
    refine wp_post (fun Y => Y.heap[w.heap.size + 1 + 1 + 1]? = some (cellO 0 0 0 0 (.slice none 0 0) (.slice none 0 0)) ∧ Touch (fun b => b = w.heap.size + 1 + 1 + 1) X Y ∧ Below w.heap.size w Y) (put6 XB.out (by omega) X4.out) ?_
    rintro Y ⟨z0, _, zb⟩
    have ZB := Lib.hid zb
    clear x0 x1 x2 x3 x4 x5 y0 y1 y2 y3 y4 y5 zb
    obtain ⟨⟨b0, b1, b2, b3, b4, b5⟩, _⟩ := cells6 z0
    refine bodyPost_ret (v := .tuple #[cellV 0 0 0 0 (.slice none 0 0) (.slice none 0 0), .int .i64 1]) (by clear z0; simp [results, Try.results17, go_sem, *]) rfl (retP_zero ZB.out)
set_option maxRecDepth 100000 in
set_option maxHeartbeats 8000000 in
theorem rset_yes (sv mv : Value) (c : CellD) (key v : Val) (hc : c.ok) (hf : c.fit) (hml : c.mo.length ≤ 1000) (hk : key.ok) (hv : v.ok) (w : World) (h1 : IsV w sv c.sl) (h2 : IsV w mv c.mo) (hb : isW c = true) (ho : okSet key v = true) :
    Calls Try.prog 17 #[cellV c.k c.sh c.fl c.ag sv mv, key.agg, v.agg] w (RetP w ⟨c.k, c.sh, c.fl, c.ag, c.sl, setL key v c.mo⟩ (.int .i64 0)) := by
  obtain ⟨A0, n0, rfl, _, _⟩ := h1.form
  obtain ⟨A2, n2, rfl, _, _⟩ := h2.form
  have H1 := Lib.hid h1
  have H2 := Lib.hid h2
  have HF := Lib.hid hf
  obtain ⟨m, hm, hk8, hmx⟩ := isW_len hb
  clear hk8 hmx
  have HM := Lib.hid (show c.mo.length = 2 * m ∧ c.mo.length / 2 = m ∧ c.mo.length ≤ 1000 by omega)
  have IS := Lib.hid (fun W a b => by have := ris_any _ _ c hc W a b; rw [hb] at this; exact this : ∀ (W : World), IsV W (.slice A0 c.sl.length n0) c.sl → IsV W (.slice A2 c.mo.length n2) c.mo → Calls Try.prog 32 #[cellV c.k c.sh c.fl c.ag (.slice A0 c.sl.length n0) (.slice A2 c.mo.length n2)] W fun e w' => e = .returned (.bool true) ∧ Below W.heap.size W w')
  obtain ⟨_, e1, e2, e3, e4⟩ | ⟨ho', _⟩ := okSet_cases key v
  case inr => rw [ho] at ho'; cases ho'
  have PL := Lib.hid (fun W a b => place_any (.slice A0 c.sl.length n0) (.slice A2 c.mo.length n2) c key m HM.out.1 (by have := HM.out.2.2; omega) W a b)
  have K1 := Lib.hid (show ∀ W, Calls Try.prog 37 #[key.agg] W fun e w' => e = .returned (.bool true) ∧ Below W.heap.size W w' from fun W => by have := rwmay_any key hk.2.2 W; rw [e2] at this; exact this)
  have K2 := Lib.hid (show ∀ W, Calls Try.prog 37 #[v.agg] W fun e w' => e = .returned (.bool true) ∧ Below W.heap.size W w' from fun W => by have := rwmay_any v hv.2.2 W; rw [e3] at this; exact this)
  clear h1 h2 hc hb ho hk hv hf hm hml e2 e3
  go_enter Try.func17, Try.ntmps17
  go_upto_region 1 with fail
  refine wp_world (fun W => W.heap[w.heap.size]? = some (cellO c.k c.sh c.fl c.ag (.slice A0 c.sl.length n0) (.slice A2 c.mo.length n2)) ∧ W.heap[w.heap.size + 1]? = some (valB key) ∧ W.heap[w.heap.size + 1 + 1]? = some (valB v) ∧ W.heap[w.heap.size + 1 + 1 + 1]? = some (cellO 0 0 0 0 (.slice none 0 0) (.slice none 0 0)) ∧ Below w.heap.size w W) (heap4c w _ _ _ _) ?_
  rintro W ⟨j1, j2, j3, j4, jb⟩
  have l0 : w.heap.size < W.heap.size := (Array.getElem?_eq_some_iff.1 j1).1
  have l1 : w.heap.size + 1 < W.heap.size := (Array.getElem?_eq_some_iff.1 j2).1
  have l2 : w.heap.size + 1 + 1 < W.heap.size := (Array.getElem?_eq_some_iff.1 j3).1
  have l3 : w.heap.size + 1 + 1 + 1 < W.heap.size := (Array.getElem?_eq_some_iff.1 j4).1
  have KC := Lib.hid (show ∀ X, Below W.heap.size W X → X.heap[w.heap.size]? = some (cellO c.k c.sh c.fl c.ag (.slice A0 c.sl.length n0) (.slice A2 c.mo.length n2)) from fun X h => (h.block _ l0).trans j1)
  have KK := Lib.hid (show ∀ X, Below W.heap.size W X → X.heap[w.heap.size + 1]? = some (valB key) ∧ X.heap[w.heap.size + 1 + 1]? = some (valB v) ∧ X.heap[w.heap.size + 1 + 1 + 1]? = some (cellO 0 0 0 0 (.slice none 0 0) (.slice none 0 0)) from fun X h => ⟨(h.block _ l1).trans j2, (h.block _ l2).trans j3, (h.block _ l3).trans j4⟩)
  have BW := Lib.hid jb
  have I1 := Lib.hid (H1.out.below jb)
  have I2 := Lib.hid (H2.out.below jb)
  obtain ⟨⟨a0, a1, a2, a3, a4, a5⟩, _⟩ := cells6 j1
  obtain ⟨t0, t1, t2⟩ := cells3 j2
  obtain ⟨u0, u1, u2⟩ := cells3 j3
  clear j1 j2 j3 j4 jb H1 H2
  go_upto_region 6 with (first
    | (go_at_call 32; refine (callGr (IS.out _ (I1.out.below (by (repeat (with_reducible first | exact Below.refl _ _ | (refine bl_set ?_ (by first | omega | (simp; done) | (simp; omega)) _) | refine bl_gr ?_ _ | refine bl_al ?_ _ | refine below_setRow ?_ (by first | omega | (simp; done) | (simp; omega)) _ | refine bl_drewN ?_ _ | refine Below.drew ?_ | (refine bl_tr ?_ (by assumption)))))) (I2.out.below (by (repeat (with_reducible first | exact Below.refl _ _ | (refine bl_set ?_ (by first | omega | (simp; done) | (simp; omega)) _) | refine bl_gr ?_ _ | refine bl_al ?_ _ | refine below_setRow ?_ (by first | omega | (simp; done) | (simp; omega)) _ | refine bl_drewN ?_ _ | refine Below.drew ?_ | (refine bl_tr ?_ (by assumption)))))))).mono ?_; rintro e w' ⟨pp, rfl, rfl⟩)
    | (go_at_call_of 37 key.s; refine (callGr (K1.out _)).mono ?_; rintro e w' ⟨pp, rfl, rfl⟩)
    | (go_at_call_of 37 v.s; refine (callGr (K2.out _)).mono ?_; rintro e w' ⟨pp, rfl, rfl⟩)
    | (go_at_call 9; refine (rcopied_any _ _ c HF.out _ (I1.out.below (by (repeat (with_reducible first | exact Below.refl _ _ | (refine bl_set ?_ (by first | omega | (simp; done) | (simp; omega)) _) | refine bl_gr ?_ _ | refine bl_al ?_ _ | refine below_setRow ?_ (by first | omega | (simp; done) | (simp; omega)) _ | refine bl_drewN ?_ _ | refine Below.drew ?_ | (refine bl_tr ?_ (by assumption)))))) (I2.out.below (by (repeat (with_reducible first | exact Below.refl _ _ | (refine bl_set ?_ (by first | omega | (simp; done) | (simp; omega)) _) | refine bl_gr ?_ _ | refine bl_al ?_ _ | refine below_setRow ?_ (by first | omega | (simp; done) | (simp; omega)) _ | refine bl_drewN ?_ _ | refine Below.drew ?_ | (refine bl_tr ?_ (by assumption))))))).mono ?_; rintro e w3 ⟨A5, n5, A6, n6, rfl, o1, o2, od, hb⟩; have OO := Lib.hid (And.intro (ownsRow_low o1 (show W.heap.size ≤ _ by simp [gr_size])) (And.intro (ownsRow_low o2 (show W.heap.size ≤ _ by simp [gr_size])) (And.intro od (show Below W.heap.size W w3 from bl_tr (by (repeat (with_reducible first | exact Below.refl _ _ | (refine bl_set ?_ (by first | omega | (simp; done) | (simp; omega)) _) | refine bl_gr ?_ _ | refine bl_al ?_ _ | refine below_setRow ?_ (by first | omega | (simp; done) | (simp; omega)) _ | refine bl_drewN ?_ _ | refine Below.drew ?_ | (refine bl_tr ?_ (by assumption))))) hb)))); clear o1 o2 od hb))
  refine wp_world (fun X => X.heap[w3.heap.size]? = some (cellO c.k c.sh c.fl c.ag (.slice A5 c.sl.length n5) (.slice A6 c.mo.length n6)) ∧ Below w3.heap.size w3 X) ⟨heap_alloc_new _ _, bl_al (Below.refl _ _) _⟩ ?_
  rintro X ⟨z0, zb⟩
  have lO : w3.heap.size < X.heap.size := (Array.getElem?_eq_some_iff.1 z0).1
  have sO := OO.out.2.2.2.size
  have XX := Lib.hid (show (∀ Z, Below X.heap.size X Z → Z.heap[w3.heap.size]? = some (cellO c.k c.sh c.fl c.ag (.slice A5 c.sl.length n5) (.slice A6 c.mo.length n6)) ∧ OwnV Z W.heap.size (.slice A5 c.sl.length n5) c.sl ∧ OwnV Z W.heap.size (.slice A6 c.mo.length n6) c.mo ∧ Below W.heap.size W Z) ∧ (∀ g, Value.ownBlock (.slice A5 c.sl.length n5) = some g → g < w3.heap.size) ∧ (∀ g, Value.ownBlock (.slice A6 c.mo.length n6) = some g → g < w3.heap.size) ∧ (∀ b, Value.ownBlock (.slice A5 c.sl.length n5) = some b → Value.ownBlock (.slice A6 c.mo.length n6) ≠ some b) from
    ⟨fun Z hZ => ⟨(hZ.block _ lO).trans z0, ownsRow_below (ownsRow_below OO.out.1 zb) hZ, ownsRow_below (ownsRow_below OO.out.2.1 zb) hZ, bl_tr OO.out.2.2.2 (bl_tr zb hZ)⟩, fun g hg => (OO.out.1.lt _ hg).2, fun g hg => (OO.out.2.1.lt _ hg).2, OO.out.2.2.1⟩)
  clear z0 zb OO a0 a1 a2 a3 a4 a5 t0 t1 t2 u0 u1 u2
  clear e1 e4
  cases hg : getW key c.mo (List.finRange m) with
  | some x =>
    obtain ⟨q, hq⟩ : ∃ q, 2 * x.val = q := ⟨_, rfl⟩
    have HE := Lib.hid (show setL key v c.mo = c.mo.set (q + 1) v by rw [← hq]; exact setL_some (v := v) HM.out.2.1 hg)
    have HX := Lib.hid (show 2 * x.val = q ∧ x.val < m from ⟨hq, x.isLt⟩)
    have PX := Lib.hid (fun W a b => by have := PL.out W a b; rw [hg] at this; rw [← hq]; exact this : ∀ (W : World), IsV W (.slice A0 c.sl.length n0) c.sl → IsV W (.slice A2 c.mo.length n2) c.mo → Calls Try.prog 38 #[cellV c.k c.sh c.fl c.ag (.slice A0 c.sl.length n0) (.slice A2 c.mo.length n2), key.agg] W fun e w' => e = .returned (.int .i64 ((q : Nat) : Int)) ∧ Below W.heap.size W w')
    obtain ⟨a0, a1, a2, a3, a4, a5⟩ := (cells6 (KC.out X (XX.out.1 X (Below.refl _ _)).2.2.2)).1
    obtain ⟨t0, t1, t2⟩ := cells3 (KK.out X (XX.out.1 X (Below.refl _ _)).2.2.2).1
    have sW0 := (XX.out.1 X (Below.refl _ _)).2.2.2.size
    have lx0 : w.heap.size < X.heap.size := by omega
    have lx1 : w.heap.size + 1 < X.heap.size := by omega
    have OX := Lib.hid (XX.out.1 X (Below.refl _ _)).2.2.2
    clear hg PL hq
    go_upto_region 7 with (go_at_call 38; refine (callGr (PX.out _ (I1.out.below (by (repeat (with_reducible first | exact OX.out | exact Below.refl _ _ | refine bl_rapp ?_ | (refine bl_set ?_ (by first | omega | (simp; done) | (simp; omega)) _) | refine bl_gr ?_ _ | refine bl_al ?_ _ | refine bl_drewN ?_ _ | refine Below.drew ?_)))) (I2.out.below (by (repeat (with_reducible first | exact OX.out | exact Below.refl _ _ | refine bl_rapp ?_ | (refine bl_set ?_ (by first | omega | (simp; done) | (simp; omega)) _) | refine bl_gr ?_ _ | refine bl_al ?_ _ | refine bl_drewN ?_ _ | refine Below.drew ?_)))))).mono ?_; rintro e w' ⟨pp, rfl, rfl⟩)
    refine wp_world (fun wr => Below X.heap.size X wr) (by (repeat (with_reducible first  | exact Below.refl _ _ | refine bl_rapp ?_ | (refine bl_set ?_ (by first | omega | (simp; done) | (simp; omega)) _) | refine bl_gr ?_ _ | refine bl_al ?_ _ | refine bl_drewN ?_ _ | refine Below.drew ?_))) ?_
    intro wr hB
    clear a0 a1 a2 a3 a4 a5 t0 t1 t2
    obtain ⟨q1, q2, q3, q4⟩ := XX.out.1 wr hB
    obtain ⟨⟨p0, p1, p2, p3, p4, p5⟩, _⟩ := cells6 q1
    obtain ⟨k1, k2, k3⟩ := KK.out wr q4
    obtain ⟨u0, u1, u2⟩ := cells3 k2
    have hml := HM.out
    have sX := hB.size
    have hlt := HX.out
    obtain ⟨g, rfl⟩ := own_addr q3 (by omega)
    obtain ⟨_, z0, z1, z2⟩ := (OwnV.isV q3).v3 (q + 1) (by omega)
    have fz := own_free q3
    have INV := Lib.hid (And.intro q1 (And.intro q2 (And.intro q3 (And.intro q4 (And.intro k3 hB)))))
    clear q1 q2 q3 q4 k1 k2 k3
    simp only [Nat.zero_add] at z0 z1 z2
    generalize hL : c.mo.length = L at *
    have g0 : (0 : Int) ≤ (q : Int) := by omega
    have g1 : ¬ (q : Int) < 0 := by omega
    have g2 : (q : Int) < L := by omega
    have g3 : (q : Int) + 1 < L := by omega
    have g6 : q ≤ 1000 := by omega
    have HQ := Lib.hid (And.intro hL hlt.1)
    clear hL hml hB hlt
    go_upto_region 9 with fail
    refine wp_world (fun Y => OwnV Y W.heap.size (.slice (some ⟨g, 0, none⟩) L n6) (c.mo.set (q + 1) v) ∧ Touch (fun b => b = g) wr Y) ⟨?_, ?_⟩ ?_
    · have := own_put (i := q + 1) (HQ.out.1.symm) (ownsRow_below INV.out.2.2.1 (Below.refl _ _)) (by have := HQ.out.1; omega) v
      exact this
    · exact (((Touch.refl (fun b => b = g) wr).set1 _ _).set1 _ _).set1 _ _
    rintro Y ⟨o9, T9⟩
    obtain ⟨q1, q2, q3, q4, k3, hB⟩ := INV.out
    have gO := XX.out.2.2.1 g rfl
    have hwg : w.heap.size ≤ g := by have := (q3.lt g rfl).1; omega
    have gR : g ≠ w.heap.size + 1 + 1 + 1 := fun e => by subst e; exact own_ne q3 rfl k3 (by decide) rfl
    have QO := Lib.hid ((T9.block _ (by omega) (by omega)).trans q1)
    have RB := Lib.hid ((T9.block _ (by omega) (Ne.symm gR)).trans k3)
    have F1 := Lib.hid (OwnV.isV (ownsRow_touch q2 T9 (fun b hb e => XX.out.2.2.2 b hb (by rw [e]; rfl))))
    have F2 := Lib.hid (show IsV Y (.slice (some ⟨g, 0, none⟩) L n6) (c.mo.set (q + 1) v) by have := OwnV.isV (w := Y) (lo := W.heap.size) o9; exact this)
    have BY := Lib.hid (show Below w.heap.size w Y from (bl_tr BW.out q4).trans (T9.below (bl_tr BW.out q4).size (fun b (hb : b = g) => hb ▸ hwg)))
    have lY := T9.size
    have lg9 := (q3.lt _ rfl).1
    clear q1 q2 q3 q4 k3 hB o9 T9 p0 p1 p2 p3 p4 p5 u0 u1 u2 z0 z1 z2 fz
    obtain ⟨⟨d0, d1, d2, d3, d4, d5⟩, _⟩ := cells6 QO.out
    obtain ⟨⟨x0, x1, x2, x3, x4, x5⟩, y0, y1, y2, y3, y4, y5⟩ := cells6 RB.out
    go_wp2
    refine wp_post (fun Y2 => Y2.heap[w.heap.size + 1 + 1 + 1]? = some (cellO c.k c.sh c.fl c.ag (.slice A5 c.sl.length n5) (.slice (some ⟨g, 0, none⟩) L n6)) ∧ Touch (fun b => b = w.heap.size + 1 + 1 + 1) Y Y2 ∧ Below w.heap.size w Y2) (put6 BY.out (by omega) RB.out) ?_
    rintro Y2 ⟨r1, rt, rb⟩
    have f1 := setI F1.out RB.out rt
    have f2 := setI F2.out RB.out rt
    have FF := Lib.hid (And.intro f1 (And.intro f2 rb))
    clear f1 f2 rb rt d0 d1 d2 d3 d4 d5 x0 x1 x2 x3 x4 x5 y0 y1 y2 y3 y4 y5
    obtain ⟨⟨b0, b1, b2, b3, b4, b5⟩, _⟩ := cells6 r1
    refine bodyPost_ret (v := .tuple #[cellV c.k c.sh c.fl c.ag (.slice A5 c.sl.length n5) (.slice (some ⟨g, 0, none⟩) L n6), .int .i64 0]) (by clear r1; simp [results, Try.results17, go_sem, *]) rfl ?_
    have hs : setL key v c.mo = c.mo.set (q + 1) v := HE.out
    rw [hs]
    exact ⟨_, _, _, _, by rw [List.length_set, HQ.out.1], FF.out.1, by rw [List.length_set, HQ.out.1]; exact FF.out.2.1, FF.out.2.2⟩
  | none =>
    have HE := Lib.hid hg
    have PX := Lib.hid (fun W a b => by have := PL.out W a b; rw [hg] at this; exact this : ∀ (W : World), IsV W (.slice A0 c.sl.length n0) c.sl → IsV W (.slice A2 c.mo.length n2) c.mo → Calls Try.prog 38 #[cellV c.k c.sh c.fl c.ag (.slice A0 c.sl.length n0) (.slice A2 c.mo.length n2), key.agg] W fun e w' => e = .returned (.int .i64 (-1)) ∧ Below W.heap.size W w')
    obtain ⟨a0, a1, a2, a3, a4, a5⟩ := (cells6 (KC.out X (XX.out.1 X (Below.refl _ _)).2.2.2)).1
    obtain ⟨t0, t1, t2⟩ := cells3 (KK.out X (XX.out.1 X (Below.refl _ _)).2.2.2).1
    have sW0 := (XX.out.1 X (Below.refl _ _)).2.2.2.size
    have lx0 : w.heap.size < X.heap.size := by omega
    have lx1 : w.heap.size + 1 < X.heap.size := by omega
    have OX := Lib.hid (XX.out.1 X (Below.refl _ _)).2.2.2
    clear hg PL
    go_upto_region 7 with (go_at_call 38; refine (callGr (PX.out _ (I1.out.below (by (repeat (with_reducible first | exact OX.out | exact Below.refl _ _ | refine bl_rapp ?_ | (refine bl_set ?_ (by first | omega | (simp; done) | (simp; omega)) _) | refine bl_gr ?_ _ | refine bl_al ?_ _ | refine bl_drewN ?_ _ | refine Below.drew ?_)))) (I2.out.below (by (repeat (with_reducible first | exact OX.out | exact Below.refl _ _ | refine bl_rapp ?_ | (refine bl_set ?_ (by first | omega | (simp; done) | (simp; omega)) _) | refine bl_gr ?_ _ | refine bl_al ?_ _ | refine bl_drewN ?_ _ | refine Below.drew ?_)))))).mono ?_; rintro e w' ⟨pp, rfl, rfl⟩)
    refine wp_world (fun wr => Below X.heap.size X wr) (by (repeat (with_reducible first  | exact Below.refl _ _ | refine bl_rapp ?_ | (refine bl_set ?_ (by first | omega | (simp; done) | (simp; omega)) _) | refine bl_gr ?_ _ | refine bl_al ?_ _ | refine bl_drewN ?_ _ | refine Below.drew ?_))) ?_
    intro wr hB
    clear a0 a1 a2 a3 a4 a5 t0 t1 t2
    obtain ⟨q1, q2, q3, q4⟩ := XX.out.1 wr hB
    obtain ⟨⟨p0, p1, p2, p3, p4, p5⟩, f0, f1, f2, f3, f4, f5⟩ := cells6 q1
    obtain ⟨⟨c0, c1, c2, c3, c4, c5⟩, _⟩ := cells6 (KC.out wr q4)
    obtain ⟨k1, k2, k3⟩ := KK.out wr q4
    obtain ⟨t0, t1, t2⟩ := cells3 k1
    obtain ⟨u0, u1, u2⟩ := cells3 k2
    have hml := HM.out
    have sX := hB.size
    have INV := Lib.hid (And.intro q1 (And.intro q2 (And.intro q3 (And.intro q4 (And.intro k3 hB)))))
    have hfull : decide ((1048576 : Int) < (c.mo.length : Int) + 2) = false := decide_eq_false (by omega)
    have hfull2 : ¬ (1048576 : Int) < (c.mo.length : Int) + 2 := by omega
    have fB := Lib.hid (show fitV (c.mo ++ [key, v]) by unfold fitV; rw [List.length_append]; simp; omega)
    have lW := q4.size
    have lw3 : w3.heap.size < wr.heap.size := by omega
    clear q1 q2 q3 q4 k1 k2 k3 hB hml
    go_upto_region 13 with (at_builtin; refine wpList_appW rfl W.heap.size _ _ rfl c.mo [key, v] rfl rfl ?_ (INV.out.2.2.1.alloc _) (lit_valsB (l := [key, v]) (k := 2) rfl rfl rfl (by omega)) fB.out ?_; (next => (rw [World.size_alloc]; omega)); intro A9 n9 w9 o9 t9; have T9 : Touch (fun g => Value.ownBlock (.slice A6 c.mo.length n6) = some g) wr w9 := ((Touch.refl _ wr).alloc _).trans t9 (fun _ _ h => h); have y9 := (T9.block _ lw3 (fun e => by have := XX.out.2.2.1 _ e; omega)).trans INV.out.1; obtain ⟨_, x0, x1, x2, x3, x4, x5⟩ := cells6 y9; have R := Lib.hid (And.intro o9 (And.intro T9 y9)); clear o9 t9 T9 y9)
    refine wp_world (fun Y => Y.heap[w3.heap.size]? = some (cellO c.k c.sh c.fl c.ag (.slice A5 c.sl.length n5) (.slice A9 (c.mo.length + 2) n9)) ∧ Touch (fun b => b = w3.heap.size) w9 Y) ⟨?_, ?_⟩ ?_
    · have := heap_setCell_same w9 w3.heap.size 5 _ _ (.slice A9 (c.mo.length + 2) n9) R.out.2.2
      simpa using this
    · exact (Touch.refl (fun b => b = w3.heap.size) w9).set1 _ _
    rintro Y ⟨k9, TY⟩
    obtain ⟨q1, q2, q3, q4, k3, hB⟩ := INV.out
    obtain ⟨o9, t9, y9⟩ := R.out
    have TT : Touch (fun b => Value.ownBlock (.slice A6 c.mo.length n6) = some b ∨ b = w3.heap.size) wr Y := (t9.mono (fun _ _ h => .inl h)).trans TY (fun _ _ h => .inr h)
    have nR : ∀ b, Value.ownBlock (.slice A6 c.mo.length n6) = some b ∨ b = w3.heap.size → b ≠ w.heap.size + 1 + 1 + 1 := fun b h => by
      rcases h with h | h
      · exact own_ne q3 h k3 (by decide)
      · omega
    have QO := Lib.hid k9
    have RB := Lib.hid ((TT.block _ (by omega) (fun h => nR _ h rfl)).trans k3)
    have F1 := Lib.hid (OwnV.isV (ownsRow_touch q2 TT (fun b hb e => by
      rcases e with e | e
      · exact XX.out.2.2.2 b hb e
      · have := XX.out.2.1 b hb; omega)))
    have F2 := Lib.hid (show IsV Y (.slice A9 (c.mo.length + 2) n9) (c.mo ++ [key, v]) by have := (OwnV.isV (ownsRow_touch o9 TY (fun b hb (e : b = w3.heap.size) => own_ne o9 hb y9 (by decide) e))); simpa using this)
    have BY := Lib.hid (show Below w.heap.size w Y from (bl_tr BW.out q4).trans (TT.below (bl_tr BW.out q4).size (fun b h => by
      rcases h with h | h
      · have := (q3.lt _ h).1; omega
      · rw [h]; omega)))
    have lY := TT.size
    clear c0 c1 c2 c3 c4 c5 q1 q2 q3 q4 k3 hB o9 t9 y9 TY TT k9 R p0 p1 p2 p3 p4 p5 t0 t1 t2 u0 u1 u2 x0 x1 x2 x3 x4 x5 f0 f1 f2 f3 f4 f5 nR
    obtain ⟨⟨d0, d1, d2, d3, d4, d5⟩, _⟩ := cells6 QO.out
    obtain ⟨⟨x0, x1, x2, x3, x4, x5⟩, y0, y1, y2, y3, y4, y5⟩ := cells6 RB.out
    go_wp2
    refine wp_post (fun Y2 => Y2.heap[w.heap.size + 1 + 1 + 1]? = some (cellO c.k c.sh c.fl c.ag (.slice A5 c.sl.length n5) (.slice A9 (c.mo.length + 2) n9)) ∧ Touch (fun b => b = w.heap.size + 1 + 1 + 1) Y Y2 ∧ Below w.heap.size w Y2) (put6 BY.out (by omega) RB.out) ?_
    rintro Y2 ⟨r1, rt, rb⟩
    have f1 := setI F1.out RB.out rt
    have f2 := setI F2.out RB.out rt
    have FF := Lib.hid (And.intro f1 (And.intro f2 rb))
    clear f1 f2 rb rt d0 d1 d2 d3 d4 d5 x0 x1 x2 x3 x4 x5 y0 y1 y2 y3 y4 y5
    obtain ⟨⟨b0, b1, b2, b3, b4, b5⟩, _⟩ := cells6 r1
    refine bodyPost_ret (v := .tuple #[cellV c.k c.sh c.fl c.ag (.slice A5 c.sl.length n5) (.slice A9 (c.mo.length + 2) n9), .int .i64 0]) (by clear r1; simp [results, Try.results17, go_sem, *]) rfl ?_
    rw [setL_none (v := v) HM.out.2.1 HE.out]
    exact ⟨_, _, _, _, by rw [List.length_append]; rfl, FF.out.1, by rw [List.length_append]; exact FF.out.2.1, FF.out.2.2⟩
theorem rset_any (sv mv : Value) (c : CellD) (key v : Val) (hc : c.ok) (hf : c.fit) (hml : c.mo.length ≤ 1000) (hk : key.ok) (hv : v.ok) (w : World) (h1 : IsV w sv c.sl) (h2 : IsV w mv c.mo) :
    Calls Try.prog 17 #[cellV c.k c.sh c.fl c.ag sv mv, key.agg, v.agg] w (RetP w (setC c key v) (.int .i64 (setE c key v))) := by
  cases hb : isW c
  · rw [show setC c key v = zeroC by simp [setC, hb], show setE c key v = 51 by simp [setE, hb]]
    exact rset_no sv mv c key v hc w h1 h2 hb
  · cases ho : okSet key v
    · rw [show setC c key v = zeroC by simp [setC, ho], show setE c key v = 1 by simp [setE, hb, ho]]
      exact rset_arg sv mv c key v hc hk hv w h1 h2 hb ho
    · rw [show setC c key v = ⟨c.k, c.sh, c.fl, c.ag, c.sl, setL key v c.mo⟩ by simp [setC, hb, ho], show setE c key v = 0 by simp [setE, hb, ho]]
      exact rset_yes sv mv c key v hc hf hml hk hv w h1 h2 hb ho
end Go.Proofs.Ytdikdkllbhanfaa
