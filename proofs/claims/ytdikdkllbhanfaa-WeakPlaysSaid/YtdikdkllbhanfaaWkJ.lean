/- Weak maps: Set, by the program. -/
import Derived.Test.YtdikdkllbhanfaaWkI
namespace Go.Proofs.Ytdikdkllbhanfaa
set_option linter.all false
open Go.RowKit Go.Sort Go.Deep Go.Shelf

def okSet (key v : Val) : Bool := key.k == 7 && (mayB key && (mayB v && !(v.k == 8)))
/-- the map with an entry replaced or added -/
def setL (key v : Val) (mo : List Val) : List Val := match getW key mo (List.finRange (mo.length / 2)) with | some x => mo.set (2 * x.val + 1) v | none => mo ++ [key, v]
def setC (c : CellD) (key v : Val) : CellD := if isW c && okSet key v then ⟨c.k, c.sh, c.fl, c.ag, c.sl, setL key v c.mo⟩ else zeroC
def setE (c : CellD) (key v : Val) : Int := if isW c then (if okSet key v then 0 else 1) else 51
theorem heap4c (w : World) (a b c d : Obj) : ((((w.alloc a).alloc b).alloc c).alloc d).heap[w.heap.size]? = some a ∧ ((((w.alloc a).alloc b).alloc c).alloc d).heap[w.heap.size + 1]? = some b ∧ ((((w.alloc a).alloc b).alloc c).alloc d).heap[w.heap.size + 1 + 1]? = some c ∧
    ((((w.alloc a).alloc b).alloc c).alloc d).heap[w.heap.size + 1 + 1 + 1]? = some d ∧ Below w.heap.size w ((((w.alloc a).alloc b).alloc c).alloc d) := heap4w w a b c d
/-- the refusals of Set, in their order -/
theorem okSet_cases (key v : Val) : okSet key v = true ∧ (key.k != 7) = false ∧ mayB key = true ∧ mayB v = true ∧ (v.k == 8) = false ∨
    okSet key v = false ∧ ((key.k != 7) = true ∨ (key.k != 7) = false ∧ (mayB key = false ∨ mayB key = true ∧ (mayB v = false ∨ mayB v = true ∧ (v.k == 8) = true))) := by
  unfold okSet
  cases h : key.k == 7 <;> cases mayB key <;> cases mayB v <;> cases v.k == 8 <;> simp_all [bne]

set_option maxRecDepth 100000 in
set_option maxHeartbeats 8000000 in
theorem set_no (sv mv : Value) (c : CellD) (key v : Val) (hc : c.ok) (w : World) (h1 : IsV w sv c.sl) (h2 : IsV w mv c.mo) (hb : isW c = false) :
    Calls Try.prog 16 #[cellV c.k c.sh c.fl c.ag sv mv, key.agg, v.agg] w (RetP w zeroC (.int .i64 51)) := by
  obtain ⟨A0, n0, rfl, _, _⟩ := h1.form
  obtain ⟨A2, n2, rfl, _, _⟩ := h2.form
  have H1 := Lib.hid h1
  have H2 := Lib.hid h2
  have IS := Lib.hid (fun W a b => by have := is_any _ _ c hc W a b; rw [hb] at this; exact this : ∀ (W : World), IsV W (.slice A0 c.sl.length n0) c.sl → IsV W (.slice A2 c.mo.length n2) c.mo → Calls Try.prog 26 #[cellV c.k c.sh c.fl c.ag (.slice A0 c.sl.length n0) (.slice A2 c.mo.length n2)] W fun e w' => e = .returned (.bool false) ∧ Below W.heap.size W w')
  clear h1 h2 hc hb
  go_enter Try.func16, Try.ntmps16
  go_upto_region 1 with fail
  refine wp_world (fun W => W.heap[w.heap.size]? = some (cellO c.k c.sh c.fl c.ag (.slice A0 c.sl.length n0) (.slice A2 c.mo.length n2)) ∧ W.heap[w.heap.size + 1]? = some (valB key) ∧ W.heap[w.heap.size + 1 + 1]? = some (valB v) ∧ W.heap[w.heap.size + 1 + 1 + 1]? = some (cellO 0 0 0 0 (.slice none 0 0) (.slice none 0 0)) ∧ Below w.heap.size w W) (heap4c w _ _ _ _) ?_
  rintro W ⟨j1, j2, j3, j4, jb⟩
  have l0 : w.heap.size < W.heap.size := (Array.getElem?_eq_some_iff.1 j1).1
  have l3 : w.heap.size + 1 + 1 + 1 < W.heap.size := (Array.getElem?_eq_some_iff.1 j4).1
  have KK := Lib.hid (show ∀ X, Below W.heap.size W X → X.heap[w.heap.size + 1 + 1 + 1]? = some (cellO 0 0 0 0 (.slice none 0 0) (.slice none 0 0)) from fun X h => (h.block _ l3).trans j4)
  have BW := Lib.hid jb
  have I1 := Lib.hid (H1.out.below jb)
  have I2 := Lib.hid (H2.out.below jb)
  obtain ⟨⟨a0, a1, a2, a3, a4, a5⟩, _⟩ := cells6 j1
  clear j1 j2 j3 j4 jb H1 H2
  go_upto_region 2 with (go_at_call 26; refine (callGr (IS.out _ (I1.out.below (by (repeat (with_reducible first | exact Below.refl _ _ | (refine bl_set ?_ (by first | omega | (simp; done) | (simp; omega)) _) | refine bl_gr ?_ _ | refine bl_al ?_ _ | refine below_setRow ?_ (by first | omega | (simp; done) | (simp; omega)) _ | refine bl_drewN ?_ _ | refine Below.drew ?_ | (refine bl_tr ?_ (by assumption)))))) (I2.out.below (by (repeat (with_reducible first | exact Below.refl _ _ | (refine bl_set ?_ (by first | omega | (simp; done) | (simp; omega)) _) | refine bl_gr ?_ _ | refine bl_al ?_ _ | refine below_setRow ?_ (by first | omega | (simp; done) | (simp; omega)) _ | refine bl_drewN ?_ _ | refine Below.drew ?_ | (refine bl_tr ?_ (by assumption)))))))).mono ?_; rintro e w' ⟨pp, rfl, rfl⟩)
  refine wp_world (fun X => Below W.heap.size W X) (by (repeat (with_reducible first | exact Below.refl _ _ | (refine bl_set ?_ (by first | omega | (simp; done) | (simp; omega)) _) | refine bl_gr ?_ _ | refine bl_al ?_ _ | refine below_setRow ?_ (by first | omega | (simp; done) | (simp; omega)) _ | refine bl_drewN ?_ _ | refine Below.drew ?_ | (refine bl_tr ?_ (by assumption))))) ?_
  intro X hX
  have X4 := Lib.hid (KK.out X hX)
  have XB := Lib.hid (bl_tr BW.out hX)
  have lX := hX.size
  clear hX a0 a1 a2 a3 a4 a5
  obtain ⟨⟨x0, x1, x2, x3, x4, x5⟩, y0, y1, y2, y3, y4, y5⟩ := cells6 X4.out
  go_wp2_with fail
  refine wp_post (fun Y => Y.heap[w.heap.size + 1 + 1 + 1]? = some (cellO 0 0 0 0 (.slice none 0 0) (.slice none 0 0)) ∧ Touch (fun b => b = w.heap.size + 1 + 1 + 1) X Y ∧ Below w.heap.size w Y) (put6 XB.out (by omega) X4.out) ?_
  rintro Y ⟨z0, _, zb⟩
  have ZB := Lib.hid zb
  clear x0 x1 x2 x3 x4 x5 y0 y1 y2 y3 y4 y5 zb
  obtain ⟨⟨b0, b1, b2, b3, b4, b5⟩, _⟩ := cells6 z0
  refine bodyPost_ret (v := .tuple #[cellV 0 0 0 0 (.slice none 0 0) (.slice none 0 0), .int .i64 51]) (by clear z0; simp [results, Try.results16, go_sem, *]) rfl (retP_zero ZB.out)
set_option maxRecDepth 100000 in
set_option maxHeartbeats 8000000 in
theorem set_arg (sv mv : Value) (c : CellD) (key v : Val) (hc : c.ok) (hk : key.ok) (hv : v.ok) (w : World) (h1 : IsV w sv c.sl) (h2 : IsV w mv c.mo) (hb : isW c = true) (ho : okSet key v = false) :
    Calls Try.prog 16 #[cellV c.k c.sh c.fl c.ag sv mv, key.agg, v.agg] w (RetP w zeroC (.int .i64 1)) := by
  obtain ⟨A0, n0, rfl, _, _⟩ := h1.form
  obtain ⟨A2, n2, rfl, _, _⟩ := h2.form
  have H1 := Lib.hid h1
  have H2 := Lib.hid h2
  have IS := Lib.hid (fun W a b => by have := is_any _ _ c hc W a b; rw [hb] at this; exact this : ∀ (W : World), IsV W (.slice A0 c.sl.length n0) c.sl → IsV W (.slice A2 c.mo.length n2) c.mo → Calls Try.prog 26 #[cellV c.k c.sh c.fl c.ag (.slice A0 c.sl.length n0) (.slice A2 c.mo.length n2)] W fun e w' => e = .returned (.bool true) ∧ Below W.heap.size W w')
  obtain ⟨ho', _⟩ | ⟨_, cs⟩ := okSet_cases key v
  · rw [ho] at ho'; cases ho'
  have MK := Lib.hid (fun W => wmay_any key hk W)
  have MV := Lib.hid (fun W => wmay_any v hv W)
  have CS := Lib.hid cs
  clear h1 h2 hc hb ho cs hk hv
  go_enter Try.func16, Try.ntmps16
  go_upto_region 1 with fail
  refine wp_world (fun W => W.heap[w.heap.size]? = some (cellO c.k c.sh c.fl c.ag (.slice A0 c.sl.length n0) (.slice A2 c.mo.length n2)) ∧ W.heap[w.heap.size + 1]? = some (valB key) ∧ W.heap[w.heap.size + 1 + 1]? = some (valB v) ∧ W.heap[w.heap.size + 1 + 1 + 1]? = some (cellO 0 0 0 0 (.slice none 0 0) (.slice none 0 0)) ∧ Below w.heap.size w W) (heap4c w _ _ _ _) ?_
  rintro W ⟨j1, j2, j3, j4, jb⟩
  have l0 : w.heap.size < W.heap.size := (Array.getElem?_eq_some_iff.1 j1).1
  have l1 : w.heap.size + 1 < W.heap.size := (Array.getElem?_eq_some_iff.1 j2).1
  have l2 : w.heap.size + 1 + 1 < W.heap.size := (Array.getElem?_eq_some_iff.1 j3).1
  have l3 : w.heap.size + 1 + 1 + 1 < W.heap.size := (Array.getElem?_eq_some_iff.1 j4).1
  have KK := Lib.hid (show ∀ X, Below W.heap.size W X → X.heap[w.heap.size + 1 + 1 + 1]? = some (cellO 0 0 0 0 (.slice none 0 0) (.slice none 0 0)) from fun X h => (h.block _ l3).trans j4)
  have BW := Lib.hid jb
  have I1 := Lib.hid (H1.out.below jb)
  have I2 := Lib.hid (H2.out.below jb)
  obtain ⟨⟨a0, a1, a2, a3, a4, a5⟩, _⟩ := cells6 j1
  obtain ⟨t0, t1, t2⟩ := cells3 j2
  obtain ⟨u0, u1, u2⟩ := cells3 j3
  clear j1 j2 j3 j4 jb H1 H2
  go_upto_region 3 with (go_at_call 26; refine (callGr (IS.out _ (I1.out.below (by (repeat (with_reducible first | exact Below.refl _ _ | (refine bl_set ?_ (by first | omega | (simp; done) | (simp; omega)) _) | refine bl_gr ?_ _ | refine bl_al ?_ _ | refine below_setRow ?_ (by first | omega | (simp; done) | (simp; omega)) _ | refine bl_drewN ?_ _ | refine Below.drew ?_ | (refine bl_tr ?_ (by assumption)))))) (I2.out.below (by (repeat (with_reducible first | exact Below.refl _ _ | (refine bl_set ?_ (by first | omega | (simp; done) | (simp; omega)) _) | refine bl_gr ?_ _ | refine bl_al ?_ _ | refine below_setRow ?_ (by first | omega | (simp; done) | (simp; omega)) _ | refine bl_drewN ?_ _ | refine Below.drew ?_ | (refine bl_tr ?_ (by assumption)))))))).mono ?_; rintro e w' ⟨pp, rfl, rfl⟩)
  rcases CS.out with e1 | ⟨e1, e2 | ⟨e2, e3 | ⟨e3, e4⟩⟩⟩
  · go_upto_region 4 with fail
    refine wp_world (fun X => Below W.heap.size W X) (by (repeat (with_reducible first | exact Below.refl _ _ | (refine bl_set ?_ (by first | omega | (simp; done) | (simp; omega)) _) | refine bl_gr ?_ _ | refine bl_al ?_ _ | refine below_setRow ?_ (by first | omega | (simp; done) | (simp; omega)) _ | refine bl_drewN ?_ _ | refine Below.drew ?_ | (refine bl_tr ?_ (by assumption))))) ?_
    intro X hX
    have X4 := Lib.hid (KK.out X hX)
    have XB := Lib.hid (bl_tr BW.out hX)
    have lX := hX.size
    clear hX a0 a1 a2 a3 a4 a5 t0 t1 t2 u0 u1 u2
    obtain ⟨⟨x0, x1, x2, x3, x4, x5⟩, y0, y1, y2, y3, y4, y5⟩ := cells6 X4.out
    go_wp2_with fail
    refine wp_post (fun Y => Y.heap[w.heap.size + 1 + 1 + 1]? = some (cellO 0 0 0 0 (.slice none 0 0) (.slice none 0 0)) ∧ Touch (fun b => b = w.heap.size + 1 + 1 + 1) X Y ∧ Below w.heap.size w Y) (put6 XB.out (by omega) X4.out) ?_
    rintro Y ⟨z0, _, zb⟩
    have ZB := Lib.hid zb
    clear x0 x1 x2 x3 x4 x5 y0 y1 y2 y3 y4 y5 zb
    obtain ⟨⟨b0, b1, b2, b3, b4, b5⟩, _⟩ := cells6 z0
    refine bodyPost_ret (v := .tuple #[cellV 0 0 0 0 (.slice none 0 0) (.slice none 0 0), .int .i64 1]) (by clear z0; simp [results, Try.results16, go_sem, *]) rfl (retP_zero ZB.out)
  · have K1 := Lib.hid (show ∀ W, Calls Try.prog 35 #[key.agg] W fun e w' => e = .returned (.bool false) ∧ Below W.heap.size W w' from fun W => by have := MK.out W; rw [e2] at this; exact this)
    go_upto_region 4 with (go_at_call_of 35 key.s; refine (callGr (K1.out _)).mono ?_; rintro e w' ⟨pp, rfl, rfl⟩)
    refine wp_world (fun X => Below W.heap.size W X) (by (repeat (with_reducible first | exact Below.refl _ _ | (refine bl_set ?_ (by first | omega | (simp; done) | (simp; omega)) _) | refine bl_gr ?_ _ | refine bl_al ?_ _ | refine below_setRow ?_ (by first | omega | (simp; done) | (simp; omega)) _ | refine bl_drewN ?_ _ | refine Below.drew ?_ | (refine bl_tr ?_ (by assumption))))) ?_
    intro X hX
    have X4 := Lib.hid (KK.out X hX)
    have XB := Lib.hid (bl_tr BW.out hX)
    have lX := hX.size
    clear hX a0 a1 a2 a3 a4 a5 t0 t1 t2 u0 u1 u2
    obtain ⟨⟨x0, x1, x2, x3, x4, x5⟩, y0, y1, y2, y3, y4, y5⟩ := cells6 X4.out
    go_wp2_with fail
    refine wp_post (fun Y => Y.heap[w.heap.size + 1 + 1 + 1]? = some (cellO 0 0 0 0 (.slice none 0 0) (.slice none 0 0)) ∧ Touch (fun b => b = w.heap.size + 1 + 1 + 1) X Y ∧ Below w.heap.size w Y) (put6 XB.out (by omega) X4.out) ?_
    rintro Y ⟨z0, _, zb⟩
    have ZB := Lib.hid zb
    clear x0 x1 x2 x3 x4 x5 y0 y1 y2 y3 y4 y5 zb
    obtain ⟨⟨b0, b1, b2, b3, b4, b5⟩, _⟩ := cells6 z0
    refine bodyPost_ret (v := .tuple #[cellV 0 0 0 0 (.slice none 0 0) (.slice none 0 0), .int .i64 1]) (by clear z0; simp [results, Try.results16, go_sem, *]) rfl (retP_zero ZB.out)
  · have K1 := Lib.hid (show ∀ W, Calls Try.prog 35 #[key.agg] W fun e w' => e = .returned (.bool true) ∧ Below W.heap.size W w' from fun W => by have := MK.out W; rw [e2] at this; exact this)
    have K2 := Lib.hid (show ∀ W, Calls Try.prog 35 #[v.agg] W fun e w' => e = .returned (.bool false) ∧ Below W.heap.size W w' from fun W => by have := MV.out W; rw [e3] at this; exact this)
    clear e2 e3
    go_upto_region 4 with (first | (go_at_call_of 35 key.s; refine (callGr (K1.out _)).mono ?_; rintro e w' ⟨pp, rfl, rfl⟩) | (go_at_call_of 35 v.s; refine (callGr (K2.out _)).mono ?_; rintro e w' ⟨pp, rfl, rfl⟩))
    refine wp_world (fun X => Below W.heap.size W X) (by (repeat (with_reducible first | exact Below.refl _ _ | (refine bl_set ?_ (by first | omega | (simp; done) | (simp; omega)) _) | refine bl_gr ?_ _ | refine bl_al ?_ _ | refine below_setRow ?_ (by first | omega | (simp; done) | (simp; omega)) _ | refine bl_drewN ?_ _ | refine Below.drew ?_ | (refine bl_tr ?_ (by assumption))))) ?_
    intro X hX
    have X4 := Lib.hid (KK.out X hX)
    have XB := Lib.hid (bl_tr BW.out hX)
    have lX := hX.size
    clear hX a0 a1 a2 a3 a4 a5 t0 t1 t2 u0 u1 u2
    obtain ⟨⟨x0, x1, x2, x3, x4, x5⟩, y0, y1, y2, y3, y4, y5⟩ := cells6 X4.out
    go_wp2_with fail
    refine wp_post (fun Y => Y.heap[w.heap.size + 1 + 1 + 1]? = some (cellO 0 0 0 0 (.slice none 0 0) (.slice none 0 0)) ∧ Touch (fun b => b = w.heap.size + 1 + 1 + 1) X Y ∧ Below w.heap.size w Y) (put6 XB.out (by omega) X4.out) ?_
    rintro Y ⟨z0, _, zb⟩
    have ZB := Lib.hid zb
    clear x0 x1 x2 x3 x4 x5 y0 y1 y2 y3 y4 y5 zb
    obtain ⟨⟨b0, b1, b2, b3, b4, b5⟩, _⟩ := cells6 z0
    refine bodyPost_ret (v := .tuple #[cellV 0 0 0 0 (.slice none 0 0) (.slice none 0 0), .int .i64 1]) (by clear z0; simp [results, Try.results16, go_sem, *]) rfl (retP_zero ZB.out)
  · have K1 := Lib.hid (show ∀ W, Calls Try.prog 35 #[key.agg] W fun e w' => e = .returned (.bool true) ∧ Below W.heap.size W w' from fun W => by have := MK.out W; rw [e2] at this; exact this)
    have K2 := Lib.hid (show ∀ W, Calls Try.prog 35 #[v.agg] W fun e w' => e = .returned (.bool true) ∧ Below W.heap.size W w' from fun W => by have := MV.out W; rw [e3] at this; exact this)
    clear e2 e3
    go_upto_region 4 with (first | (go_at_call_of 35 key.s; refine (callGr (K1.out _)).mono ?_; rintro e w' ⟨pp, rfl, rfl⟩) | (go_at_call_of 35 v.s; refine (callGr (K2.out _)).mono ?_; rintro e w' ⟨pp, rfl, rfl⟩))
    refine wp_world (fun X => Below W.heap.size W X) (by (repeat (with_reducible first | exact Below.refl _ _ | (refine bl_set ?_ (by first | omega | (simp; done) | (simp; omega)) _) | refine bl_gr ?_ _ | refine bl_al ?_ _ | refine below_setRow ?_ (by first | omega | (simp; done) | (simp; omega)) _ | refine bl_drewN ?_ _ | refine Below.drew ?_ | (refine bl_tr ?_ (by assumption))))) ?_
    intro X hX
    have X4 := Lib.hid (KK.out X hX)
    have XB := Lib.hid (bl_tr BW.out hX)
    have lX := hX.size
    clear hX a0 a1 a2 a3 a4 a5 t0 t1 t2 u0 u1 u2
    obtain ⟨⟨x0, x1, x2, x3, x4, x5⟩, y0, y1, y2, y3, y4, y5⟩ := cells6 X4.out
    go_wp2_with fail
    refine wp_post (fun Y => Y.heap[w.heap.size + 1 + 1 + 1]? = some (cellO 0 0 0 0 (.slice none 0 0) (.slice none 0 0)) ∧ Touch (fun b => b = w.heap.size + 1 + 1 + 1) X Y ∧ Below w.heap.size w Y) (put6 XB.out (by omega) X4.out) ?_
    rintro Y ⟨z0, _, zb⟩
    have ZB := Lib.hid zb
    clear x0 x1 x2 x3 x4 x5 y0 y1 y2 y3 y4 y5 zb
    obtain ⟨⟨b0, b1, b2, b3, b4, b5⟩, _⟩ := cells6 z0
    refine bodyPost_ret (v := .tuple #[cellV 0 0 0 0 (.slice none 0 0) (.slice none 0 0), .int .i64 1]) (by clear z0; simp [results, Try.results16, go_sem, *]) rfl (retP_zero ZB.out)
end Go.Proofs.Ytdikdkllbhanfaa
