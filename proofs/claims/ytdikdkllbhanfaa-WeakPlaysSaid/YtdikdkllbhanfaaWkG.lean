/- Weak maps: Delete and Clean, by the program. -/
import Derived.Test.YtdikdkllbhanfaaWkF
namespace Go.Proofs.Ytdikdkllbhanfaa
set_option linter.all false
open Go.RowKit Go.Sort Go.Deep Go.Shelf

theorem cf_delete (args : Array Value) (Z : World) : (callFunc 39 args).run Try.prog Z = .ok (.enter 39 args) Z := by go_simp
theorem cf_clean (args : Array Value) (Z : World) : (callFunc 28 args).run Try.prog Z = .ok (.enter 28 args) Z := by go_simp
/-- a cell stored into a block of cells -/
theorem put6 {w Y : World} {a : Nat} {k sh fl ag k' sh' fl' ag' : Int} {s mm s' mm' : Value} (hB : Below w.heap.size w Y) (ha : w.heap.size ≤ a) (h1 : Y.heap[a]? = some (cellO k sh fl ag s mm)) :
    ((((((Y.setCell ⟨a, 0, none⟩ (.int .i64 k')).setCell ⟨a, 1, none⟩ (.int .i64 sh')).setCell ⟨a, 2, none⟩ (.int .i64 fl')).setCell ⟨a, 3, none⟩ (.int .i64 ag')).setCell ⟨a, 4, none⟩ s').setCell ⟨a, 5, none⟩ mm').heap[a]? = some (cellO k' sh' fl' ag' s' mm') ∧
    Touch (fun b => b = a) Y ((((((Y.setCell ⟨a, 0, none⟩ (.int .i64 k')).setCell ⟨a, 1, none⟩ (.int .i64 sh')).setCell ⟨a, 2, none⟩ (.int .i64 fl')).setCell ⟨a, 3, none⟩ (.int .i64 ag')).setCell ⟨a, 4, none⟩ s').setCell ⟨a, 5, none⟩ mm') ∧
    Below w.heap.size w ((((((Y.setCell ⟨a, 0, none⟩ (.int .i64 k')).setCell ⟨a, 1, none⟩ (.int .i64 sh')).setCell ⟨a, 2, none⟩ (.int .i64 fl')).setCell ⟨a, 3, none⟩ (.int .i64 ag')).setCell ⟨a, 4, none⟩ s').setCell ⟨a, 5, none⟩ mm') := by
  have T := (((((((Touch.refl (fun b => b = a) Y).set1 0 (.int .i64 k')).set1 1 (.int .i64 sh')).set1 2 (.int .i64 fl')).set1 3 (.int .i64 ag')).set1 4 s').set1 5 mm')
  exact ⟨heap_setCell_same _ _ _ _ _ _ (heap_setCell_same _ _ _ _ _ _ (heap_setCell_same _ _ _ _ _ _ (heap_setCell_same _ _ _ _ _ _ (heap_setCell_same _ _ _ _ _ _ (heap_setCell_same _ _ _ _ _ _ h1))))), T, hB.trans (T.below hB.size fun k hk => by omega)⟩
/-- values do not lie in a block that holds a cell -/
theorem isV_ne {W : World} {v : Value} {xs : List Val} {B : Nat} {k0 k1 k2 k3 : Int} {A A' : Option Addr} {n m n' m' : Nat} (h : IsV W v xs) (hB : W.heap[B]? = some (cellO k0 k1 k2 k3 (.slice A n m) (.slice A' n' m'))) :
    ∀ b off cap, v = .slice (some ⟨b, off, none⟩) xs.length cap → 0 < xs.length → ¬ b = B := by
  rintro b off cap rfl h0 rfl
  obtain ⟨_, _, _, hs⟩ := h.v3 0 h0
  rw [cell_of_row W b _ _ _ _ hB] at hs
  have : off + 0 * 3 + 2 = 2 ∨ off + 0 * 3 + 2 = 3 ∨ off + 0 * 3 + 2 = 4 ∨ off + 0 * 3 + 2 = 5 ∨ 6 ≤ off + 0 * 3 + 2 := by omega
  rcases this with e | e | e | e | e
  · rw [e] at hs; cases hs
  · rw [e] at hs; cases hs
  · rw [e] at hs; cases hs
  · rw [e] at hs; cases hs
  · rw [Array.getElem?_eq_none (by simpa using e)] at hs; cases hs
theorem setI {W Y : World} {v : Value} {xs : List Val} {B : Nat} {k0 k1 k2 k3 : Int} {A A' : Option Addr} {n m n' m' : Nat} (h : IsV W v xs) (hB : W.heap[B]? = some (cellO k0 k1 k2 k3 (.slice A n m) (.slice A' n' m'))) (hT : Touch (fun k => k = B) W Y) : IsV Y v xs :=
  SlOf.touch h hT (isV_ne h hB)
abbrev zeroC : CellD := ⟨0, 0, 0, 0, [], []⟩
def keptL (p : Val → Bool) (mo : List Val) : List Val := keptW p mo (List.finRange (mo.length / 2))
def cleanC (c : CellD) (live : List Int) : CellD := if isW c then ⟨c.k, c.sh, c.fl, c.ag, c.sl, keptL (fun v => inB live v.n) c.mo⟩ else zeroC
def delC (c : CellD) (key : Val) : CellD := if isW c then ⟨c.k, c.sh, c.fl, c.ag, c.sl, keptL (fun v => !v.eq key) c.mo⟩ else zeroC
def delB (c : CellD) (key : Val) : Bool := isW c && decide ((keptL (fun v => !v.eq key) c.mo).length < c.mo.length)
/-- the call gives the cell D -/
def RetD (W : World) (D : CellD) : Ending → World → Prop := fun e w' => ∃ A n A' n', e = .returned (cellV D.k D.sh D.fl D.ag (.slice A D.sl.length n) (.slice A' D.mo.length n')) ∧ IsV w' (.slice A D.sl.length n) D.sl ∧ IsV w' (.slice A' D.mo.length n') D.mo ∧ Below W.heap.size W w'
/-- .. and v -/
def RetP (W : World) (D : CellD) (v : Value) : Ending → World → Prop := fun e w' => ∃ A n A' n', e = .returned (.tuple #[cellV D.k D.sh D.fl D.ag (.slice A D.sl.length n) (.slice A' D.mo.length n'), v]) ∧ IsV w' (.slice A D.sl.length n) D.sl ∧ IsV w' (.slice A' D.mo.length n') D.mo ∧ Below W.heap.size W w'
theorem retD_zero {W w' : World} (h : Below W.heap.size W w') : RetD W zeroC (.returned (cellV 0 0 0 0 (.slice none 0 0) (.slice none 0 0))) w' := ⟨none, 0, none, 0, rfl, .nil_, .nil_, h⟩
theorem retP_zero {W w' : World} {v : Value} (h : Below W.heap.size W w') : RetP W zeroC v (.returned (.tuple #[cellV 0 0 0 0 (.slice none 0 0) (.slice none 0 0), v])) w' := ⟨none, 0, none, 0, rfl, .nil_, .nil_, h⟩

theorem wp_post {P : Program} {fn : Func} {R : Ending → World → Prop} {e : Exit} {a : Act} {w : World} (C : World → Prop) (hC : C w) (h : ∀ w', C w' → bodyPost P fn R e a w') : bodyPost P fn R e a w := h w hC

set_option maxRecDepth 100000 in
set_option maxHeartbeats 8000000 in
theorem clean_yes (sv mv lv : Value) (c : CellD) (live : List Int) (hc : c.ok) (hf : c.fit) (w : World) (h1 : IsV w sv c.sl) (h2 : IsV w mv c.mo) (h3 : IsI w lv live) (hb : isW c = true) :
    Calls Try.prog 10 #[cellV c.k c.sh c.fl c.ag sv mv, lv] w (RetD w (cleanC c live)) := by
  obtain ⟨A0, n0, rfl, _, _⟩ := h1.form
  obtain ⟨A2, n2, rfl, _, _⟩ := h2.form
  have H1 := Lib.hid h1
  have H2 := Lib.hid h2
  obtain ⟨A3, n3, rfl, _, _⟩ := h3.form
  have H3 := Lib.hid h3
  have HF := Lib.hid hf
  obtain ⟨m, hm, hk8, hmx⟩ := isW_len hb
  clear hk8 hmx
  have hmm : c.mo.length / 2 = m := by omega
  rw [show cleanC c live = ⟨c.k, c.sh, c.fl, c.ag, c.sl, keptW (fun v => inB live v.n) c.mo (List.finRange m)⟩ by unfold cleanC keptL; rw [if_pos hb, hmm]]
  have HM := Lib.hid hm
  have IS := Lib.hid (fun W a b => by have := is_any _ _ c hc W a b; rw [hb] at this; exact this : ∀ (W : World), IsV W (.slice A0 c.sl.length n0) c.sl → IsV W (.slice A2 c.mo.length n2) c.mo → Calls Try.prog 26 #[cellV c.k c.sh c.fl c.ag (.slice A0 c.sl.length n0) (.slice A2 c.mo.length n2)] W fun e w' => e = .returned (.bool true) ∧ Below W.heap.size W w')
  clear h1 h2 h3 hf hm hc hb hmm
  go_enter Try.func10, Try.ntmps10
  go_upto_region 1 with fail
  refine wp_world (fun W => W.heap[w.heap.size]? = some (cellO c.k c.sh c.fl c.ag (.slice A0 c.sl.length n0) (.slice A2 c.mo.length n2)) ∧ W.heap[w.heap.size + 1]? = some (.cells #[.slice A3 live.length n3] 25) ∧ W.heap[w.heap.size + 1 + 1]? = some (cellO 0 0 0 0 (.slice none 0 0) (.slice none 0 0)) ∧ Below w.heap.size w W) (heap3 w _ _ _) ?_
  rintro W ⟨j1, j2, j3, jb⟩
  have l0 : w.heap.size < W.heap.size := (Array.getElem?_eq_some_iff.1 j1).1
  have l1 : w.heap.size + 1 < W.heap.size := (Array.getElem?_eq_some_iff.1 j2).1
  have l2 : w.heap.size + 1 + 1 < W.heap.size := (Array.getElem?_eq_some_iff.1 j3).1
  have KK := Lib.hid (show ∀ X, Below W.heap.size W X → X.heap[w.heap.size]? = some (cellO c.k c.sh c.fl c.ag (.slice A0 c.sl.length n0) (.slice A2 c.mo.length n2)) ∧ X.heap[w.heap.size + 1]? = some (.cells #[.slice A3 live.length n3] 25) ∧ X.heap[w.heap.size + 1 + 1]? = some (cellO 0 0 0 0 (.slice none 0 0) (.slice none 0 0)) from fun X h => ⟨(h.block _ l0).trans j1, (h.block _ l1).trans j2, (h.block _ l2).trans j3⟩)
  have BW := Lib.hid jb
  have I1 := Lib.hid (H1.out.below jb)
  have I2 := Lib.hid (H2.out.below jb)
  obtain ⟨⟨a0, a1, a2, a3, a4, a5⟩, _⟩ := cells6 j1
  clear j1 j2 j3 jb H1 H2
  have I3 := Lib.hid (H3.out.below BW.out)
  clear H3
  go_wp2_with (first
    | (go_at_call 26; refine (callGr (IS.out _ (I1.out.below (by (repeat (with_reducible first | exact Below.refl _ _ | (refine bl_set ?_ (by first | omega | (simp; done) | (simp; omega)) _) | refine bl_gr ?_ _ | refine bl_al ?_ _ | refine below_setRow ?_ (by first | omega | (simp; done) | (simp; omega)) _ | refine bl_drewN ?_ _ | refine Below.drew ?_ | (refine bl_tr ?_ (by assumption)))))) (I2.out.below (by (repeat (with_reducible first | exact Below.refl _ _ | (refine bl_set ?_ (by first | omega | (simp; done) | (simp; omega)) _) | refine bl_gr ?_ _ | refine bl_al ?_ _ | refine below_setRow ?_ (by first | omega | (simp; done) | (simp; omega)) _ | refine bl_drewN ?_ _ | refine Below.drew ?_ | (refine bl_tr ?_ (by assumption)))))))).mono ?_; rintro e w' ⟨pp, rfl, rfl⟩)
    | (go_at_call 27; refine (kept_any _ _ c 28 cf_clean (w.heap.size + 1) (fun v => inB live v.n) HF.out m HM.out _ (I1.out.below (by (repeat (with_reducible first | exact Below.refl _ _ | (refine bl_set ?_ (by first | omega | (simp; done) | (simp; omega)) _) | refine bl_gr ?_ _ | refine bl_al ?_ _ | refine below_setRow ?_ (by first | omega | (simp; done) | (simp; omega)) _ | refine bl_drewN ?_ _ | refine Below.drew ?_ | (refine bl_tr ?_ (by assumption)))))) (I2.out.below (by (repeat (with_reducible first | exact Below.refl _ _ | (refine bl_set ?_ (by first | omega | (simp; done) | (simp; omega)) _) | refine bl_gr ?_ _ | refine bl_al ?_ _ | refine below_setRow ?_ (by first | omega | (simp; done) | (simp; omega)) _ | refine bl_drewN ?_ _ | refine Below.drew ?_ | (refine bl_tr ?_ (by assumption)))))) (fun Z hZ v _ => clean1_any _ _ live v Z (KK.out Z (bl_tr (by (repeat (with_reducible first | exact Below.refl _ _ | (refine bl_set ?_ (by first | omega | (simp; done) | (simp; omega)) _) | refine bl_gr ?_ _ | refine bl_al ?_ _ | refine below_setRow ?_ (by first | omega | (simp; done) | (simp; omega)) _ | refine bl_drewN ?_ _ | refine Below.drew ?_ | (refine bl_tr ?_ (by assumption))))) hZ)).2.1 (I3.out.below (bl_tr (by (repeat (with_reducible first | exact Below.refl _ _ | (refine bl_set ?_ (by first | omega | (simp; done) | (simp; omega)) _) | refine bl_gr ?_ _ | refine bl_al ?_ _ | refine below_setRow ?_ (by first | omega | (simp; done) | (simp; omega)) _ | refine bl_drewN ?_ _ | refine Below.drew ?_ | (refine bl_tr ?_ (by assumption))))) hZ)))).mono ?_; rintro e w3 ⟨_, _, rfl, o1, o2, hb⟩; obtain ⟨A5, n5, rfl, _, _⟩ := o1.form; obtain ⟨A6, n6, rfl, _, _⟩ := o2.form; have OO := Lib.hid (And.intro o1 (And.intro o2 (show Below W.heap.size W w3 from bl_tr (by (repeat (with_reducible first | exact Below.refl _ _ | (refine bl_set ?_ (by first | omega | (simp; done) | (simp; omega)) _) | refine bl_gr ?_ _ | refine bl_al ?_ _ | refine below_setRow ?_ (by first | omega | (simp; done) | (simp; omega)) _ | refine bl_drewN ?_ _ | refine Below.drew ?_ | (refine bl_tr ?_ (by assumption))))) hb))); clear o1 o2 hb; obtain ⟨⟨x0, x1, x2, x3, x4, x5⟩, y0, y1, y2, y3, y4, y5⟩ := cells6 (KK.out w3 OO.out.2.2).2.2))
  refine wp_post (fun Y => Y.heap[w.heap.size + 1 + 1]? = some (cellO c.k c.sh c.fl c.ag (.slice A5 c.sl.length n5) (.slice A6 (keptW (fun v => inB live v.n) c.mo (List.finRange m)).length n6)) ∧ Touch (fun b => b = w.heap.size + 1 + 1) w3 Y ∧ Below w.heap.size w Y) (put6 (show Below w.heap.size w w3 from bl_tr BW.out OO.out.2.2) (by omega) (KK.out w3 OO.out.2.2).2.2) ?_
  rintro Y ⟨r1, rt, rb⟩
  have f1 := setI OO.out.1 (KK.out w3 OO.out.2.2).2.2 rt
  have f2 := setI OO.out.2.1 (KK.out w3 OO.out.2.2).2.2 rt
  have FF := Lib.hid (And.intro f1 (And.intro f2 rb))
  clear f1 f2 rb rt a0 a1 a2 a3 a4 a5 x0 x1 x2 x3 x4 x5 y0 y1 y2 y3 y4 y5
  obtain ⟨⟨e0, e1, e2, e3, e4, e5⟩, _⟩ := cells6 r1
  refine bodyPost_ret (v := cellV c.k c.sh c.fl c.ag (.slice A5 c.sl.length n5) (.slice A6 (keptW (fun v => inB live v.n) c.mo (List.finRange m)).length n6)) (by clear r1; simp [results, Try.results10, go_sem, *]) rfl ⟨_, _, _, _, rfl, FF.out.1, FF.out.2.1, FF.out.2.2⟩
set_option maxRecDepth 100000 in
set_option maxHeartbeats 8000000 in
theorem clean_no (sv mv lv : Value) (c : CellD) (live : List Int) (hc : c.ok) (w : World) (h1 : IsV w sv c.sl) (h2 : IsV w mv c.mo) (h3 : IsI w lv live) (hb : isW c = false) :
    Calls Try.prog 10 #[cellV c.k c.sh c.fl c.ag sv mv, lv] w (RetD w (cleanC c live)) := by
  obtain ⟨A0, n0, rfl, _, _⟩ := h1.form
  obtain ⟨A2, n2, rfl, _, _⟩ := h2.form
  have H1 := Lib.hid h1
  have H2 := Lib.hid h2
  obtain ⟨A3, n3, rfl, _, _⟩ := h3.form
  rw [show cleanC c live = zeroC by unfold cleanC; rw [hb]; rfl]
  have IS := Lib.hid (fun W a b => by have := is_any _ _ c hc W a b; rw [hb] at this; exact this : ∀ (W : World), IsV W (.slice A0 c.sl.length n0) c.sl → IsV W (.slice A2 c.mo.length n2) c.mo → Calls Try.prog 26 #[cellV c.k c.sh c.fl c.ag (.slice A0 c.sl.length n0) (.slice A2 c.mo.length n2)] W fun e w' => e = .returned (.bool false) ∧ Below W.heap.size W w')
  clear h1 h2 h3 hc hb
  go_enter Try.func10, Try.ntmps10
  go_upto_region 1 with fail
  refine wp_world (fun W => W.heap[w.heap.size]? = some (cellO c.k c.sh c.fl c.ag (.slice A0 c.sl.length n0) (.slice A2 c.mo.length n2)) ∧ W.heap[w.heap.size + 1]? = some (.cells #[.slice A3 live.length n3] 25) ∧ W.heap[w.heap.size + 1 + 1]? = some (cellO 0 0 0 0 (.slice none 0 0) (.slice none 0 0)) ∧ Below w.heap.size w W) (heap3 w _ _ _) ?_
  rintro W ⟨j1, j2, j3, jb⟩
  have l0 : w.heap.size < W.heap.size := (Array.getElem?_eq_some_iff.1 j1).1
  have l1 : w.heap.size + 1 < W.heap.size := (Array.getElem?_eq_some_iff.1 j2).1
  have l2 : w.heap.size + 1 + 1 < W.heap.size := (Array.getElem?_eq_some_iff.1 j3).1
  have KK := Lib.hid (show ∀ X, Below W.heap.size W X → X.heap[w.heap.size]? = some (cellO c.k c.sh c.fl c.ag (.slice A0 c.sl.length n0) (.slice A2 c.mo.length n2)) ∧ X.heap[w.heap.size + 1]? = some (.cells #[.slice A3 live.length n3] 25) ∧ X.heap[w.heap.size + 1 + 1]? = some (cellO 0 0 0 0 (.slice none 0 0) (.slice none 0 0)) from fun X h => ⟨(h.block _ l0).trans j1, (h.block _ l1).trans j2, (h.block _ l2).trans j3⟩)
  have BW := Lib.hid jb
  have I1 := Lib.hid (H1.out.below jb)
  have I2 := Lib.hid (H2.out.below jb)
  obtain ⟨⟨a0, a1, a2, a3, a4, a5⟩, _⟩ := cells6 j1
  clear j1 j2 j3 jb H1 H2
  go_upto_region 2 with (go_at_call 26; refine (callGr (IS.out _ (I1.out.below (by (repeat (with_reducible first | exact Below.refl _ _ | (refine bl_set ?_ (by first | omega | (simp; done) | (simp; omega)) _) | refine bl_gr ?_ _ | refine bl_al ?_ _ | refine below_setRow ?_ (by first | omega | (simp; done) | (simp; omega)) _ | refine bl_drewN ?_ _ | refine Below.drew ?_ | (refine bl_tr ?_ (by assumption)))))) (I2.out.below (by (repeat (with_reducible first | exact Below.refl _ _ | (refine bl_set ?_ (by first | omega | (simp; done) | (simp; omega)) _) | refine bl_gr ?_ _ | refine bl_al ?_ _ | refine below_setRow ?_ (by first | omega | (simp; done) | (simp; omega)) _ | refine bl_drewN ?_ _ | refine Below.drew ?_ | (refine bl_tr ?_ (by assumption)))))))).mono ?_; rintro e w' ⟨pp, rfl, rfl⟩)
  refine wp_world (fun X => Below W.heap.size W X) (by (repeat (with_reducible first | exact Below.refl _ _ | (refine bl_set ?_ (by first | omega | (simp; done) | (simp; omega)) _) | refine bl_gr ?_ _ | refine bl_al ?_ _ | refine below_setRow ?_ (by first | omega | (simp; done) | (simp; omega)) _ | refine bl_drewN ?_ _ | refine Below.drew ?_ | (refine bl_tr ?_ (by assumption))))) ?_
  intro X hX
  have X4 := Lib.hid (KK.out X hX).2.2
  have XB := Lib.hid (bl_tr BW.out hX)
  clear hX a0 a1 a2 a3 a4 a5
  obtain ⟨⟨x0, x1, x2, x3, x4, x5⟩, y0, y1, y2, y3, y4, y5⟩ := cells6 X4.out
  go_wp2_with fail
  refine wp_post (fun Y => Y.heap[w.heap.size + 1 + 1]? = some (cellO 0 0 0 0 (.slice none 0 0) (.slice none 0 0)) ∧ Touch (fun b => b = w.heap.size + 1 + 1) X Y ∧ Below w.heap.size w Y) (put6 XB.out (by omega) X4.out) ?_
  rintro Y ⟨z0, _, zb⟩
  have ZB := Lib.hid zb
  clear x0 x1 x2 x3 x4 x5 y0 y1 y2 y3 y4 y5 zb
  obtain ⟨⟨b0, b1, b2, b3, b4, b5⟩, _⟩ := cells6 z0
  refine bodyPost_ret (v := cellV 0 0 0 0 (.slice none 0 0) (.slice none 0 0)) (by clear z0; simp [results, Try.results10, go_sem, *]) rfl (retD_zero ZB.out)
set_option maxRecDepth 100000 in
set_option maxHeartbeats 8000000 in
theorem delete_yes (sv mv : Value) (c : CellD) (key : Val) (hc : c.ok) (hf : c.fit) (w : World) (h1 : IsV w sv c.sl) (h2 : IsV w mv c.mo) (hb : isW c = true) :
    Calls Try.prog 18 #[cellV c.k c.sh c.fl c.ag sv mv, key.agg] w (RetP w (delC c key) (.bool (delB c key))) := by
  obtain ⟨A0, n0, rfl, _, _⟩ := h1.form
  obtain ⟨A2, n2, rfl, _, _⟩ := h2.form
  have H1 := Lib.hid h1
  have H2 := Lib.hid h2
  have HF := Lib.hid hf
  obtain ⟨m, hm, hk8, hmx⟩ := isW_len hb
  clear hk8 hmx
  have hmm : c.mo.length / 2 = m := by omega
  rw [show delC c key = ⟨c.k, c.sh, c.fl, c.ag, c.sl, keptW (fun v => !v.eq key) c.mo (List.finRange m)⟩ by unfold delC keptL; rw [if_pos hb, hmm],
    show delB c key = decide (((keptW (fun v => !v.eq key) c.mo (List.finRange m)).length : Int) < c.mo.length) by unfold delB keptL; rw [hb, hmm, Bool.true_and]; exact decide_eq_decide.2 (by omega)]
  have HM := Lib.hid hm
  have IS := Lib.hid (fun W a b => by have := is_any _ _ c hc W a b; rw [hb] at this; exact this : ∀ (W : World), IsV W (.slice A0 c.sl.length n0) c.sl → IsV W (.slice A2 c.mo.length n2) c.mo → Calls Try.prog 26 #[cellV c.k c.sh c.fl c.ag (.slice A0 c.sl.length n0) (.slice A2 c.mo.length n2)] W fun e w' => e = .returned (.bool true) ∧ Below W.heap.size W w')
  clear h1 h2 hf hm hc hb hmm
  go_enter Try.func18, Try.ntmps18
  go_upto_region 1 with fail
  refine wp_world (fun W => W.heap[w.heap.size]? = some (cellO c.k c.sh c.fl c.ag (.slice A0 c.sl.length n0) (.slice A2 c.mo.length n2)) ∧ W.heap[w.heap.size + 1]? = some (valB key) ∧ W.heap[w.heap.size + 1 + 1]? = some (cellO 0 0 0 0 (.slice none 0 0) (.slice none 0 0)) ∧ Below w.heap.size w W) (heap3 w _ _ _) ?_
  rintro W ⟨j1, j2, j3, jb⟩
  have l0 : w.heap.size < W.heap.size := (Array.getElem?_eq_some_iff.1 j1).1
  have l1 : w.heap.size + 1 < W.heap.size := (Array.getElem?_eq_some_iff.1 j2).1
  have l2 : w.heap.size + 1 + 1 < W.heap.size := (Array.getElem?_eq_some_iff.1 j3).1
  have KK := Lib.hid (show ∀ X, Below W.heap.size W X → X.heap[w.heap.size]? = some (cellO c.k c.sh c.fl c.ag (.slice A0 c.sl.length n0) (.slice A2 c.mo.length n2)) ∧ X.heap[w.heap.size + 1]? = some (valB key) ∧ X.heap[w.heap.size + 1 + 1]? = some (cellO 0 0 0 0 (.slice none 0 0) (.slice none 0 0)) from fun X h => ⟨(h.block _ l0).trans j1, (h.block _ l1).trans j2, (h.block _ l2).trans j3⟩)
  have BW := Lib.hid jb
  have I1 := Lib.hid (H1.out.below jb)
  have I2 := Lib.hid (H2.out.below jb)
  obtain ⟨⟨a0, a1, a2, a3, a4, a5⟩, _⟩ := cells6 j1
  clear j1 j2 j3 jb H1 H2
  go_upto_region 4 with (first
    | (go_at_call 26; refine (callGr (IS.out _ (I1.out.below (by (repeat (with_reducible first | exact Below.refl _ _ | (refine bl_set ?_ (by first | omega | (simp; done) | (simp; omega)) _) | refine bl_gr ?_ _ | refine bl_al ?_ _ | refine below_setRow ?_ (by first | omega | (simp; done) | (simp; omega)) _ | refine bl_drewN ?_ _ | refine Below.drew ?_ | (refine bl_tr ?_ (by assumption)))))) (I2.out.below (by (repeat (with_reducible first | exact Below.refl _ _ | (refine bl_set ?_ (by first | omega | (simp; done) | (simp; omega)) _) | refine bl_gr ?_ _ | refine bl_al ?_ _ | refine below_setRow ?_ (by first | omega | (simp; done) | (simp; omega)) _ | refine bl_drewN ?_ _ | refine Below.drew ?_ | (refine bl_tr ?_ (by assumption)))))))).mono ?_; rintro e w' ⟨pp, rfl, rfl⟩)
    | (go_at_call 27; refine (kept_any _ _ c 39 cf_delete (w.heap.size + 1) (fun v => !v.eq key) HF.out m HM.out _ (I1.out.below (by (repeat (with_reducible first | exact Below.refl _ _ | (refine bl_set ?_ (by first | omega | (simp; done) | (simp; omega)) _) | refine bl_gr ?_ _ | refine bl_al ?_ _ | refine below_setRow ?_ (by first | omega | (simp; done) | (simp; omega)) _ | refine bl_drewN ?_ _ | refine Below.drew ?_ | (refine bl_tr ?_ (by assumption)))))) (I2.out.below (by (repeat (with_reducible first | exact Below.refl _ _ | (refine bl_set ?_ (by first | omega | (simp; done) | (simp; omega)) _) | refine bl_gr ?_ _ | refine bl_al ?_ _ | refine below_setRow ?_ (by first | omega | (simp; done) | (simp; omega)) _ | refine bl_drewN ?_ _ | refine Below.drew ?_ | (refine bl_tr ?_ (by assumption)))))) (fun Z hZ v _ => delete1_any _ key v Z (KK.out Z (bl_tr (by (repeat (with_reducible first | exact Below.refl _ _ | (refine bl_set ?_ (by first | omega | (simp; done) | (simp; omega)) _) | refine bl_gr ?_ _ | refine bl_al ?_ _ | refine below_setRow ?_ (by first | omega | (simp; done) | (simp; omega)) _ | refine bl_drewN ?_ _ | refine Below.drew ?_ | (refine bl_tr ?_ (by assumption))))) hZ)).2.1)).mono ?_; rintro e w3 ⟨_, _, rfl, o1, o2, hb⟩; obtain ⟨A5, n5, rfl, _, _⟩ := o1.form; obtain ⟨A6, n6, rfl, _, _⟩ := o2.form; have OO := Lib.hid (And.intro o1 (And.intro o2 (show Below W.heap.size W w3 from bl_tr (by (repeat (with_reducible first | exact Below.refl _ _ | (refine bl_set ?_ (by first | omega | (simp; done) | (simp; omega)) _) | refine bl_gr ?_ _ | refine bl_al ?_ _ | refine below_setRow ?_ (by first | omega | (simp; done) | (simp; omega)) _ | refine bl_drewN ?_ _ | refine Below.drew ?_ | (refine bl_tr ?_ (by assumption))))) hb))); clear o1 o2 hb))
  generalize hks : keptW (fun v => !v.eq key) c.mo (List.finRange m) = ks at *
  have HKS := Lib.hid hks
  clear hks
  refine wp_world (fun Y => Y.heap[w3.heap.size]? = some (cellO c.k c.sh c.fl c.ag (.slice A5 c.sl.length n5) (.slice A6 ks.length n6)) ∧ Below w3.heap.size w3 Y) ⟨heap_alloc_new _ _, bl_al (Below.refl _ _) _⟩ ?_
  rintro X ⟨x0, xb⟩
  have xB : Below W.heap.size W X := bl_tr OO.out.2.2 xb
  obtain ⟨k1, _, k3⟩ := KK.out X xB
  have nn : ¬ w3.heap.size = w.heap.size + 1 + 1 := by have := OO.out.2.2.size; omega
  have nn' : ¬ w.heap.size + 1 + 1 = w3.heap.size := by omega
  have XX := Lib.hid (And.intro (OO.out.1.below xb) (And.intro (OO.out.2.1.below xb) (And.intro xB k3)))
  clear a0 a1 a2 a3 a4 a5 OO
  obtain ⟨⟨a0, a1, a2, a3, a4, a5⟩, _⟩ := cells6 k1
  obtain ⟨⟨b0, b1, b2, b3, b4, b5⟩, _⟩ := cells6 x0
  obtain ⟨⟨x0, x1, x2, x3, x4, x5⟩, y0, y1, y2, y3, y4, y5⟩ := cells6 k3
  clear xb xB k1 k3
  (refine wp_region_held_drew (S := (fun Z : World => Z.cell? ⟨w3.heap.size, 0, none⟩ = some (.int .i64 c.k) ∧ Z.cell? ⟨w3.heap.size, 1, none⟩ = some (.int .i64 c.sh) ∧ Z.cell? ⟨w3.heap.size, 2, none⟩ = some (.int .i64 c.fl) ∧ Z.cell? ⟨w3.heap.size, 3, none⟩ = some (.int .i64 c.ag) ∧ Z.cell? ⟨w3.heap.size, 4, none⟩ = some (.slice A5 c.sl.length n5) ∧ Z.cell? ⟨w3.heap.size, 5, none⟩ = some (.slice A6 ks.length n6) ∧ Z.cell? ⟨w.heap.size, 5, none⟩ = some (.slice A2 c.mo.length n2))) Try.mixed (by (and_intros <;> go_simp)) (fun hS => ?_); (refine wpAnyH_take (i := 0) (v := ?_) rfl (by kernel_rfl) (by kernel_rfl) (by kernel_rfl) (fun _ _ _ h => h) ?_ (by assumption) ?_; rotate_left; (next => (refine Or.inl ⟨by kernel_rfl, ?_⟩; ((intro w hSw; (try dsimp only at hSw); obtain ⟨s0, s1, s2, s3, s4, s5, s6⟩ := hSw; go_simp) <;> with_reducible rfl))); (try simp only [Act.put, List.setIfInBounds_toArray, List.set_cons_zero, List.set_cons_succ])); (refine wpAnyH_take (i := 1) (v := ?_) rfl (by kernel_rfl) (by kernel_rfl) (by kernel_rfl) (fun _ _ _ h => h) ?_ (by assumption) ?_; rotate_left; (next => (refine Or.inl ⟨by kernel_rfl, ?_⟩; ((intro w hSw; (try dsimp only at hSw); go_simp) <;> with_reducible rfl))); (try simp only [Act.put, List.setIfInBounds_toArray, List.set_cons_zero, List.set_cons_succ])); (refine wpAnyH_take (i := 2) (v := ?_) rfl (by kernel_rfl) (by kernel_rfl) (by kernel_rfl) (fun _ _ _ h => h) ?_ (by assumption) ?_; rotate_left; (next => (refine Or.inl ⟨by kernel_rfl, ?_⟩; ((intro w hSw; (try dsimp only at hSw); obtain ⟨s0, s1, s2, s3, s4, s5, s6⟩ := hSw; go_simp) <;> with_reducible rfl))); (try simp only [Act.put, List.setIfInBounds_toArray, List.set_cons_zero, List.set_cons_succ])); (refine wpAnyH_take (i := 3) (v := ?_) rfl (by kernel_rfl) (by kernel_rfl) (by kernel_rfl) (fun _ _ _ h => h) ?_ (by assumption) ?_; rotate_left; (next => (refine Or.inl ⟨by kernel_rfl, ?_⟩; ((intro w hSw; (try dsimp only at hSw); go_simp) <;> with_reducible rfl))); (try simp only [Act.put, List.setIfInBounds_toArray, List.set_cons_zero, List.set_cons_succ])); (refine wpAnyH_take (i := 4) (v := ?_) rfl (by kernel_rfl) (by kernel_rfl) (by kernel_rfl) (fun _ _ _ h => h) ?_ (by assumption) ?_; rotate_left; (next => (refine Or.inl ⟨by kernel_rfl, ?_⟩; ((intro w hSw; (try dsimp only at hSw); go_simp) <;> with_reducible rfl))); (try simp only [Act.put, List.setIfInBounds_toArray, List.set_cons_zero, List.set_cons_succ])); (refine wpAnyH_take (i := 5) (v := ?_) rfl (by kernel_rfl) (by kernel_rfl) (by kernel_rfl) (fun _ _ _ h => h) ?_ (by assumption) ?_; rotate_left; (next => (refine Or.inl ⟨by kernel_rfl, ?_⟩; ((intro w hSw; (try dsimp only at hSw); obtain ⟨s0, s1, s2, s3, s4, s5, s6⟩ := hSw; go_simp) <;> with_reducible rfl))); (try simp only [Act.put, List.setIfInBounds_toArray, List.set_cons_zero, List.set_cons_succ])); (refine wpAnyH_take (i := 6) (v := ?_) rfl (by kernel_rfl) (by kernel_rfl) (by kernel_rfl) (fun _ _ _ h => h) ?_ (by assumption) ?_; rotate_left; (next => (refine Or.inl ⟨by kernel_rfl, ?_⟩; ((intro w hSw; (try dsimp only at hSw); go_simp) <;> with_reducible rfl))); (try simp only [Act.put, List.setIfInBounds_toArray, List.set_cons_zero, List.set_cons_succ])); (refine wpAnyH_take (i := 7) (v := ?_) rfl (by kernel_rfl) (by kernel_rfl) (by kernel_rfl) (fun _ _ _ h => h) ?_ (by assumption) ?_; rotate_left; (next => (refine Or.inl ⟨by kernel_rfl, ?_⟩; ((intro w hSw; (try dsimp only at hSw); go_simp) <;> with_reducible rfl))); (try simp only [Act.put, List.setIfInBounds_toArray, List.set_cons_zero, List.set_cons_succ])); refine wpAnyH_ready (rs := [8]) (by kernel_rfl) (by simp) ?_; refine AllReadyH.cons rfl (fun K hK => ?_) AllReadyH.nil; go_simp; refine hK.out _ _ (by (and_intros <;> go_simp)) (fun hS => ?_); clear hK K; (try simp only [Act.put, List.setIfInBounds_toArray, List.set_cons_zero, List.set_cons_succ]); (refine wpAnyH_take (i := 9) (v := ?_) rfl (by kernel_rfl) (by kernel_rfl) (by kernel_rfl) (fun _ _ _ h => h) ?_ (by assumption) ?_; rotate_left; (next => (refine Or.inl ⟨by kernel_rfl, ?_⟩; ((intro w hSw; (try dsimp only at hSw); go_simp) <;> with_reducible rfl))); (try simp only [Act.put, List.setIfInBounds_toArray, List.set_cons_zero, List.set_cons_succ])); refine wpAnyH_done (by kernel_rfl) ?_ _)
  go_simp
  obtain ⟨Y, hY, r1, rt, rb⟩ : ∃ Y, Y = ((((((X.setCell ⟨w.heap.size + 1 + 1, 0, none⟩ (.int .i64 c.k)).setCell ⟨w.heap.size + 1 + 1, 1, none⟩ (.int .i64 c.sh)).setCell ⟨w.heap.size + 1 + 1, 2, none⟩ (.int .i64 c.fl)).setCell ⟨w.heap.size + 1 + 1, 3, none⟩ (.int .i64 c.ag)).setCell ⟨w.heap.size + 1 + 1, 4, none⟩ (.slice A5 c.sl.length n5)).setCell ⟨w.heap.size + 1 + 1, 5, none⟩ (.slice A6 ks.length n6)) ∧
      Y.heap[w.heap.size + 1 + 1]? = some (cellO c.k c.sh c.fl c.ag (.slice A5 c.sl.length n5) (.slice A6 ks.length n6)) ∧ Touch (fun b => b = w.heap.size + 1 + 1) X Y ∧ Below w.heap.size w Y :=
    ⟨_, rfl, put6 (show Below w.heap.size w X from bl_tr BW.out XX.out.2.2.1) (by omega) XX.out.2.2.2⟩
  rw [← hY]
  clear hY
  have f1 := setI XX.out.1 XX.out.2.2.2 rt
  have f2 := setI XX.out.2.1 XX.out.2.2.2 rt
  have FF := Lib.hid (And.intro f1 (And.intro f2 rb))
  clear f1 f2 rb rt hS a0 a1 a2 a3 a4 a5 b0 b1 b2 b3 b4 b5 x0 x1 x2 x3 x4 x5 y0 y1 y2 y3 y4 y5
  obtain ⟨⟨e0, e1, e2, e3, e4, e5⟩, _⟩ := cells6 r1
  go_wp2
  refine bodyPost_ret (v := .tuple #[cellV c.k c.sh c.fl c.ag (.slice A5 c.sl.length n5) (.slice A6 ks.length n6), .bool (decide ((ks.length : Int) < c.mo.length))]) (by clear r1; simp [results, Try.results18, go_sem, *]) rfl ?_
  have hks := HKS.out
  subst hks
  exact ⟨_, _, _, _, rfl, FF.out.1, FF.out.2.1, FF.out.2.2.drew⟩
set_option maxRecDepth 100000 in
set_option maxHeartbeats 8000000 in
theorem delete_no (sv mv : Value) (c : CellD) (key : Val) (hc : c.ok) (w : World) (h1 : IsV w sv c.sl) (h2 : IsV w mv c.mo) (hb : isW c = false) :
    Calls Try.prog 18 #[cellV c.k c.sh c.fl c.ag sv mv, key.agg] w (RetP w (delC c key) (.bool (delB c key))) := by
  obtain ⟨A0, n0, rfl, _, _⟩ := h1.form
  obtain ⟨A2, n2, rfl, _, _⟩ := h2.form
  have H1 := Lib.hid h1
  have H2 := Lib.hid h2
  rw [show delC c key = zeroC by unfold delC; rw [hb]; rfl, show delB c key = false by unfold delB; rw [hb]; rfl]
  have IS := Lib.hid (fun W a b => by have := is_any _ _ c hc W a b; rw [hb] at this; exact this : ∀ (W : World), IsV W (.slice A0 c.sl.length n0) c.sl → IsV W (.slice A2 c.mo.length n2) c.mo → Calls Try.prog 26 #[cellV c.k c.sh c.fl c.ag (.slice A0 c.sl.length n0) (.slice A2 c.mo.length n2)] W fun e w' => e = .returned (.bool false) ∧ Below W.heap.size W w')
  clear h1 h2 hc hb
  go_enter Try.func18, Try.ntmps18
  go_upto_region 1 with fail
  refine wp_world (fun W => W.heap[w.heap.size]? = some (cellO c.k c.sh c.fl c.ag (.slice A0 c.sl.length n0) (.slice A2 c.mo.length n2)) ∧ W.heap[w.heap.size + 1]? = some (valB key) ∧ W.heap[w.heap.size + 1 + 1]? = some (cellO 0 0 0 0 (.slice none 0 0) (.slice none 0 0)) ∧ Below w.heap.size w W) (heap3 w _ _ _) ?_
  rintro W ⟨j1, j2, j3, jb⟩
  have l0 : w.heap.size < W.heap.size := (Array.getElem?_eq_some_iff.1 j1).1
  have l1 : w.heap.size + 1 < W.heap.size := (Array.getElem?_eq_some_iff.1 j2).1
  have l2 : w.heap.size + 1 + 1 < W.heap.size := (Array.getElem?_eq_some_iff.1 j3).1
  have KK := Lib.hid (show ∀ X, Below W.heap.size W X → X.heap[w.heap.size]? = some (cellO c.k c.sh c.fl c.ag (.slice A0 c.sl.length n0) (.slice A2 c.mo.length n2)) ∧ X.heap[w.heap.size + 1]? = some (valB key) ∧ X.heap[w.heap.size + 1 + 1]? = some (cellO 0 0 0 0 (.slice none 0 0) (.slice none 0 0)) from fun X h => ⟨(h.block _ l0).trans j1, (h.block _ l1).trans j2, (h.block _ l2).trans j3⟩)
  have BW := Lib.hid jb
  have I1 := Lib.hid (H1.out.below jb)
  have I2 := Lib.hid (H2.out.below jb)
  obtain ⟨⟨a0, a1, a2, a3, a4, a5⟩, _⟩ := cells6 j1
  clear j1 j2 j3 jb H1 H2
  go_upto_region 2 with (go_at_call 26; refine (callGr (IS.out _ (I1.out.below (by (repeat (with_reducible first | exact Below.refl _ _ | (refine bl_set ?_ (by first | omega | (simp; done) | (simp; omega)) _) | refine bl_gr ?_ _ | refine bl_al ?_ _ | refine below_setRow ?_ (by first | omega | (simp; done) | (simp; omega)) _ | refine bl_drewN ?_ _ | refine Below.drew ?_ | (refine bl_tr ?_ (by assumption)))))) (I2.out.below (by (repeat (with_reducible first | exact Below.refl _ _ | (refine bl_set ?_ (by first | omega | (simp; done) | (simp; omega)) _) | refine bl_gr ?_ _ | refine bl_al ?_ _ | refine below_setRow ?_ (by first | omega | (simp; done) | (simp; omega)) _ | refine bl_drewN ?_ _ | refine Below.drew ?_ | (refine bl_tr ?_ (by assumption)))))))).mono ?_; rintro e w' ⟨pp, rfl, rfl⟩)
  refine wp_world (fun X => Below W.heap.size W X) (by (repeat (with_reducible first | exact Below.refl _ _ | (refine bl_set ?_ (by first | omega | (simp; done) | (simp; omega)) _) | refine bl_gr ?_ _ | refine bl_al ?_ _ | refine below_setRow ?_ (by first | omega | (simp; done) | (simp; omega)) _ | refine bl_drewN ?_ _ | refine Below.drew ?_ | (refine bl_tr ?_ (by assumption))))) ?_
  intro X hX
  have X4 := Lib.hid (KK.out X hX).2.2
  have XB := Lib.hid (bl_tr BW.out hX)
  clear hX a0 a1 a2 a3 a4 a5
  obtain ⟨⟨x0, x1, x2, x3, x4, x5⟩, y0, y1, y2, y3, y4, y5⟩ := cells6 X4.out
  go_wp2_with fail
  refine wp_post (fun Y => Y.heap[w.heap.size + 1 + 1]? = some (cellO 0 0 0 0 (.slice none 0 0) (.slice none 0 0)) ∧ Touch (fun b => b = w.heap.size + 1 + 1) X Y ∧ Below w.heap.size w Y) (put6 XB.out (by omega) X4.out) ?_
  rintro Y ⟨z0, _, zb⟩
  have ZB := Lib.hid zb
  clear x0 x1 x2 x3 x4 x5 y0 y1 y2 y3 y4 y5 zb
  obtain ⟨⟨b0, b1, b2, b3, b4, b5⟩, _⟩ := cells6 z0
  refine bodyPost_ret (v := .tuple #[cellV 0 0 0 0 (.slice none 0 0) (.slice none 0 0), .bool false]) (by clear z0; simp [results, Try.results18, go_sem, *]) rfl (retP_zero ZB.out)
theorem clean_any (sv mv lv : Value) (c : CellD) (live : List Int) (hc : c.ok) (hf : c.fit) (w : World) (h1 : IsV w sv c.sl) (h2 : IsV w mv c.mo) (h3 : IsI w lv live) :
    Calls Try.prog 10 #[cellV c.k c.sh c.fl c.ag sv mv, lv] w (RetD w (cleanC c live)) := by
  cases hb : isW c
  · exact clean_no sv mv lv c live hc w h1 h2 h3 hb
  · exact clean_yes sv mv lv c live hc hf w h1 h2 h3 hb
theorem delete_any (sv mv : Value) (c : CellD) (key : Val) (hc : c.ok) (hf : c.fit) (w : World) (h1 : IsV w sv c.sl) (h2 : IsV w mv c.mo) :
    Calls Try.prog 18 #[cellV c.k c.sh c.fl c.ag sv mv, key.agg] w (RetP w (delC c key) (.bool (delB c key))) := by
  cases hb : isW c
  · exact delete_no sv mv c key hc w h1 h2 hb
  · exact delete_yes sv mv c key hc hf w h1 h2 hb
end Go.Proofs.Ytdikdkllbhanfaa
