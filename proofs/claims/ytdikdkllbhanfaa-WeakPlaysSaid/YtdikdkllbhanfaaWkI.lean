/- Weak maps: Get and Opens of any cell. -/
import Derived.Test.YtdikdkllbhanfaaWkH
namespace Go.Proofs.Ytdikdkllbhanfaa
set_option linter.all false
open Go.RowKit Go.Sort Go.Deep Go.Shelf
attribute [local go_sem] Oper.semAt_some

def getC (c : CellD) (key : Val) : Val := if isW c then getV c.mo (getW key c.mo (List.finRange (c.mo.length / 2))) else Val.zero
def getB (c : CellD) (key : Val) : Bool := isW c && (getW key c.mo (List.finRange (c.mo.length / 2))).isSome
def opC (c : CellD) (live : List Int) : List Int := if isW c then opL live c.mo (List.finRange (c.mo.length / 2)) else []

set_option maxRecDepth 100000 in
set_option maxHeartbeats 8000000 in
theorem get_no (sv mv : Value) (c : CellD) (key : Val) (hc : c.ok) (w : World) (h1 : IsV w sv c.sl) (h2 : IsV w mv c.mo) (hb : isW c = false) :
    Calls Try.prog 20 #[cellV c.k c.sh c.fl c.ag sv mv, key.agg] w fun e w' => e = .returned (.tuple #[Val.zero.agg, .bool false]) ∧ Below w.heap.size w w' := by
  obtain ⟨A0, n0, rfl, _, _⟩ := h1.form
  obtain ⟨A2, n2, rfl, _, _⟩ := h2.form
  have H1 := Lib.hid h1
  have H2 := Lib.hid h2
  have IS := Lib.hid (fun W a b => by have := is_any _ _ c hc W a b; rw [hb] at this; exact this : ∀ (W : World), IsV W (.slice A0 c.sl.length n0) c.sl → IsV W (.slice A2 c.mo.length n2) c.mo → Calls Try.prog 26 #[cellV c.k c.sh c.fl c.ag (.slice A0 c.sl.length n0) (.slice A2 c.mo.length n2)] W fun e w' => e = .returned (.bool false) ∧ Below W.heap.size W w')
  clear h1 h2 hc hb
  refine callsIn_wide.1 (callsIn_of_wp_marks (n := 9) Try.func20 rfl trivial ?_ rfl)
  refine wpIn_wide.2 ?_
  simp only [Try.ntmps20, List.size_toArray, List.length_cons, List.length_nil, Nat.reduceAdd, Nat.reduceSub, Array.replicate_succ, Array.replicate_zero, List.push_toArray, List.append_toArray, List.nil_append, List.cons_append]
  go_upto_region 1 with fail
  refine wp_world (fun W => W.heap[w.heap.size]? = some (cellO c.k c.sh c.fl c.ag (.slice A0 c.sl.length n0) (.slice A2 c.mo.length n2)) ∧ W.heap[w.heap.size + 1]? = some (valB key) ∧ W.heap[w.heap.size + 1 + 1]? = some (valB Val.zero) ∧ W.heap[w.heap.size + 1 + 1 + 1]? = some (.cells #[.bool false] 4) ∧ Below w.heap.size w W) (heap4w w _ _ _ _) ?_
  rintro W ⟨j1, j2, j3, j4, jb⟩
  have l0 : w.heap.size < W.heap.size := (Array.getElem?_eq_some_iff.1 j1).1
  have l2 : w.heap.size + 1 + 1 < W.heap.size := (Array.getElem?_eq_some_iff.1 j3).1
  have l3 : w.heap.size + 1 + 1 + 1 < W.heap.size := (Array.getElem?_eq_some_iff.1 j4).1
  have KK := Lib.hid (show ∀ X, Below W.heap.size W X → X.heap[w.heap.size + 1 + 1]? = some (valB Val.zero) ∧ X.heap[w.heap.size + 1 + 1 + 1]? = some (.cells #[.bool false] 4) from
    fun X h => ⟨(h.block _ l2).trans j3, (h.block _ l3).trans j4⟩)
  have BW := Lib.hid jb
  have I1 := Lib.hid (H1.out.below jb)
  have I2 := Lib.hid (H2.out.below jb)
  obtain ⟨⟨a0, a1, a2, a3, a4, a5⟩, _⟩ := cells6 j1
  clear j1 j2 j3 j4 jb H1 H2
  go_upto_region 2 with (go_at_call 26; refine (callGr (IS.out _ (I1.out.below (by (repeat (with_reducible first | exact Below.refl _ _ | (refine bl_set ?_ (by first | omega | (simp; done) | (simp; omega)) _) | refine bl_gr ?_ _ | refine bl_al ?_ _ | refine below_setRow ?_ (by first | omega | (simp; done) | (simp; omega)) _ | refine bl_drewN ?_ _ | refine Below.drew ?_ | (refine bl_tr ?_ (by assumption)))))) (I2.out.below (by (repeat (with_reducible first | exact Below.refl _ _ | (refine bl_set ?_ (by first | omega | (simp; done) | (simp; omega)) _) | refine bl_gr ?_ _ | refine bl_al ?_ _ | refine below_setRow ?_ (by first | omega | (simp; done) | (simp; omega)) _ | refine bl_drewN ?_ _ | refine Below.drew ?_ | (refine bl_tr ?_ (by assumption)))))))).mono ?_; rintro e w' ⟨pp, rfl, rfl⟩)
  refine wp_world (fun X => Below W.heap.size W X) (by (repeat (with_reducible first | exact Below.refl _ _ | (refine bl_set ?_ (by first | omega | (simp; done) | (simp; omega)) _) | refine bl_gr ?_ _ | refine bl_al ?_ _ | refine below_setRow ?_ (by first | omega | (simp; done) | (simp; omega)) _ | refine bl_drewN ?_ _ | refine Below.drew ?_ | (refine bl_tr ?_ (by assumption))))) ?_
  intro X hX
  obtain ⟨k3, k4⟩ := KK.out X hX
  obtain ⟨x0, x1, x2, x3⟩ := cells3f k3
  obtain ⟨_, z1⟩ := cells1 k4
  have lX := hX.size
  have K34 := Lib.hid (And.intro k3 (And.intro k4 (bl_tr BW.out hX)))
  clear hX a0 a1 a2 a3 a4 a5 k3 k4
  go_wp2_with fail
  refine post_world (fun W6 => W6.heap[w.heap.size + 1 + 1]? = some (valB Val.zero) ∧ W6.heap[w.heap.size + 1 + 1 + 1]? = some (.cells #[.bool false] 4) ∧ Touch (fun k => k = w.heap.size + 1 + 1 ∨ k = w.heap.size + 1 + 1 + 1) X W6 ∧ Below w.heap.size w W6)
    (put_ans (v := Val.zero) K34.out.2.2 (by omega) (by omega) (by omega) K34.out.1 K34.out.2.1 false) ?_
  rintro W6 ⟨r1, r2, rt, rb⟩
  obtain ⟨e0, e1, e2⟩ := cells3 r1
  obtain ⟨e3, _⟩ := cells1 r2
  clear x0 x1 x2 x3 z1
  refine marks_ret0 (v := .tuple #[Val.zero.agg, .bool false]) ?_ rfl ⟨rfl, rb⟩
  clear r1 r2 rt rb
  simp [results, Try.results20, go_sem, *]
theorem get_any (sv mv : Value) (c : CellD) (key : Val) (hc : c.ok) (w : World) (h1 : IsV w sv c.sl) (h2 : IsV w mv c.mo) :
    Calls Try.prog 20 #[cellV c.k c.sh c.fl c.ag sv mv, key.agg] w fun e w' => e = .returned (.tuple #[(getC c key).agg, .bool (getB c key)]) ∧ Below w.heap.size w w' := by
  cases hb : isW c
  · have := get_no sv mv c key hc w h1 h2 hb
    rw [show getC c key = Val.zero by simp [getC, hb], show getB c key = false by simp [getB, hb]]
    exact this
  · obtain ⟨m, hm, _, _⟩ := isW_len hb
    have := get_yes sv mv c key hc m hm w h1 h2 hb
    rw [show getC c key = getV c.mo (getW key c.mo (List.finRange m)) by unfold getC; rw [if_pos hb, show c.mo.length / 2 = m by omega], show getB c key = (getW key c.mo (List.finRange m)).isSome by unfold getB; rw [hb, show c.mo.length / 2 = m by omega, Bool.true_and]]
    exact this
set_option maxRecDepth 100000 in
set_option maxHeartbeats 8000000 in
theorem opens_no (sv mv lv : Value) (c : CellD) (live : List Int) (hc : c.ok) (w : World) (h1 : IsV w sv c.sl) (h2 : IsV w mv c.mo) (h3 : IsI w lv live) (hb : isW c = false) :
    Calls Try.prog 11 #[cellV c.k c.sh c.fl c.ag sv mv, lv] w fun e w' => e = .returned (.slice none 0 0) ∧ Below w.heap.size w w' := by
  obtain ⟨A0, n0, rfl, _, _⟩ := h1.form
  obtain ⟨A2, n2, rfl, _, _⟩ := h2.form
  obtain ⟨A3, n3, rfl, _, _⟩ := h3.form
  have H1 := Lib.hid h1
  have H2 := Lib.hid h2
  have IS := Lib.hid (fun W a b => by have := is_any _ _ c hc W a b; rw [hb] at this; exact this : ∀ (W : World), IsV W (.slice A0 c.sl.length n0) c.sl → IsV W (.slice A2 c.mo.length n2) c.mo → Calls Try.prog 26 #[cellV c.k c.sh c.fl c.ag (.slice A0 c.sl.length n0) (.slice A2 c.mo.length n2)] W fun e w' => e = .returned (.bool false) ∧ Below W.heap.size W w')
  clear h1 h2 h3 hc hb
  refine callsIn_wide.1 (callsIn_of_wp_marks (n := 9) Try.func11 rfl trivial ?_ rfl)
  refine wpIn_wide.2 ?_
  simp only [Try.ntmps11, List.size_toArray, List.length_cons, List.length_nil, Nat.reduceAdd, Nat.reduceSub, Array.replicate_succ, Array.replicate_zero, List.push_toArray, List.append_toArray, List.nil_append, List.cons_append]
  go_wp2_with (go_at_call 26; refine (callGr (IS.out _ (H1.out.below (by (repeat (with_reducible first | exact Below.refl _ _ | (refine bl_set ?_ (by first | omega | (simp; done) | (simp; omega)) _) | refine bl_gr ?_ _ | refine bl_al ?_ _ | refine below_setRow ?_ (by first | omega | (simp; done) | (simp; omega)) _ | refine bl_drewN ?_ _ | refine Below.drew ?_ | (refine bl_tr ?_ (by assumption)))))) (H2.out.below (by (repeat (with_reducible first | exact Below.refl _ _ | (refine bl_set ?_ (by first | omega | (simp; done) | (simp; omega)) _) | refine bl_gr ?_ _ | refine bl_al ?_ _ | refine below_setRow ?_ (by first | omega | (simp; done) | (simp; omega)) _ | refine bl_drewN ?_ _ | refine Below.drew ?_ | (refine bl_tr ?_ (by assumption)))))))).mono ?_; rintro e w' ⟨pp, rfl, rfl⟩)
  exact marks_ret0 (results_tmp rfl _ _ _) rfl ⟨rfl, by (repeat (with_reducible first | exact Below.refl _ _ | (refine bl_set ?_ (by first | omega | (simp; done) | (simp; omega)) _) | refine bl_gr ?_ _ | refine bl_al ?_ _ | refine below_setRow ?_ (by first | omega | (simp; done) | (simp; omega)) _ | refine bl_drewN ?_ _ | refine Below.drew ?_ | (refine bl_tr ?_ (by assumption))))⟩
theorem opens_any (sv mv lv : Value) (c : CellD) (live : List Int) (hc : c.ok) (w : World) (h1 : IsV w sv c.sl) (h2 : IsV w mv c.mo) (h3 : IsI w lv live) :
    Calls Try.prog 11 #[cellV c.k c.sh c.fl c.ag sv mv, lv] w fun e w' => ∃ v, e = .returned v ∧ IsI w' v (opC c live) ∧ Below w.heap.size w w' := by
  cases hb : isW c
  · refine (opens_no sv mv lv c live hc w h1 h2 h3 hb).mono ?_
    rintro e w' ⟨rfl, h⟩
    refine ⟨_, rfl, ?_, h⟩
    rw [show opC c live = [] by simp [opC, hb]]
    exact .nil_
  · obtain ⟨m, hm, _, hmx⟩ := isW_len hb
    refine (opens_yes sv mv lv c live hc m hm hmx w h1 h2 h3 hb).mono ?_
    rintro e w' ⟨v, rfl, ho, h⟩
    refine ⟨_, rfl, ?_, h⟩
    rw [show opC c live = opL live c.mo (List.finRange m) by unfold opC; rw [if_pos hb, show c.mo.length / 2 = m by omega]]
    exact OwnI.isI ho
end Go.Proofs.Ytdikdkllbhanfaa
