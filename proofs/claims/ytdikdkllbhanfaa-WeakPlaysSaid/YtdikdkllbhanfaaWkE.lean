/- Weak maps: Get, by the program and by the reference. -/
import Derived.Test.YtdikdkllbhanfaaWkD
namespace Go.Proofs.Ytdikdkllbhanfaa
set_option linter.all false
open Go.RowKit Go.Sort Go.Deep Go.Shelf
attribute [local go_sem] Oper.semAt_some

theorem isW_len {c : CellD} (h : isW c = true) : ∃ m, c.mo.length = 2 * m ∧ c.k = 8 ∧ c.mo.length ≤ 1048576 := by
  unfold isW rightB at h
  simp only [Bool.and_eq_true, beq_iff_eq] at h
  obtain ⟨hk, _, _, _, hm⟩ := h
  unfold moreB at hm
  rw [hk] at hm
  cases hd : decide ((1048576 : Int) < c.mo.length)
  · rw [hd] at hm
    have h1 : entriesB 2 c.mo = true := hm
    unfold entriesB at h1
    rw [Bool.and_eq_true, beq_iff_eq] at h1
    have h0 := of_decide_eq_false hd
    exact ⟨c.mo.length / 2, by have := Nat.div_add_mod c.mo.length 2; omega, hk, by omega⟩
  · rw [hd] at hm
    cases hm
/-- the first entry with a key -/
def getW (key : Val) (mo : List Val) {m : Nat} (l : List (Fin m)) : Option (Fin m) := l.find? fun x => (vAt mo (2 * x.val)).eq key
def getV (mo : List Val) {m : Nat} : Option (Fin m) → Val | some x => vAt mo (2 * x.val + 1) | none => Val.zero
theorem cells3f {w : World} {b : Nat} {T : TypeId} {x y z : Value} (h : w.heap[b]? = some (.cells #[x, y, z] T)) : (w.cell? ⟨b, 0, none⟩ = some x ∧ w.cell? ⟨b, 1, none⟩ = some y ∧ w.cell? ⟨b, 2, none⟩ = some z) ∧ w.frozen? ⟨b, 0, none⟩ = false ∧ w.frozen? ⟨b, 1, none⟩ = false ∧ w.frozen? ⟨b, 2, none⟩ = false := by
  refine ⟨⟨?_, ?_, ?_⟩, ?_, ?_, ?_⟩
  all_goals first | (rw [cell_of_row w b _ _ _ _ h]; rfl) | exact frozen_of_row w b _ _ _ h
/-- the two answers of a look-up are stored -/
theorem put_ans {w Y : World} {a b : Nat} {u v : Val} {x : Bool} (hB : Below w.heap.size w Y) (ha : w.heap.size ≤ a) (hab : w.heap.size ≤ b) (hne : a ≠ b) (h1 : Y.heap[a]? = some (valB u)) (h2 : Y.heap[b]? = some (.cells #[.bool x] 4)) (y : Bool) :
    (((((Y.setCell ⟨a, 0, none⟩ (.int .i64 v.k)).setCell ⟨a, 1, none⟩ (.int .i64 v.n)).setCell ⟨a, 2, none⟩ (.string v.s)).setCell ⟨b, 0, none⟩ (.bool y)).heap[a]? = some (valB v)) ∧
    (((((Y.setCell ⟨a, 0, none⟩ (.int .i64 v.k)).setCell ⟨a, 1, none⟩ (.int .i64 v.n)).setCell ⟨a, 2, none⟩ (.string v.s)).setCell ⟨b, 0, none⟩ (.bool y)).heap[b]? = some (.cells #[.bool y] 4)) ∧
    Touch (fun k => k = a ∨ k = b) Y ((((Y.setCell ⟨a, 0, none⟩ (.int .i64 v.k)).setCell ⟨a, 1, none⟩ (.int .i64 v.n)).setCell ⟨a, 2, none⟩ (.string v.s)).setCell ⟨b, 0, none⟩ (.bool y)) ∧
    Below w.heap.size w ((((Y.setCell ⟨a, 0, none⟩ (.int .i64 v.k)).setCell ⟨a, 1, none⟩ (.int .i64 v.n)).setCell ⟨a, 2, none⟩ (.string v.s)).setCell ⟨b, 0, none⟩ (.bool y)) := by
  have T3 : Touch (fun k => k = a) Y (((Y.setCell ⟨a, 0, none⟩ (.int .i64 v.k)).setCell ⟨a, 1, none⟩ (.int .i64 v.n)).setCell ⟨a, 2, none⟩ (.string v.s)) := (((Touch.refl _ _).set1 _ _).set1 _ _).set1 _ _
  have e3 := heap_setCell_same _ _ 2 _ _ (.string v.s) (heap_setCell_same _ _ 1 _ _ (.int .i64 v.n) (heap_setCell_same _ _ 0 _ _ (.int .i64 v.k) h1))
  have lb := (Array.getElem?_eq_some_iff.1 h2).1
  refine ⟨(heap_setCell_other _ _ _ _ hne).trans e3, heap_setCell_same _ _ _ _ _ _ ((T3.block _ lb (Ne.symm hne)).trans h2), Touch.set (p := ⟨b, 0, none⟩) (T3.mono fun _ _ h => .inl h) (.inl (.inr rfl)) _, ?_⟩
  iterate 4 refine bl_set ?_ (by assumption) _
  exact hB
theorem heap4w (w : World) (a b c d : Obj) : ((((w.alloc a).alloc b).alloc c).alloc d).heap[w.heap.size]? = some a ∧ ((((w.alloc a).alloc b).alloc c).alloc d).heap[w.heap.size + 1]? = some b ∧ ((((w.alloc a).alloc b).alloc c).alloc d).heap[w.heap.size + 1 + 1]? = some c ∧
    ((((w.alloc a).alloc b).alloc c).alloc d).heap[w.heap.size + 1 + 1 + 1]? = some d ∧ Below w.heap.size w ((((w.alloc a).alloc b).alloc c).alloc d) := by
  obtain ⟨h1, h2, h3, h4, _, h6⟩ := heap4 w a b c d
  exact ⟨h1, h2, h3, h4, h6⟩

set_option maxRecDepth 100000 in
set_option maxHeartbeats 8000000 in
theorem get_yes (sv mv : Value) (c : CellD) (key : Val) (hc : c.ok) (m : Nat) (hm : c.mo.length = 2 * m) (w : World) (h1 : IsV w sv c.sl) (h2 : IsV w mv c.mo) (hb : isW c = true) :
    Calls Try.prog 20 #[cellV c.k c.sh c.fl c.ag sv mv, key.agg] w fun e w' => e = .returned (.tuple #[(getV c.mo (getW key c.mo (List.finRange m))).agg, .bool (getW key c.mo (List.finRange m)).isSome]) ∧ Below w.heap.size w w' := by
  obtain ⟨A0, n0, rfl, _, _⟩ := h1.form
  obtain ⟨A2, n2, rfl, hc2, _⟩ := h2.form
  have H1 := Lib.hid h1
  have H2 := Lib.hid h2
  have IS := Lib.hid (fun W a b => by have := is_any _ _ c hc W a b; rw [hb] at this; exact this : ∀ (W : World), IsV W (.slice A0 c.sl.length n0) c.sl → IsV W (.slice A2 c.mo.length n2) c.mo → Calls Try.prog 26 #[cellV c.k c.sh c.fl c.ag (.slice A0 c.sl.length n0) (.slice A2 c.mo.length n2)] W fun e w' => e = .returned (.bool true) ∧ Below W.heap.size W w')
  have HM := Lib.hid hm
  clear h1 h2 hm hc hb
  refine callsIn_wide.1 (callsIn_of_wp_marks (n := 9) Try.func20 rfl trivial ?_ rfl)
  refine wpIn_wide.2 ?_
  simp only [Try.ntmps20, List.size_toArray, List.length_cons, List.length_nil, Nat.reduceAdd, Nat.reduceSub, Array.replicate_succ, Array.replicate_zero, List.push_toArray, List.append_toArray, List.nil_append, List.cons_append]
  go_upto_region 1 with fail
  refine wp_world (fun W => W.heap[w.heap.size]? = some (cellO c.k c.sh c.fl c.ag (.slice A0 c.sl.length n0) (.slice A2 c.mo.length n2)) ∧ W.heap[w.heap.size + 1]? = some (valB key) ∧ W.heap[w.heap.size + 1 + 1]? = some (valB Val.zero) ∧ W.heap[w.heap.size + 1 + 1 + 1]? = some (.cells #[.bool false] 4) ∧ Below w.heap.size w W) (heap4w w _ _ _ _) ?_
  rintro W ⟨j1, j2, j3, j4, jb⟩
  have l0 : w.heap.size < W.heap.size := (Array.getElem?_eq_some_iff.1 j1).1
  have l1 : w.heap.size + 1 < W.heap.size := (Array.getElem?_eq_some_iff.1 j2).1
  have l2 : w.heap.size + 1 + 1 < W.heap.size := (Array.getElem?_eq_some_iff.1 j3).1
  have l3 : w.heap.size + 1 + 1 + 1 < W.heap.size := (Array.getElem?_eq_some_iff.1 j4).1
  have KK := Lib.hid (show ∀ X, Below W.heap.size W X → X.heap[w.heap.size]? = some (cellO c.k c.sh c.fl c.ag (.slice A0 c.sl.length n0) (.slice A2 c.mo.length n2)) ∧ X.heap[w.heap.size + 1]? = some (valB key) ∧ X.heap[w.heap.size + 1 + 1]? = some (valB Val.zero) ∧ X.heap[w.heap.size + 1 + 1 + 1]? = some (.cells #[.bool false] 4) from
    fun X h => ⟨(h.block _ l0).trans j1, (h.block _ l1).trans j2, (h.block _ l2).trans j3, (h.block _ l3).trans j4⟩)
  have BW := Lib.hid jb
  have I1 := Lib.hid (H1.out.below jb)
  have I2 := Lib.hid (H2.out.below jb)
  obtain ⟨⟨a0, a1, a2, a3, a4, a5⟩, _⟩ := cells6 j1
  clear j1 j2 j3 j4 jb H1 H2
  go_upto_region 4 with (first
    | (go_at_call 26; refine (callGr (IS.out _ (I1.out.below (by (repeat (with_reducible first | exact Below.refl _ _ | (refine bl_set ?_ (by first | omega | (simp; done) | (simp; omega)) _) | refine bl_gr ?_ _ | refine bl_al ?_ _ | refine below_setRow ?_ (by first | omega | (simp; done) | (simp; omega)) _ | refine bl_drewN ?_ _ | refine Below.drew ?_ | (refine bl_tr ?_ (by assumption)))))) (I2.out.below (by (repeat (with_reducible first | exact Below.refl _ _ | (refine bl_set ?_ (by first | omega | (simp; done) | (simp; omega)) _) | refine bl_gr ?_ _ | refine bl_al ?_ _ | refine below_setRow ?_ (by first | omega | (simp; done) | (simp; omega)) _ | refine bl_drewN ?_ _ | refine Below.drew ?_ | (refine bl_tr ?_ (by assumption)))))))).mono ?_; rintro e w' ⟨pp, rfl, rfl⟩)
    | (go_at_call 30; refine (entries_any _ _ _ _ _ _ _ _ _ _ _).mono ?_; rintro e w4 ⟨rfl, hw4⟩; have W4 := Lib.hid hw4; clear hw4))
  obtain ⟨E, hE, qE, hbr, sE⟩ : ∃ E, E = W.heap.size + pp.os.size ∧ w4.heap[E]? = some (cellO c.k c.sh c.fl c.ag (.slice A0 c.sl.length n0) (.slice A2 c.mo.length n2)) ∧ Below W.heap.size W w4 ∧ w4.heap.size = E + 1 :=
    ⟨_, rfl, by rw [W4.out, ← gr_size]; exact heap_alloc_new _ _, by rw [W4.out]; (repeat (with_reducible first | exact Below.refl _ _ | (refine bl_set ?_ (by first | omega | (simp; done) | (simp; omega)) _) | refine bl_gr ?_ _ | refine bl_al ?_ _ | refine below_setRow ?_ (by first | omega | (simp; done) | (simp; omega)) _ | refine bl_drewN ?_ _ | refine Below.drew ?_ | (refine bl_tr ?_ (by assumption)))), by rw [W4.out, World.size_alloc, gr_size]⟩
  have sW := hbr.size
  have hs1 := Nat.le_of_eq sE
  have hs2 := Nat.le_of_eq sE.symm
  clear sE
  rw [← hE]
  have HE := Lib.hid hE
  clear W4 a0 a1 a2 a3 a4 a5 hE
  have lE : W.heap.size ≤ E := by have := HE.out; omega
  refine (wpIn_wide (n := 9)).1 ?_
  refine wpIn_rangeFunc_ownH rfl (by omega) (gf := 45) (lb := #[.pointer (some ⟨E, 0, none⟩)]) rfl trivial (enters_of Try.func45 (by kernel_rfl) rfl)
    (entries_stops m c.k c.sh c.fl c.ag (.slice A0 c.sl.length n0) (.slice A2 c.mo.length n2) c.mo HM.out _ W w4 hbr qE I2.out) KpB.trans (KpB.put (by omega) (by omega)) (Below.refl _ _) (fun _ => rfl)
    (fun pre Y => (∀ x ∈ pre, (vAt c.mo (2 * x.val)).eq key = false) ∧ Below W.heap.size W Y ∧ w4.heap.size ≤ Y.heap.size ∧ Y.heap[E]? = some (cellO c.k c.sh c.fl c.ag (.slice A0 c.sl.length n0) (.slice A2 c.mo.length n2)))
    (fun c' pre Y => c' = .ret ∧ ∃ pre' x, pre = pre' ++ [x] ∧ (∀ y ∈ pre', (vAt c.mo (2 * y.val)).eq key = false) ∧ (vAt c.mo (2 * x.val)).eq key = true ∧ Y.heap[w.heap.size + 1 + 1]? = some (valB (vAt c.mo (2 * x.val + 1))) ∧ Y.heap[w.heap.size + 1 + 1 + 1]? = some (.cells #[.bool true] 4) ∧ Below w.heap.size w Y)
    (ownFrom_of fun s Y Y' ⟨q1, q6, q7, qe⟩ hs => ⟨q1, hs.below (by omega) q6 (Nat.le_refl _), Nat.le_trans q7 hs.size, hs.heap qe⟩)
    (fun _ => ownFrom_of fun _ Y Y' ⟨h, pre', x, e1, e2, e3, e4, e5, e6⟩ hs => ⟨h, pre', x, e1, e2, e3, hs.heap e4, hs.heap e5, hs.below (by omega) e6 (Nat.le_refl _)⟩)
    ⟨by simp, hbr, Nat.le_refl _, qE⟩
    (fun x a' Y => ∃ B6 B7, w4.heap.size ≤ B6 ∧ w4.heap.size ≤ B7 ∧ Y.heap[B6]? = some (valB (vAt c.mo (2 * x.val))) ∧ Y.heap[B7]? = some (valB (vAt c.mo (2 * x.val + 1))) ∧
      a' = { tmps := #[cellV c.k c.sh c.fl c.ag (.slice A0 c.sl.length n0) (.slice A2 c.mo.length n2), key.agg, .pointer (some ⟨w.heap.size, 0, none⟩), .pointer (some ⟨w.heap.size + 1, 0, none⟩), .pointer (some ⟨w.heap.size + 1 + 1, 0, none⟩), .pointer (some ⟨w.heap.size + 1 + 1 + 1, 0, none⟩), .pointer (some ⟨B6, 0, none⟩), .pointer (some ⟨B7, 0, none⟩), cellV c.k c.sh c.fl c.ag (.slice A0 c.sl.length n0) (.slice A2 c.mo.length n2), .bool true, .bool false, undef, cellV c.k c.sh c.fl c.ag (.slice A0 c.sl.length n0) (.slice A2 c.mo.length n2), .func (.func 45) #[] #[.pointer (some ⟨E, 0, none⟩)], (vAt c.mo (2 * x.val)).agg, (vAt c.mo (2 * x.val + 1)).agg, undef, undef, undef, undef, undef], defers := [] })
    (fun x a' => ownFrom_of fun _ Y Y' ⟨B6, B7, g1, g2, g3, g4, g5⟩ hs => ⟨B6, B7, g1, g2, hs.heap g3, hs.heap g4, g5⟩) ?assign ?body ?done ?stop
  case assign =>
    rintro l pre x Y K ⟨q1, q6, q7, qe⟩ hK
    have ll := (Array.getElem?_eq_some_iff.1 qe).1
    gi_wp2
    refine hK _ _ (((KeepsOthers.alloc _ _).from _).trans ((KeepsOthers.alloc _ _).from _)) ((KpB.alloc q6.size (by omega) _).trans (KpB.alloc (by simp; omega) (by simp; omega) _)) ?_ ?_
    · have hb := bl_al (bl_al (Below.refl Y.heap.size Y) (valB (vAt c.mo (2 * x.val)))) (valB (vAt c.mo (2 * x.val + 1)))
      exact ⟨q1, q6.trans (hb.mono q6.size), Nat.le_trans q7 hb.size, (hb.block _ ll).trans qe⟩
    · exact ⟨Y.heap.size, Y.heap.size + 1, q7, by omega, (heap_alloc_old _ _ (by simp)).trans (heap_alloc_new _ _), by have := heap_alloc_new (Y.alloc (valB (vAt c.mo (2 * x.val)))) (valB (vAt c.mo (2 * x.val + 1))); simpa using this, rfl⟩
  case body =>
    rintro l pre x a' Y hl hr ⟨q1, q6, q7, qe⟩ ⟨B6, B7, g1, g2, g3, g4, rfl⟩ hlt
    have lB := q6.size
    obtain ⟨k1, k2, k3, k4⟩ := KK.out Y q6
    obtain ⟨t0, t1, t2⟩ := cells3 k2
    obtain ⟨u0, u1, u2⟩ := cells3 g3
    obtain ⟨v0, v1, v2⟩ := cells3 g4
    have lK := (Array.getElem?_eq_some_iff.1 k2).1
    have l6 := (Array.getElem?_eq_some_iff.1 g3).1
    have l7 := (Array.getElem?_eq_some_iff.1 g4).1
    have lE := (Array.getElem?_eq_some_iff.1 qe).1
    obtain ⟨_, y0, y1, y2⟩ := cells3f k3
    obtain ⟨_, z1⟩ := cells1 k4
    have INV := Lib.hid (And.intro q1 (And.intro q6 (And.intro q7 qe)))
    have K34 := Lib.hid (And.intro k3 k4)
    have n67 : B7 ≠ w.heap.size + 1 + 1 := by omega
    clear q1 q6 q7 qe k1 k2 k3 k4 g3 g4 hr hl
    cases he : (vAt c.mo (2 * x.val)).eq key
    · have HE2 := Lib.hid he
      generalize hu : vAt c.mo (2 * x.val) = u at *
      generalize hv : vAt c.mo (2 * x.val + 1) = v at *
      have EU := Lib.hid (And.intro hu hv)
      have he' : (Val.mk u.k u.n u.s).eq ⟨key.k, key.n, key.s⟩ = false := he
      clear he hu hv
      gi_wp2_with (refine ⟨trivial, ?_⟩)
      obtain ⟨q1, q6, q7, qe⟩ := INV.out
      exact ⟨KeepsFrom.refl _ _, KpB.refl _ _ _, fun y hy => by
        rcases List.mem_append.1 hy with hy | hy
        · exact q1 y hy
        · rw [List.mem_singleton.1 hy, EU.out.1]; exact HE2.out, q6, q7, qe⟩
    · have HE2 := Lib.hid he
      generalize hu : vAt c.mo (2 * x.val) = u at *
      generalize hv : vAt c.mo (2 * x.val + 1) = v at *
      have EU := Lib.hid (And.intro hu hv)
      have he' : (Val.mk u.k u.n u.s).eq ⟨key.k, key.n, key.s⟩ = true := he
      clear he hu hv
      gi_wp2_with (refine ⟨trivial, ?_⟩)
      obtain ⟨q1, q6, q7, qe⟩ := INV.out
      obtain ⟨p1, p2, p3, p4⟩ := put_ans (v := v) (show Below w.heap.size w Y from bl_tr BW.out q6) (by omega) (by omega) (by omega) K34.out.1 K34.out.2 true
      exact ⟨keeps_touch p3 (fun k hk => by rcases hk with rfl | rfl; exact ⟨_, _, K34.out.1⟩; exact ⟨_, _, K34.out.2⟩), rfl, pre, x, rfl, q1, (by rw [EU.out.1]; exact HE2.out), (by rw [EU.out.2]; exact p1), p2, p4⟩
  case done =>
    rintro D ys Y hD rfl ⟨q1, q6, q7, qe⟩ hK
    have EA := Lib.hid (show getW key c.mo (List.finRange m) = none from List.find?_eq_none.2 fun x hx => by rw [q1 x hx]; simp)
    obtain ⟨k1, k2, k3, k4⟩ := KK.out Y q6
    obtain ⟨x0, x1, x2, x3⟩ := cells3f k3
    obtain ⟨_, z1⟩ := cells1 k4
    have lB := q6.size
    have K34 := Lib.hid (And.intro k3 (And.intro k4 (And.intro (bl_tr BW.out q6) (And.intro hD hK))))
    clear q1 q6 q7 qe k1 k2 k3 k4 hD hK
    go_wp2
    refine post_world (fun W6 => W6.heap[w.heap.size + 1 + 1]? = some (valB Val.zero) ∧ W6.heap[w.heap.size + 1 + 1 + 1]? = some (.cells #[.bool false] 4) ∧ Touch (fun k => k = w.heap.size + 1 + 1 ∨ k = w.heap.size + 1 + 1 + 1) Y W6 ∧ Below w.heap.size w W6)
      (put_ans (v := Val.zero) K34.out.2.2.1 (by omega) (by omega) (by omega) K34.out.1 K34.out.2.1 false) ?_
    rintro W6 ⟨r1, r2, rt, rb⟩
    have nD : ∀ k, k = w.heap.size + 1 + 1 ∨ k = w.heap.size + 1 + 1 + 1 → k ≠ D := fun k hk e => by
      subst e
      have h := K34.out.2.2.2.2
      rcases hk with hk | hk
      · rw [hk, K34.out.1] at h; cases h
      · rw [hk, K34.out.2.1] at h; cases h
    have lD := (Array.getElem?_eq_some_iff.1 K34.out.2.2.2.2).1
    have rD := (rt.block D lD (fun h => nD _ h rfl)).trans K34.out.2.2.2.2
    have r1' := (heap_put (.deferred none) (nD _ (.inl rfl))).trans r1
    have r2' := (heap_put (.deferred none) (nD _ (.inr rfl))).trans r2
    obtain ⟨e0, e1, e2⟩ := cells3 r1'
    obtain ⟨e3, _⟩ := cells1 r2'
    refine marks_ret1 rD (v := .tuple #[Val.zero.agg, .bool false]) ?_ rfl ⟨by rw [EA.out]; rfl, below_put rb (by have := K34.out.2.2.2.1; omega) _⟩
    clear r1 r2 r1' r2' rt rb rD nD lD
    simp [results, Try.results20, go_sem, *]
  case stop =>
    rintro D c' pre Y hD hpre ⟨rfl, pre', x, rfl, q1, q2, r1, r2, rb⟩ hK
    have EA := Lib.hid (show getW key c.mo (List.finRange m) = some x by
      obtain ⟨t, ht⟩ := hpre
      unfold getW
      rw [← ht, List.find?_append, List.find?_append, List.find?_eq_none.2 (fun y hy => by rw [q1 y hy]; simp)]
      simp [q2])
    have HD := Lib.hid (And.intro hD (And.intro hK rb))
    have n1 : w.heap.size + 1 + 1 ≠ D := fun e => by rw [← e, r1] at hK; cases hK
    have n2 : w.heap.size + 1 + 1 + 1 ≠ D := fun e => by rw [← e, r2] at hK; cases hK
    have r1' := (heap_put (.deferred none) n1).trans r1
    have r2' := (heap_put (.deferred none) n2).trans r2
    clear q1 q2 r1 r2 rb hD hK hpre
    gi_wp2
    obtain ⟨e0, e1, e2⟩ := cells3 r1'
    obtain ⟨e3, _⟩ := cells1 r2'
    refine marks_ret1 HD.out.2.1 (v := .tuple #[(vAt c.mo (2 * x.val + 1)).agg, .bool true]) ?_ rfl ⟨by rw [EA.out]; rfl, below_put HD.out.2.2 (by have := HD.out.1; omega) _⟩
    clear r1' r2' n1 n2
    simp [results, Try.results20, go_sem, *]
end Go.Proofs.Ytdikdkllbhanfaa
