/- Weak maps: the law WeakTells, walked. -/
import Derived.Test.YtdikdkllbhanfaaWkXa
namespace Go.Proofs.Ytdikdkllbhanfaa
set_option linter.all false
open Go.RowKit Go.Sort Go.Deep Go.Shelf

set_option maxRecDepth 100000 in
set_option maxHeartbeats 64000000 in
theorem weakTells_any (sv mv : Value) (c : CellD) (key v : Val) (hc : c.ok) (hk : key.ok) (hv : v.ok) (w : World) (h1 : IsV w sv c.sl) (h2 : IsV w mv c.mo) :
    Calls Try.prog 4 #[cellV c.k c.sh c.fl c.ag sv mv, key.agg, v.agg] w fun e w' => e = .returned (.bool true) ∧ Below w.heap.size w w' := by
  obtain ⟨A1, n1, rfl, c1, m1⟩ := h1.form
  obtain ⟨A2, n2, rfl, c2, m2⟩ := h2.form
  have H1 := Lib.hid h1
  have H2 := Lib.hid h2
  obtain ⟨okD, ld1, ld2⟩ := few_ok hc
  have fitD : (fewC c).fit := fit_of (by omega) (by omega)
  obtain ⟨ok2, l21, l22⟩ := set_ok okD hk hv
  have e1 : min c.sl.length 60 = (fewC c).sl.length := by show _ = (c.sl.take 60).length; rw [List.length_take, Nat.min_comm]
  have e2 : min c.mo.length 120 = (fewC c).mo.length := by show _ = (c.mo.take 120).length; rw [List.length_take, Nat.min_comm]
  have FEW := Lib.hid (fun W => by have := few_any c.k c.sh c.fl c.ag A1 A2 c.sl.length n1 c.mo.length n2 c1 c2 m1 m2 W; rw [e1, e2] at this; exact this : ∀ W : World, Calls Try.prog 8 #[cellV c.k c.sh c.fl c.ag (.slice A1 c.sl.length n1) (.slice A2 c.mo.length n2)] W fun e w' => e = .returned (cellV c.k c.sh c.fl c.ag (.slice A1 (fewC c).sl.length n1) (.slice A2 (fewC c).mo.length n2)) ∧ Below W.heap.size W w')
  have T1 := Lib.hid (show ∀ W : World, Below w.heap.size w W → IsV W (.slice A1 (fewC c).sl.length n1) (fewC c).sl from fun W hb => isV_take' (H1.out.below hb) 60)
  have T2 := Lib.hid (show ∀ W : World, Below w.heap.size w W → IsV W (.slice A2 (fewC c).mo.length n2) (fewC c).mo from fun W hb => isV_take' (H2.out.below hb) 120)
  have CP := Lib.hid (fun W a b => rcopied_any (.slice A1 (fewC c).sl.length n1) (.slice A2 (fewC c).mo.length n2) (fewC c) fitD W a b)
  have SET := Lib.hid (fun W a b => set_any (.slice A1 (fewC c).sl.length n1) (.slice A2 (fewC c).mo.length n2) (fewC c) key v okD fitD (by omega) hk hv W a b)
  have RSET := Lib.hid (fun W a b => rset_any (.slice A1 (fewC c).sl.length n1) (.slice A2 (fewC c).mo.length n2) (fewC c) key v okD fitD (by omega) hk hv W a b)
  have DEL := Lib.hid (fun W a b => delete_any (.slice A1 (fewC c).sl.length n1) (.slice A2 (fewC c).mo.length n2) (fewC c) key okD fitD W a b)
  have RDEL := Lib.hid (fun W a b => by have := rdelete_any (.slice A1 (fewC c).sl.length n1) (.slice A2 (fewC c).mo.length n2) (fewC c) key okD fitD W a b; rw [← del_get] at this; exact this : ∀ (W : World), IsV W (.slice A1 (fewC c).sl.length n1) (fewC c).sl → IsV W (.slice A2 (fewC c).mo.length n2) (fewC c).mo → Calls Try.prog 19 #[cellV (fewC c).k (fewC c).sh (fewC c).fl (fewC c).ag (.slice A1 (fewC c).sl.length n1) (.slice A2 (fewC c).mo.length n2), key.agg] W (RetP W (delC (fewC c) key) (.bool (delB (fewC c) key))))
  have GET := Lib.hid (fun W a b => get_any (.slice A1 (fewC c).sl.length n1) (.slice A2 (fewC c).mo.length n2) (fewC c) key okD W a b)
  have RGET := Lib.hid (fun W a b => rget_any (.slice A1 (fewC c).sl.length n1) (.slice A2 (fewC c).mo.length n2) (fewC c) key okD W a b)
  have LEN := Lib.hid (fun W a b => len_any (.slice A1 (fewC c).sl.length n1) (.slice A2 (fewC c).mo.length n2) (fewC c) okD W a b)
  have RLEN := Lib.hid (fun W a b => rlen_any (.slice A1 (fewC c).sl.length n1) (.slice A2 (fewC c).mo.length n2) (fewC c) okD W a b)
  have GE2 := Lib.hid (fun sv mv W a b => get_any sv mv (setC (fewC c) key v) key ok2 W a b)
  have RI2 := Lib.hid (fun sv mv W a b => rright_any sv mv (setC (fewC c) key v) ok2 W a b)
  have LAW := Lib.hid (show setE (fewC c) key v = 0 → getC (setC (fewC c) key v) key = v ∧ getB (setC (fewC c) key v) key = true ∧ rightB (setC (fewC c) key v) = true from fun hs =>
    tells (setE_zero hs).1 (setE_zero hs).2 (by omega))
  have SE := Lib.hid (show setE (fewC c) key v = 0 ∨ (setE (fewC c) key v != 0) = true by
    by_cases h : setE (fewC c) key v = 0
    · exact .inl h
    · exact .inr (bne_iff_ne.2 h))
  have ek : (fewC c).k = c.k ∧ (fewC c).sh = c.sh ∧ (fewC c).fl = c.fl ∧ (fewC c).ag = c.ag := ⟨rfl, rfl, rfl, rfl⟩
  clear h1 h2 c1 c2 m1 m2 okD ld1 ld2 fitD ok2 l21 l22 e1 e2 hc hk hv H1 H2
  generalize setE (fewC c) key v = E2 at *
  generalize setC (fewC c) key v = X2 at *
  generalize delB (fewC c) key = B1 at *
  generalize delC (fewC c) key = X1 at *
  generalize getC (fewC c) key = GV at *
  generalize getB (fewC c) key = GB at *
  generalize lenW (fewC c) = ll at *
  obtain ⟨dk, ds, df, da⟩ := ek
  generalize fewC c = D at *
  rw [← dk, ← ds, ← df, ← da] at FEW ⊢
  clear dk ds df da
  go_enter Try.func4, Try.ntmps4
  go_upto_region 1 with fail
  refine wp_world (fun W => W.heap[w.heap.size]? = some (cellO D.k D.sh D.fl D.ag (.slice A1 c.sl.length n1) (.slice A2 c.mo.length n2)) ∧ W.heap[w.heap.size + 1]? = some (valB key) ∧ W.heap[w.heap.size + 1 + 1]? = some (valB v) ∧ Below w.heap.size w W) (heap3 w _ _ _) ?_
  rintro W ⟨j1, j2, j3, jb⟩
  have g0 : w.heap.size < W.heap.size := (Array.getElem?_eq_some_iff.1 j1).1
  have g1 : w.heap.size + 1 < W.heap.size := (Array.getElem?_eq_some_iff.1 j2).1
  have g2 : w.heap.size + 1 + 1 < W.heap.size := (Array.getElem?_eq_some_iff.1 j3).1
  obtain ⟨⟨a0, a1, a2, a3, a4, a5⟩, f0, f1, f2, f3, f4, f5⟩ := cells6 j1
  have J := Lib.hid (And.intro j1 (And.intro j2 (And.intro j3 jb)))
  clear j1 j2 j3 jb
  go_upto_region 4 with (first | (go_at_call 7; refine (callGr (awake_any _)).mono ?_; rintro e w' ⟨pp, rfl, rfl⟩) | (go_at_call 8; refine (callGr (FEW.out _)).mono ?_; rintro e w' ⟨pp, rfl, rfl⟩))
  refine wp_world (fun Y => Y.heap[w.heap.size]? = some (cellO D.k D.sh D.fl D.ag (.slice A1 D.sl.length n1) (.slice A2 D.mo.length n2)) ∧ Y.heap[w.heap.size + 1]? = some (valB key) ∧ Y.heap[w.heap.size + 1 + 1]? = some (valB v) ∧ Below w.heap.size w Y) ?_ ?_
  · have P := put6 (k' := D.k) (sh' := D.sh) (fl' := D.fl) (ag' := D.ag) (s' := .slice A1 D.sl.length n1) (mm' := .slice A2 D.mo.length n2) J.out.2.2.2 (Nat.le_refl _) J.out.1
    exact ⟨((below_gr _ _).block _ (by simpa using g0)).trans P.1, ((below_gr _ _).block _ (by simpa using g1)).trans ((P.2.1.block _ g1 (fun (e : _ = _) => by omega)).trans J.out.2.1), ((below_gr _ _).block _ (by simpa using g2)).trans ((P.2.1.block _ g2 (fun (e : _ = _) => by omega)).trans J.out.2.2.1), bl_gr P.2.2 _⟩
  rintro Y ⟨j1, j2, j3, jb⟩
  have g0 : w.heap.size < Y.heap.size := (Array.getElem?_eq_some_iff.1 j1).1
  have g1 : w.heap.size + 1 < Y.heap.size := (Array.getElem?_eq_some_iff.1 j2).1
  have g2 : w.heap.size + 1 + 1 < Y.heap.size := (Array.getElem?_eq_some_iff.1 j3).1
  have I1 := Lib.hid (T1.out Y jb)
  have I2 := Lib.hid (T2.out Y jb)
  have BY := Lib.hid jb
  clear a0 a1 a2 a3 a4 a5 f0 f1 f2 f3 f4 f5 J FEW T1 T2 jb
  have FC := Lib.hid (And.intro j1 (And.intro I1.out I2.out))
  have FK := Lib.hid j2
  have FV := Lib.hid j3
  have BB := Lib.hid (Below.refl Y.heap.size Y)
  clear j1 j2 j3 I1 I2
  obtain ⟨⟨a0, a1, a2, a3, a4, a5⟩, _⟩ := cells6 FC.out.1
  obtain ⟨t0, t1, t2⟩ := cells3 FK.out
  obtain ⟨u0, u1, u2⟩ := cells3 FV.out
  go_upto_region 5 with (go_at_call 9; refine (CP.out _ FC.out.2.1 FC.out.2.2).mono ?_; rintro e w11 ⟨A11, n11, A31, n31, rfl, o1, o2, _, hb⟩; have RR := Lib.hid (And.intro (OwnV.isV o1) (And.intro (OwnV.isV o2) hb)); clear o1 o2 hb)
  refine wp_world (fun Z => Z.heap[w11.heap.size]? = some (cellO D.k D.sh D.fl D.ag (.slice A11 D.sl.length n11) (.slice A31 D.mo.length n31)) ∧ Below w11.heap.size w11 Z) ⟨heap_alloc_new _ _, bl_al (Below.refl _ _) _⟩ ?_
  rintro Z1 ⟨z0, zb⟩
  have b1 : Below Y.heap.size Y Z1 := bl_tr RR.out.2.2 zb
  clear a0 a1 a2 a3 a4 a5 t0 t1 t2 u0 u1 u2
  replace FC := Lib.hid (show Z1.heap[w.heap.size]? = some (cellO D.k D.sh D.fl D.ag (.slice A1 D.sl.length n1) (.slice A2 D.mo.length n2)) ∧ IsV Z1 (.slice A1 D.sl.length n1) D.sl ∧ IsV Z1 (.slice A2 D.mo.length n2) D.mo from ⟨(b1.block _ (Array.getElem?_eq_some_iff.1 FC.out.1).1).trans FC.out.1, FC.out.2.1.below b1, FC.out.2.2.below b1⟩)
  replace FK := Lib.hid ((b1.block _ (Array.getElem?_eq_some_iff.1 FK.out).1).trans FK.out)
  replace FV := Lib.hid ((b1.block _ (Array.getElem?_eq_some_iff.1 FV.out).1).trans FV.out)
  replace BB := Lib.hid (bl_tr BB.out b1)
  have F1 := Lib.hid (And.intro z0 (And.intro (RR.out.1.below zb) (RR.out.2.1.below zb)))
  clear z0 zb RR b1
  obtain ⟨⟨a0, a1, a2, a3, a4, a5⟩, _⟩ := cells6 FC.out.1
  obtain ⟨t0, t1, t2⟩ := cells3 FK.out
  obtain ⟨u0, u1, u2⟩ := cells3 FV.out
  go_upto_region 6 with (go_at_call 16; refine (SET.out _ FC.out.2.1 FC.out.2.2).mono ?_; rintro e w12 ⟨A12, n12, A32, n32, rfl, o1, o2, hb⟩; have RR := Lib.hid (And.intro (o1) (And.intro (o2) hb)); clear o1 o2 hb)
  refine wp_world (fun Z => Z.heap[w12.heap.size]? = some (cellO X2.k X2.sh X2.fl X2.ag (.slice A12 X2.sl.length n12) (.slice A32 X2.mo.length n32)) ∧ Below w12.heap.size w12 Z) ⟨heap_alloc_new _ _, bl_al (Below.refl _ _) _⟩ ?_
  rintro Z2 ⟨z0, zb⟩
  have b2 : Below Z1.heap.size Z1 Z2 := bl_tr RR.out.2.2 zb
  clear a0 a1 a2 a3 a4 a5 t0 t1 t2 u0 u1 u2
  replace FC := Lib.hid (show Z2.heap[w.heap.size]? = some (cellO D.k D.sh D.fl D.ag (.slice A1 D.sl.length n1) (.slice A2 D.mo.length n2)) ∧ IsV Z2 (.slice A1 D.sl.length n1) D.sl ∧ IsV Z2 (.slice A2 D.mo.length n2) D.mo from ⟨(b2.block _ (Array.getElem?_eq_some_iff.1 FC.out.1).1).trans FC.out.1, FC.out.2.1.below b2, FC.out.2.2.below b2⟩)
  replace FK := Lib.hid ((b2.block _ (Array.getElem?_eq_some_iff.1 FK.out).1).trans FK.out)
  replace FV := Lib.hid ((b2.block _ (Array.getElem?_eq_some_iff.1 FV.out).1).trans FV.out)
  replace BB := Lib.hid (bl_tr BB.out b2)
  replace F1 := Lib.hid (And.intro ((b2.block _ (Array.getElem?_eq_some_iff.1 F1.out.1).1).trans F1.out.1) (And.intro (F1.out.2.1.below b2) (F1.out.2.2.below b2)))
  have F2 := Lib.hid (And.intro z0 (And.intro (RR.out.1.below zb) (RR.out.2.1.below zb)))
  clear z0 zb RR b2
  obtain ⟨⟨a0, a1, a2, a3, a4, a5⟩, _⟩ := cells6 FC.out.1
  obtain ⟨t0, t1, t2⟩ := cells3 FK.out
  obtain ⟨u0, u1, u2⟩ := cells3 FV.out
  go_upto_region 7 with (go_at_call 17; refine (RSET.out _ FC.out.2.1 FC.out.2.2).mono ?_; rintro e w13 ⟨A13, n13, A33, n33, rfl, o1, o2, hb⟩; have RR := Lib.hid (And.intro (o1) (And.intro (o2) hb)); clear o1 o2 hb)
  refine wp_world (fun Z => Z.heap[w13.heap.size]? = some (cellO X2.k X2.sh X2.fl X2.ag (.slice A13 X2.sl.length n13) (.slice A33 X2.mo.length n33)) ∧ Below w13.heap.size w13 Z) ⟨heap_alloc_new _ _, bl_al (Below.refl _ _) _⟩ ?_
  rintro Z3 ⟨z0, zb⟩
  have b3 : Below Z2.heap.size Z2 Z3 := bl_tr RR.out.2.2 zb
  clear a0 a1 a2 a3 a4 a5 t0 t1 t2 u0 u1 u2
  replace FC := Lib.hid (show Z3.heap[w.heap.size]? = some (cellO D.k D.sh D.fl D.ag (.slice A1 D.sl.length n1) (.slice A2 D.mo.length n2)) ∧ IsV Z3 (.slice A1 D.sl.length n1) D.sl ∧ IsV Z3 (.slice A2 D.mo.length n2) D.mo from ⟨(b3.block _ (Array.getElem?_eq_some_iff.1 FC.out.1).1).trans FC.out.1, FC.out.2.1.below b3, FC.out.2.2.below b3⟩)
  replace FK := Lib.hid ((b3.block _ (Array.getElem?_eq_some_iff.1 FK.out).1).trans FK.out)
  replace FV := Lib.hid ((b3.block _ (Array.getElem?_eq_some_iff.1 FV.out).1).trans FV.out)
  replace BB := Lib.hid (bl_tr BB.out b3)
  replace F1 := Lib.hid (And.intro ((b3.block _ (Array.getElem?_eq_some_iff.1 F1.out.1).1).trans F1.out.1) (And.intro (F1.out.2.1.below b3) (F1.out.2.2.below b3)))
  replace F2 := Lib.hid (And.intro ((b3.block _ (Array.getElem?_eq_some_iff.1 F2.out.1).1).trans F2.out.1) (And.intro (F2.out.2.1.below b3) (F2.out.2.2.below b3)))
  have F3 := Lib.hid (And.intro z0 (And.intro (RR.out.1.below zb) (RR.out.2.1.below zb)))
  clear z0 zb RR b3
  obtain ⟨⟨a0, a1, a2, a3, a4, a5⟩, _⟩ := cells6 FC.out.1
  obtain ⟨t0, t1, t2⟩ := cells3 FK.out
  obtain ⟨u0, u1, u2⟩ := cells3 FV.out
  go_upto_region 8 with (go_at_call 18; refine (DEL.out _ FC.out.2.1 FC.out.2.2).mono ?_; rintro e w14 ⟨A14, n14, A34, n34, rfl, o1, o2, hb⟩; have RR := Lib.hid (And.intro (o1) (And.intro (o2) hb)); clear o1 o2 hb)
  refine wp_world (fun Z => Z.heap[w14.heap.size]? = some (cellO X1.k X1.sh X1.fl X1.ag (.slice A14 X1.sl.length n14) (.slice A34 X1.mo.length n34)) ∧ Below w14.heap.size w14 Z) ⟨heap_alloc_new _ _, bl_al (Below.refl _ _) _⟩ ?_
  rintro Z4 ⟨z0, zb⟩
  have b4 : Below Z3.heap.size Z3 Z4 := bl_tr RR.out.2.2 zb
  clear a0 a1 a2 a3 a4 a5 t0 t1 t2 u0 u1 u2
  replace FC := Lib.hid (show Z4.heap[w.heap.size]? = some (cellO D.k D.sh D.fl D.ag (.slice A1 D.sl.length n1) (.slice A2 D.mo.length n2)) ∧ IsV Z4 (.slice A1 D.sl.length n1) D.sl ∧ IsV Z4 (.slice A2 D.mo.length n2) D.mo from ⟨(b4.block _ (Array.getElem?_eq_some_iff.1 FC.out.1).1).trans FC.out.1, FC.out.2.1.below b4, FC.out.2.2.below b4⟩)
  replace FK := Lib.hid ((b4.block _ (Array.getElem?_eq_some_iff.1 FK.out).1).trans FK.out)
  replace FV := Lib.hid ((b4.block _ (Array.getElem?_eq_some_iff.1 FV.out).1).trans FV.out)
  replace BB := Lib.hid (bl_tr BB.out b4)
  replace F1 := Lib.hid (And.intro ((b4.block _ (Array.getElem?_eq_some_iff.1 F1.out.1).1).trans F1.out.1) (And.intro (F1.out.2.1.below b4) (F1.out.2.2.below b4)))
  replace F2 := Lib.hid (And.intro ((b4.block _ (Array.getElem?_eq_some_iff.1 F2.out.1).1).trans F2.out.1) (And.intro (F2.out.2.1.below b4) (F2.out.2.2.below b4)))
  replace F3 := Lib.hid (And.intro ((b4.block _ (Array.getElem?_eq_some_iff.1 F3.out.1).1).trans F3.out.1) (And.intro (F3.out.2.1.below b4) (F3.out.2.2.below b4)))
  have F4 := Lib.hid (And.intro z0 (And.intro (RR.out.1.below zb) (RR.out.2.1.below zb)))
  clear z0 zb RR b4
  obtain ⟨⟨a0, a1, a2, a3, a4, a5⟩, _⟩ := cells6 FC.out.1
  obtain ⟨t0, t1, t2⟩ := cells3 FK.out
  obtain ⟨u0, u1, u2⟩ := cells3 FV.out
  go_upto_region 9 with (go_at_call 19; refine (RDEL.out _ FC.out.2.1 FC.out.2.2).mono ?_; rintro e w15 ⟨A15, n15, A35, n35, rfl, o1, o2, hb⟩; have RR := Lib.hid (And.intro (o1) (And.intro (o2) hb)); clear o1 o2 hb)
  refine wp_world (fun Z => Z.heap[w15.heap.size]? = some (cellO X1.k X1.sh X1.fl X1.ag (.slice A15 X1.sl.length n15) (.slice A35 X1.mo.length n35)) ∧ Below w15.heap.size w15 Z) ⟨heap_alloc_new _ _, bl_al (Below.refl _ _) _⟩ ?_
  rintro Z5 ⟨z0, zb⟩
  have b5 : Below Z4.heap.size Z4 Z5 := bl_tr RR.out.2.2 zb
  clear a0 a1 a2 a3 a4 a5 t0 t1 t2 u0 u1 u2
  replace FC := Lib.hid (show Z5.heap[w.heap.size]? = some (cellO D.k D.sh D.fl D.ag (.slice A1 D.sl.length n1) (.slice A2 D.mo.length n2)) ∧ IsV Z5 (.slice A1 D.sl.length n1) D.sl ∧ IsV Z5 (.slice A2 D.mo.length n2) D.mo from ⟨(b5.block _ (Array.getElem?_eq_some_iff.1 FC.out.1).1).trans FC.out.1, FC.out.2.1.below b5, FC.out.2.2.below b5⟩)
  replace FK := Lib.hid ((b5.block _ (Array.getElem?_eq_some_iff.1 FK.out).1).trans FK.out)
  replace FV := Lib.hid ((b5.block _ (Array.getElem?_eq_some_iff.1 FV.out).1).trans FV.out)
  replace BB := Lib.hid (bl_tr BB.out b5)
  replace F1 := Lib.hid (And.intro ((b5.block _ (Array.getElem?_eq_some_iff.1 F1.out.1).1).trans F1.out.1) (And.intro (F1.out.2.1.below b5) (F1.out.2.2.below b5)))
  replace F2 := Lib.hid (And.intro ((b5.block _ (Array.getElem?_eq_some_iff.1 F2.out.1).1).trans F2.out.1) (And.intro (F2.out.2.1.below b5) (F2.out.2.2.below b5)))
  replace F3 := Lib.hid (And.intro ((b5.block _ (Array.getElem?_eq_some_iff.1 F3.out.1).1).trans F3.out.1) (And.intro (F3.out.2.1.below b5) (F3.out.2.2.below b5)))
  replace F4 := Lib.hid (And.intro ((b5.block _ (Array.getElem?_eq_some_iff.1 F4.out.1).1).trans F4.out.1) (And.intro (F4.out.2.1.below b5) (F4.out.2.2.below b5)))
  have F5 := Lib.hid (And.intro z0 (And.intro (RR.out.1.below zb) (RR.out.2.1.below zb)))
  clear z0 zb RR b5
  obtain ⟨⟨a0, a1, a2, a3, a4, a5⟩, _⟩ := cells6 FC.out.1
  obtain ⟨t0, t1, t2⟩ := cells3 FK.out
  obtain ⟨u0, u1, u2⟩ := cells3 FV.out
  go_upto_region 10 with (go_at_call 20; refine (GET.out _ FC.out.2.1 FC.out.2.2).mono ?_; rintro e w16 ⟨rfl, hb⟩; have RR := Lib.hid hb; clear hb)
  refine wp_world (fun Z => Z.heap[w16.heap.size]? = some (valB GV) ∧ Below w16.heap.size w16 Z) ⟨heap_alloc_new _ _, bl_al (Below.refl _ _) _⟩ ?_
  rintro Z6 ⟨z0, zb⟩
  have b6 : Below Z5.heap.size Z5 Z6 := bl_tr RR.out zb
  clear a0 a1 a2 a3 a4 a5 t0 t1 t2 u0 u1 u2
  replace FC := Lib.hid (show Z6.heap[w.heap.size]? = some (cellO D.k D.sh D.fl D.ag (.slice A1 D.sl.length n1) (.slice A2 D.mo.length n2)) ∧ IsV Z6 (.slice A1 D.sl.length n1) D.sl ∧ IsV Z6 (.slice A2 D.mo.length n2) D.mo from ⟨(b6.block _ (Array.getElem?_eq_some_iff.1 FC.out.1).1).trans FC.out.1, FC.out.2.1.below b6, FC.out.2.2.below b6⟩)
  replace FK := Lib.hid ((b6.block _ (Array.getElem?_eq_some_iff.1 FK.out).1).trans FK.out)
  replace FV := Lib.hid ((b6.block _ (Array.getElem?_eq_some_iff.1 FV.out).1).trans FV.out)
  replace BB := Lib.hid (bl_tr BB.out b6)
  replace F1 := Lib.hid (And.intro ((b6.block _ (Array.getElem?_eq_some_iff.1 F1.out.1).1).trans F1.out.1) (And.intro (F1.out.2.1.below b6) (F1.out.2.2.below b6)))
  replace F2 := Lib.hid (And.intro ((b6.block _ (Array.getElem?_eq_some_iff.1 F2.out.1).1).trans F2.out.1) (And.intro (F2.out.2.1.below b6) (F2.out.2.2.below b6)))
  replace F3 := Lib.hid (And.intro ((b6.block _ (Array.getElem?_eq_some_iff.1 F3.out.1).1).trans F3.out.1) (And.intro (F3.out.2.1.below b6) (F3.out.2.2.below b6)))
  replace F4 := Lib.hid (And.intro ((b6.block _ (Array.getElem?_eq_some_iff.1 F4.out.1).1).trans F4.out.1) (And.intro (F4.out.2.1.below b6) (F4.out.2.2.below b6)))
  replace F5 := Lib.hid (And.intro ((b6.block _ (Array.getElem?_eq_some_iff.1 F5.out.1).1).trans F5.out.1) (And.intro (F5.out.2.1.below b6) (F5.out.2.2.below b6)))
  have F6 := Lib.hid z0
  clear z0 zb RR b6
  obtain ⟨⟨a0, a1, a2, a3, a4, a5⟩, _⟩ := cells6 FC.out.1
  obtain ⟨t0, t1, t2⟩ := cells3 FK.out
  obtain ⟨u0, u1, u2⟩ := cells3 FV.out
  go_upto_region 11 with (go_at_call 21; refine (RGET.out _ FC.out.2.1 FC.out.2.2).mono ?_; rintro e w17 ⟨rfl, hb⟩; have RR := Lib.hid hb; clear hb)
  refine wp_world (fun Z => Z.heap[w17.heap.size]? = some (valB GV) ∧ Below w17.heap.size w17 Z) ⟨heap_alloc_new _ _, bl_al (Below.refl _ _) _⟩ ?_
  rintro Z7 ⟨z0, zb⟩
  have b7 : Below Z6.heap.size Z6 Z7 := bl_tr RR.out zb
  clear a0 a1 a2 a3 a4 a5 t0 t1 t2 u0 u1 u2
  replace FC := Lib.hid (show Z7.heap[w.heap.size]? = some (cellO D.k D.sh D.fl D.ag (.slice A1 D.sl.length n1) (.slice A2 D.mo.length n2)) ∧ IsV Z7 (.slice A1 D.sl.length n1) D.sl ∧ IsV Z7 (.slice A2 D.mo.length n2) D.mo from ⟨(b7.block _ (Array.getElem?_eq_some_iff.1 FC.out.1).1).trans FC.out.1, FC.out.2.1.below b7, FC.out.2.2.below b7⟩)
  replace FK := Lib.hid ((b7.block _ (Array.getElem?_eq_some_iff.1 FK.out).1).trans FK.out)
  replace FV := Lib.hid ((b7.block _ (Array.getElem?_eq_some_iff.1 FV.out).1).trans FV.out)
  replace BB := Lib.hid (bl_tr BB.out b7)
  replace F1 := Lib.hid (And.intro ((b7.block _ (Array.getElem?_eq_some_iff.1 F1.out.1).1).trans F1.out.1) (And.intro (F1.out.2.1.below b7) (F1.out.2.2.below b7)))
  replace F2 := Lib.hid (And.intro ((b7.block _ (Array.getElem?_eq_some_iff.1 F2.out.1).1).trans F2.out.1) (And.intro (F2.out.2.1.below b7) (F2.out.2.2.below b7)))
  replace F3 := Lib.hid (And.intro ((b7.block _ (Array.getElem?_eq_some_iff.1 F3.out.1).1).trans F3.out.1) (And.intro (F3.out.2.1.below b7) (F3.out.2.2.below b7)))
  replace F4 := Lib.hid (And.intro ((b7.block _ (Array.getElem?_eq_some_iff.1 F4.out.1).1).trans F4.out.1) (And.intro (F4.out.2.1.below b7) (F4.out.2.2.below b7)))
  replace F5 := Lib.hid (And.intro ((b7.block _ (Array.getElem?_eq_some_iff.1 F5.out.1).1).trans F5.out.1) (And.intro (F5.out.2.1.below b7) (F5.out.2.2.below b7)))
  replace F6 := Lib.hid ((b7.block _ (Array.getElem?_eq_some_iff.1 F6.out).1).trans F6.out)
  have F7 := Lib.hid z0
  clear z0 zb RR b7
  have KK := Lib.hid (show ∀ Z, Below Z7.heap.size Z7 Z → Z.heap[w.heap.size]? = some (cellO D.k D.sh D.fl D.ag (.slice A1 D.sl.length n1) (.slice A2 D.mo.length n2)) ∧ Z.heap[w.heap.size + 1]? = some (valB key) ∧ Z.heap[w.heap.size + 1 + 1]? = some (valB v) ∧ Z.heap[w11.heap.size]? = some (cellO D.k D.sh D.fl D.ag (.slice A11 D.sl.length n11) (.slice A31 D.mo.length n31)) ∧ Z.heap[w12.heap.size]? = some (cellO X2.k X2.sh X2.fl X2.ag (.slice A12 X2.sl.length n12) (.slice A32 X2.mo.length n32)) ∧ Z.heap[w13.heap.size]? = some (cellO X2.k X2.sh X2.fl X2.ag (.slice A13 X2.sl.length n13) (.slice A33 X2.mo.length n33)) ∧ Z.heap[w14.heap.size]? = some (cellO X1.k X1.sh X1.fl X1.ag (.slice A14 X1.sl.length n14) (.slice A34 X1.mo.length n34)) ∧ Z.heap[w15.heap.size]? = some (cellO X1.k X1.sh X1.fl X1.ag (.slice A15 X1.sl.length n15) (.slice A35 X1.mo.length n35)) ∧ Z.heap[w16.heap.size]? = some (valB GV) ∧ Z.heap[w17.heap.size]? = some (valB GV) from fun Z hZ => ⟨(hZ.block _ (Array.getElem?_eq_some_iff.1 FC.out.1).1).trans FC.out.1, (hZ.block _ (Array.getElem?_eq_some_iff.1 FK.out).1).trans FK.out, (hZ.block _ (Array.getElem?_eq_some_iff.1 FV.out).1).trans FV.out, (hZ.block _ (Array.getElem?_eq_some_iff.1 F1.out.1).1).trans F1.out.1, (hZ.block _ (Array.getElem?_eq_some_iff.1 F2.out.1).1).trans F2.out.1, (hZ.block _ (Array.getElem?_eq_some_iff.1 F3.out.1).1).trans F3.out.1, (hZ.block _ (Array.getElem?_eq_some_iff.1 F4.out.1).1).trans F4.out.1, (hZ.block _ (Array.getElem?_eq_some_iff.1 F5.out.1).1).trans F5.out.1, (hZ.block _ (Array.getElem?_eq_some_iff.1 F6.out).1).trans F6.out, (hZ.block _ (Array.getElem?_eq_some_iff.1 F7.out).1).trans F7.out⟩)
  have y1 := eq_cols GV
  have y2 := eq_cols v
  (refine wp_region_held_drew (S := (fun Z : World => Below Z7.heap.size Z7 Z)) Try.mixed (by ((repeat (with_reducible first  | exact Below.refl _ _ | refine bl_rapp ?_ | (refine bl_set ?_ (by first | omega | (simp; done) | (simp; omega)) _) | refine bl_gr ?_ _ | refine bl_al ?_ _ | refine bl_drewN ?_ _ | refine Below.drew ?_)))) (fun hS => ?_); (refine wpAnyH_take (i := 0) (v := ?_) rfl (by kernel_rfl) (by kernel_rfl) (by kernel_rfl) (fun _ _ _ h => h) ?_ (by assumption) ?_; rotate_left; (next => (refine Or.inl ⟨by kernel_rfl, ?_⟩; ((intro w hSw; (try dsimp only at hSw); (have q := KK.out _ hSw; obtain ⟨⟨a0, a1, a2, a3, a4, a5⟩, _⟩ := cells6 q.2.2.2.2.1; clear q); go_simp) <;> with_reducible rfl))); (try simp only [Act.put, List.setIfInBounds_toArray, List.set_cons_zero, List.set_cons_succ])); (refine wpAnyH_take (i := 1) (v := ?_) rfl (by kernel_rfl) (by kernel_rfl) (by kernel_rfl) (fun _ _ _ h => h) ?_ (by assumption) ?_; rotate_left; (next => (refine Or.inl ⟨by kernel_rfl, ?_⟩; ((intro w hSw; (try dsimp only at hSw); (have q := KK.out _ hSw; obtain ⟨⟨a0, a1, a2, a3, a4, a5⟩, _⟩ := cells6 q.2.2.2.2.2.1; clear q); go_simp) <;> with_reducible rfl))); (try simp only [Act.put, List.setIfInBounds_toArray, List.set_cons_zero, List.set_cons_succ])); refine wpAnyH_ready (rs := [2]) (by kernel_rfl) (by simp) ?_; refine AllReadyH.cons rfl (fun K hK => ?_) AllReadyH.nil; go_simp; ((go_at_call 12; refine (callGr (rsame_self (F2.out.2.1.below (by (repeat (with_reducible first  | exact Below.refl _ _ | refine bl_rapp ?_ | (refine bl_set ?_ (by first | omega | (simp; done) | (simp; omega)) _) | refine bl_gr ?_ _ | refine bl_al ?_ _ | refine bl_drewN ?_ _ | refine Below.drew ?_)))) (F2.out.2.2.below (by (repeat (with_reducible first  | exact Below.refl _ _ | refine bl_rapp ?_ | (refine bl_set ?_ (by first | omega | (simp; done) | (simp; omega)) _) | refine bl_gr ?_ _ | refine bl_al ?_ _ | refine bl_drewN ?_ _ | refine Below.drew ?_)))) (F3.out.2.1.below (by (repeat (with_reducible first  | exact Below.refl _ _ | refine bl_rapp ?_ | (refine bl_set ?_ (by first | omega | (simp; done) | (simp; omega)) _) | refine bl_gr ?_ _ | refine bl_al ?_ _ | refine bl_drewN ?_ _ | refine Below.drew ?_)))) (F3.out.2.2.below (by (repeat (with_reducible first  | exact Below.refl _ _ | refine bl_rapp ?_ | (refine bl_set ?_ (by first | omega | (simp; done) | (simp; omega)) _) | refine bl_gr ?_ _ | refine bl_al ?_ _ | refine bl_drewN ?_ _ | refine Below.drew ?_)))))).mono ?_; rintro e w' ⟨pp, rfl, rfl⟩)); refine hK.out _ _ (by ((repeat (with_reducible first  | exact Below.refl _ _ | refine bl_rapp ?_ | (refine bl_set ?_ (by first | omega | (simp; done) | (simp; omega)) _) | refine bl_gr ?_ _ | refine bl_al ?_ _ | refine bl_drewN ?_ _ | refine Below.drew ?_)))) (fun hS => ?_); clear hK K; (try simp only [Act.put, List.setIfInBounds_toArray, List.set_cons_zero, List.set_cons_succ]); (refine wpAnyH_take (i := 3) (v := ?_) rfl (by kernel_rfl) (by kernel_rfl) (by kernel_rfl) (fun _ _ _ h => h) ?_ (by assumption) ?_; rotate_left; (next => (refine Or.inl ⟨by kernel_rfl, ?_⟩; ((intro w hSw; (try dsimp only at hSw); go_simp) <;> with_reducible rfl))); (try simp only [Act.put, List.setIfInBounds_toArray, List.set_cons_zero, List.set_cons_succ])); (refine wpAnyH_take (i := 4) (v := ?_) rfl (by kernel_rfl) (by kernel_rfl) (by kernel_rfl) (fun _ _ _ h => h) ?_ (by assumption) ?_; rotate_left; (next => (refine Or.inl ⟨by kernel_rfl, ?_⟩; ((intro w hSw; (try dsimp only at hSw); go_simp) <;> with_reducible rfl))); (try simp only [Act.put, List.setIfInBounds_toArray, List.set_cons_zero, List.set_cons_succ])); (refine wpAnyH_take (i := 5) (v := ?_) rfl (by kernel_rfl) (by kernel_rfl) (by kernel_rfl) (fun _ _ _ h => h) ?_ (by assumption) ?_; rotate_left; (next => (refine Or.inl ⟨by kernel_rfl, ?_⟩; ((intro w hSw; (try dsimp only at hSw); go_simp) <;> with_reducible rfl))); (try simp only [Act.put, List.setIfInBounds_toArray, List.set_cons_zero, List.set_cons_succ])); (refine wpAnyH_take (i := 6) (v := ?_) rfl (by kernel_rfl) (by kernel_rfl) (by kernel_rfl) (fun _ _ _ h => h) ?_ (by assumption) ?_; rotate_left; (next => (refine Or.inl ⟨by kernel_rfl, ?_⟩; ((intro w hSw; (try dsimp only at hSw); go_simp) <;> with_reducible rfl))); (try simp only [Act.put, List.setIfInBounds_toArray, List.set_cons_zero, List.set_cons_succ])); (refine wpAnyH_take (i := 7) (v := ?_) rfl (by kernel_rfl) (by kernel_rfl) (by kernel_rfl) (fun _ _ _ h => h) ?_ (by assumption) ?_; rotate_left; (next => (refine Or.inl ⟨by kernel_rfl, ?_⟩; ((intro w hSw; (try dsimp only at hSw); go_simp) <;> with_reducible rfl))); (try simp only [Act.put, List.setIfInBounds_toArray, List.set_cons_zero, List.set_cons_succ])); (refine wpAnyH_take (i := 8) (v := ?_) rfl (by kernel_rfl) (by kernel_rfl) (by kernel_rfl) (fun _ _ _ h => h) ?_ (by assumption) ?_; rotate_left; (next => (refine Or.inl ⟨by kernel_rfl, ?_⟩; ((intro w hSw; (try dsimp only at hSw); go_simp) <;> with_reducible rfl))); (try simp only [Act.put, List.setIfInBounds_toArray, List.set_cons_zero, List.set_cons_succ])); (refine wpAnyH_take (i := 9) (v := ?_) rfl (by kernel_rfl) (by kernel_rfl) (by kernel_rfl) (fun _ _ _ h => h) ?_ (by assumption) ?_; rotate_left; (next => (refine Or.inl ⟨by kernel_rfl, ?_⟩; ((intro w hSw; (try dsimp only at hSw); go_simp) <;> with_reducible rfl))); (try simp only [Act.put, List.setIfInBounds_toArray, List.set_cons_zero, List.set_cons_succ])); (refine wpAnyH_take (i := 10) (v := ?_) rfl (by kernel_rfl) (by kernel_rfl) (by kernel_rfl) (fun _ _ _ h => h) ?_ (by assumption) ?_; rotate_left; (next => (refine Or.inl ⟨by kernel_rfl, ?_⟩; ((intro w hSw; (try dsimp only at hSw); (have q := KK.out _ hSw; obtain ⟨⟨a0, a1, a2, a3, a4, a5⟩, _⟩ := cells6 q.2.2.2.2.2.2.1; clear q); go_simp) <;> with_reducible rfl))); (try simp only [Act.put, List.setIfInBounds_toArray, List.set_cons_zero, List.set_cons_succ])); (refine wpAnyH_take (i := 11) (v := ?_) rfl (by kernel_rfl) (by kernel_rfl) (by kernel_rfl) (fun _ _ _ h => h) ?_ (by assumption) ?_; rotate_left; (next => (refine Or.inl ⟨by kernel_rfl, ?_⟩; ((intro w hSw; (try dsimp only at hSw); (have q := KK.out _ hSw; obtain ⟨⟨a0, a1, a2, a3, a4, a5⟩, _⟩ := cells6 q.2.2.2.2.2.2.2.1; clear q); go_simp) <;> with_reducible rfl))); (try simp only [Act.put, List.setIfInBounds_toArray, List.set_cons_zero, List.set_cons_succ])); refine wpAnyH_ready (rs := [12]) (by kernel_rfl) (by simp) ?_; refine AllReadyH.cons rfl (fun K hK => ?_) AllReadyH.nil; go_simp; ((go_at_call 12; refine (callGr (rsame_self (F4.out.2.1.below (by (repeat (with_reducible first  | exact Below.refl _ _ | refine bl_rapp ?_ | (refine bl_set ?_ (by first | omega | (simp; done) | (simp; omega)) _) | refine bl_gr ?_ _ | refine bl_al ?_ _ | refine bl_drewN ?_ _ | refine Below.drew ?_)))) (F4.out.2.2.below (by (repeat (with_reducible first  | exact Below.refl _ _ | refine bl_rapp ?_ | (refine bl_set ?_ (by first | omega | (simp; done) | (simp; omega)) _) | refine bl_gr ?_ _ | refine bl_al ?_ _ | refine bl_drewN ?_ _ | refine Below.drew ?_)))) (F5.out.2.1.below (by (repeat (with_reducible first  | exact Below.refl _ _ | refine bl_rapp ?_ | (refine bl_set ?_ (by first | omega | (simp; done) | (simp; omega)) _) | refine bl_gr ?_ _ | refine bl_al ?_ _ | refine bl_drewN ?_ _ | refine Below.drew ?_)))) (F5.out.2.2.below (by (repeat (with_reducible first  | exact Below.refl _ _ | refine bl_rapp ?_ | (refine bl_set ?_ (by first | omega | (simp; done) | (simp; omega)) _) | refine bl_gr ?_ _ | refine bl_al ?_ _ | refine bl_drewN ?_ _ | refine Below.drew ?_)))))).mono ?_; rintro e w' ⟨pp, rfl, rfl⟩)); refine hK.out _ _ (by ((repeat (with_reducible first  | exact Below.refl _ _ | refine bl_rapp ?_ | (refine bl_set ?_ (by first | omega | (simp; done) | (simp; omega)) _) | refine bl_gr ?_ _ | refine bl_al ?_ _ | refine bl_drewN ?_ _ | refine Below.drew ?_)))) (fun hS => ?_); clear hK K; (try simp only [Act.put, List.setIfInBounds_toArray, List.set_cons_zero, List.set_cons_succ]); (refine wpAnyH_take (i := 13) (v := ?_) rfl (by kernel_rfl) (by kernel_rfl) (by kernel_rfl) (fun _ _ _ h => h) ?_ (by assumption) ?_; rotate_left; (next => (refine Or.inl ⟨by kernel_rfl, ?_⟩; ((intro w hSw; (try dsimp only at hSw); go_simp) <;> with_reducible rfl))); (try simp only [Act.put, List.setIfInBounds_toArray, List.set_cons_zero, List.set_cons_succ])); (refine wpAnyH_take (i := 14) (v := ?_) rfl (by kernel_rfl) (by kernel_rfl) (by kernel_rfl) (fun _ _ _ h => h) ?_ (by assumption) ?_; rotate_left; (next => (refine Or.inl ⟨by kernel_rfl, ?_⟩; ((intro w hSw; (try dsimp only at hSw); go_simp) <;> with_reducible rfl))); (try simp only [Act.put, List.setIfInBounds_toArray, List.set_cons_zero, List.set_cons_succ])); (refine wpAnyH_take (i := 15) (v := ?_) rfl (by kernel_rfl) (by kernel_rfl) (by kernel_rfl) (fun _ _ _ h => h) ?_ (by assumption) ?_; rotate_left; (next => (refine Or.inl ⟨by kernel_rfl, ?_⟩; ((intro w hSw; (try dsimp only at hSw); go_simp) <;> with_reducible rfl))); (try simp only [Act.put, List.setIfInBounds_toArray, List.set_cons_zero, List.set_cons_succ])); (refine wpAnyH_take (i := 16) (v := ?_) rfl (by kernel_rfl) (by kernel_rfl) (by kernel_rfl) (fun _ _ _ h => h) ?_ (by assumption) ?_; rotate_left; (next => (refine Or.inl ⟨by kernel_rfl, ?_⟩; ((intro w hSw; (try dsimp only at hSw); go_simp) <;> with_reducible rfl))); (try simp only [Act.put, List.setIfInBounds_toArray, List.set_cons_zero, List.set_cons_succ])); (refine wpAnyH_take (i := 17) (v := ?_) rfl (by kernel_rfl) (by kernel_rfl) (by kernel_rfl) (fun _ _ _ h => h) ?_ (by assumption) ?_; rotate_left; (next => (refine Or.inl ⟨by kernel_rfl, ?_⟩; ((intro w hSw; (try dsimp only at hSw); go_simp) <;> with_reducible rfl))); (try simp only [Act.put, List.setIfInBounds_toArray, List.set_cons_zero, List.set_cons_succ])); refine wpAnyH_ready (rs := [18]) (by kernel_rfl) (by simp) ?_; refine AllReadyH.cons rfl (fun K hK => ?_) AllReadyH.nil; go_simp; refine hK.out _ _ (by ((repeat (with_reducible first  | exact Below.refl _ _ | refine bl_rapp ?_ | (refine bl_set ?_ (by first | omega | (simp; done) | (simp; omega)) _) | refine bl_gr ?_ _ | refine bl_al ?_ _ | refine bl_drewN ?_ _ | refine Below.drew ?_)))) (fun hS => ?_); clear hK K; (try simp only [Act.put, List.setIfInBounds_toArray, List.set_cons_zero, List.set_cons_succ]); (refine wpAnyH_take (i := 19) (v := ?_) rfl (by kernel_rfl) (by kernel_rfl) (by kernel_rfl) (fun _ _ _ h => h) ?_ (by assumption) ?_; rotate_left; (next => (refine Or.inl ⟨by kernel_rfl, ?_⟩; ((intro w hSw; (try dsimp only at hSw); go_simp) <;> with_reducible rfl))); (try simp only [Act.put, List.setIfInBounds_toArray, List.set_cons_zero, List.set_cons_succ])); (refine wpAnyH_take (i := 20) (v := ?_) rfl (by kernel_rfl) (by kernel_rfl) (by kernel_rfl) (fun _ _ _ h => h) ?_ (by assumption) ?_; rotate_left; (next => (refine Or.inl ⟨by kernel_rfl, ?_⟩; ((intro w hSw; (try dsimp only at hSw); go_simp) <;> with_reducible rfl))); (try simp only [Act.put, List.setIfInBounds_toArray, List.set_cons_zero, List.set_cons_succ])); (refine wpAnyH_take (i := 21) (v := ?_) rfl (by kernel_rfl) (by kernel_rfl) (by kernel_rfl) (fun _ _ _ h => h) ?_ (by assumption) ?_; rotate_left; (next => (refine Or.inl ⟨by kernel_rfl, ?_⟩; ((intro w hSw; (try dsimp only at hSw); (have q := KK.out _ hSw; obtain ⟨a0, a1, a2⟩ := cells3 q.2.2.2.2.2.2.2.2.1; clear q); go_simp) <;> with_reducible rfl))); (try simp only [Act.put, List.setIfInBounds_toArray, List.set_cons_zero, List.set_cons_succ])); (refine wpAnyH_take (i := 22) (v := ?_) rfl (by kernel_rfl) (by kernel_rfl) (by kernel_rfl) (fun _ _ _ h => h) ?_ (by assumption) ?_; rotate_left; (next => (refine Or.inl ⟨by kernel_rfl, ?_⟩; ((intro w hSw; (try dsimp only at hSw); (have q := KK.out _ hSw; obtain ⟨a0, a1, a2⟩ := cells3 q.2.2.2.2.2.2.2.2.2; clear q); go_simp) <;> with_reducible rfl))); (try simp only [Act.put, List.setIfInBounds_toArray, List.set_cons_zero, List.set_cons_succ])); refine wpAnyH_ready (rs := [23]) (by kernel_rfl) (by simp) ?_; refine AllReadyH.cons rfl (fun K hK => ?_) AllReadyH.nil; go_simp; refine hK.out _ _ (by ((repeat (with_reducible first  | exact Below.refl _ _ | refine bl_rapp ?_ | (refine bl_set ?_ (by first | omega | (simp; done) | (simp; omega)) _) | refine bl_gr ?_ _ | refine bl_al ?_ _ | refine bl_drewN ?_ _ | refine Below.drew ?_)))) (fun hS => ?_); clear hK K; (try simp only [Act.put, List.setIfInBounds_toArray, List.set_cons_zero, List.set_cons_succ]); (refine wpAnyH_take (i := 24) (v := ?_) rfl (by kernel_rfl) (by kernel_rfl) (by kernel_rfl) (fun _ _ _ h => h) ?_ (by assumption) ?_; rotate_left; (next => (refine Or.inl ⟨by kernel_rfl, ?_⟩; ((intro w hSw; (try dsimp only at hSw); go_simp) <;> with_reducible rfl))); (try simp only [Act.put, List.setIfInBounds_toArray, List.set_cons_zero, List.set_cons_succ])); (refine wpAnyH_take (i := 25) (v := ?_) rfl (by kernel_rfl) (by kernel_rfl) (by kernel_rfl) (fun _ _ _ h => h) ?_ (by assumption) ?_; rotate_left; (next => (refine Or.inl ⟨by kernel_rfl, ?_⟩; ((intro w hSw; (try dsimp only at hSw); go_simp) <;> with_reducible rfl))); (try simp only [Act.put, List.setIfInBounds_toArray, List.set_cons_zero, List.set_cons_succ])); (refine wpAnyH_take (i := 26) (v := ?_) rfl (by kernel_rfl) (by kernel_rfl) (by kernel_rfl) (fun _ _ _ h => h) ?_ (by assumption) ?_; rotate_left; (next => (refine Or.inl ⟨by kernel_rfl, ?_⟩; ((intro w hSw; (try dsimp only at hSw); go_simp) <;> with_reducible rfl))); (try simp only [Act.put, List.setIfInBounds_toArray, List.set_cons_zero, List.set_cons_succ])); (refine wpAnyH_take (i := 27) (v := ?_) rfl (by kernel_rfl) (by kernel_rfl) (by kernel_rfl) (fun _ _ _ h => h) ?_ (by assumption) ?_; rotate_left; (next => (refine Or.inl ⟨by kernel_rfl, ?_⟩; ((intro w hSw; (try dsimp only at hSw); go_simp) <;> with_reducible rfl))); (try simp only [Act.put, List.setIfInBounds_toArray, List.set_cons_zero, List.set_cons_succ])); refine wpAnyH_ready (rs := [28]) (by kernel_rfl) (by simp) ?_; refine AllReadyH.cons rfl (fun K hK => ?_) AllReadyH.nil; go_simp; refine hK.out _ _ (by ((repeat (with_reducible first  | exact Below.refl _ _ | refine bl_rapp ?_ | (refine bl_set ?_ (by first | omega | (simp; done) | (simp; omega)) _) | refine bl_gr ?_ _ | refine bl_al ?_ _ | refine bl_drewN ?_ _ | refine Below.drew ?_)))) (fun hS => ?_); clear hK K; (try simp only [Act.put, List.setIfInBounds_toArray, List.set_cons_zero, List.set_cons_succ]); (refine wpAnyH_take (i := 29) (v := ?_) rfl (by kernel_rfl) (by kernel_rfl) (by kernel_rfl) (fun _ _ _ h => h) ?_ (by assumption) ?_; rotate_left; (next => (refine Or.inl ⟨by kernel_rfl, ?_⟩; ((intro w hSw; (try dsimp only at hSw); go_simp) <;> with_reducible rfl))); (try simp only [Act.put, List.setIfInBounds_toArray, List.set_cons_zero, List.set_cons_succ])); (refine wpAnyH_take (i := 30) (v := ?_) rfl (by kernel_rfl) (by kernel_rfl) (by kernel_rfl) (fun _ _ _ h => h) ?_ (by assumption) ?_; rotate_left; (next => (refine Or.inl ⟨by kernel_rfl, ?_⟩; ((intro w hSw; (try dsimp only at hSw); go_simp) <;> with_reducible rfl))); (try simp only [Act.put, List.setIfInBounds_toArray, List.set_cons_zero, List.set_cons_succ])); (refine wpAnyH_take (i := 31) (v := ?_) rfl (by kernel_rfl) (by kernel_rfl) (by kernel_rfl) (fun _ _ _ h => h) ?_ (by assumption) ?_; rotate_left; (next => (refine Or.inl ⟨by kernel_rfl, ?_⟩; ((intro w hSw; (try dsimp only at hSw); (have q := KK.out _ hSw; obtain ⟨⟨a0, a1, a2, a3, a4, a5⟩, _⟩ := cells6 q.1; clear q); go_simp) <;> with_reducible rfl))); (try simp only [Act.put, List.setIfInBounds_toArray, List.set_cons_zero, List.set_cons_succ])); (refine wpAnyH_take (i := 33) (v := ?_) rfl (by kernel_rfl) (by kernel_rfl) (by kernel_rfl) (fun _ _ _ h => h) ?_ (by assumption) ?_; rotate_left; (next => (refine Or.inl ⟨by kernel_rfl, ?_⟩; ((intro w hSw; (try dsimp only at hSw); (have q := KK.out _ hSw; obtain ⟨⟨a0, a1, a2, a3, a4, a5⟩, _⟩ := cells6 q.1; clear q); go_simp) <;> with_reducible rfl))); (try simp only [Act.put, List.setIfInBounds_toArray, List.set_cons_zero, List.set_cons_succ])); refine wpAnyH_ready (rs := [32]) (by kernel_rfl) (by simp) ?_; refine AllReadyH.cons rfl (fun K hK => ?_) AllReadyH.nil; go_simp; ((go_at_call 22; refine (callGr (LEN.out _ (FC.out.2.1.below (by (repeat (with_reducible first  | exact Below.refl _ _ | refine bl_rapp ?_ | (refine bl_set ?_ (by first | omega | (simp; done) | (simp; omega)) _) | refine bl_gr ?_ _ | refine bl_al ?_ _ | refine bl_drewN ?_ _ | refine Below.drew ?_)))) (FC.out.2.2.below (by (repeat (with_reducible first  | exact Below.refl _ _ | refine bl_rapp ?_ | (refine bl_set ?_ (by first | omega | (simp; done) | (simp; omega)) _) | refine bl_gr ?_ _ | refine bl_al ?_ _ | refine bl_drewN ?_ _ | refine Below.drew ?_)))))).mono ?_; rintro e w' ⟨pp, rfl, rfl⟩)); refine hK.out _ _ (by ((repeat (with_reducible first  | exact Below.refl _ _ | refine bl_rapp ?_ | (refine bl_set ?_ (by first | omega | (simp; done) | (simp; omega)) _) | refine bl_gr ?_ _ | refine bl_al ?_ _ | refine bl_drewN ?_ _ | refine Below.drew ?_)))) (fun hS => ?_); clear hK K; (try simp only [Act.put, List.setIfInBounds_toArray, List.set_cons_zero, List.set_cons_succ]); refine wpAnyH_ready (rs := [34]) (by kernel_rfl) (by simp) ?_; refine AllReadyH.cons rfl (fun K hK => ?_) AllReadyH.nil; go_simp; ((go_at_call 23; refine (callGr (RLEN.out _ (FC.out.2.1.below (by (repeat (with_reducible first  | exact Below.refl _ _ | refine bl_rapp ?_ | (refine bl_set ?_ (by first | omega | (simp; done) | (simp; omega)) _) | refine bl_gr ?_ _ | refine bl_al ?_ _ | refine bl_drewN ?_ _ | refine Below.drew ?_)))) (FC.out.2.2.below (by (repeat (with_reducible first  | exact Below.refl _ _ | refine bl_rapp ?_ | (refine bl_set ?_ (by first | omega | (simp; done) | (simp; omega)) _) | refine bl_gr ?_ _ | refine bl_al ?_ _ | refine bl_drewN ?_ _ | refine Below.drew ?_)))))).mono ?_; rintro e w' ⟨pp, rfl, rfl⟩)); refine hK.out _ _ (by ((repeat (with_reducible first  | exact Below.refl _ _ | refine bl_rapp ?_ | (refine bl_set ?_ (by first | omega | (simp; done) | (simp; omega)) _) | refine bl_gr ?_ _ | refine bl_al ?_ _ | refine bl_drewN ?_ _ | refine Below.drew ?_)))) (fun hS => ?_); clear hK K; (try simp only [Act.put, List.setIfInBounds_toArray, List.set_cons_zero, List.set_cons_succ]); refine wpAnyH_ready (rs := [35]) (by kernel_rfl) (by simp) ?_; refine AllReadyH.cons rfl (fun K hK => ?_) AllReadyH.nil; go_simp; refine hK.out _ _ (by ((repeat (with_reducible first  | exact Below.refl _ _ | refine bl_rapp ?_ | (refine bl_set ?_ (by first | omega | (simp; done) | (simp; omega)) _) | refine bl_gr ?_ _ | refine bl_al ?_ _ | refine bl_drewN ?_ _ | refine Below.drew ?_)))) (fun hS => ?_); clear hK K; (try simp only [Act.put, List.setIfInBounds_toArray, List.set_cons_zero, List.set_cons_succ]); (refine wpAnyH_take (i := 36) (v := ?_) rfl (by kernel_rfl) (by kernel_rfl) (by kernel_rfl) (fun _ _ _ h => h) ?_ (by assumption) ?_; rotate_left; (next => (refine Or.inl ⟨by kernel_rfl, ?_⟩; ((intro w hSw; (try dsimp only at hSw); go_simp) <;> with_reducible rfl))); (try simp only [Act.put, List.setIfInBounds_toArray, List.set_cons_zero, List.set_cons_succ])); (refine wpAnyH_take (i := 37) (v := ?_) rfl (by kernel_rfl) (by kernel_rfl) (by kernel_rfl) (fun _ _ _ h => h) ?_ (by assumption) ?_; rotate_left; (next => (refine Or.inl ⟨by kernel_rfl, ?_⟩; ((intro w hSw; (try dsimp only at hSw); go_simp) <;> with_reducible rfl))); (try simp only [Act.put, List.setIfInBounds_toArray, List.set_cons_zero, List.set_cons_succ])); (refine wpAnyH_take (i := 38) (v := ?_) rfl (by kernel_rfl) (by kernel_rfl) (by kernel_rfl) (fun _ _ _ h => h) ?_ (by assumption) ?_; rotate_left; (next => (refine Or.inl ⟨by kernel_rfl, ?_⟩; ((intro w hSw; (try dsimp only at hSw); (have q := KK.out _ hSw; obtain ⟨⟨a0, a1, a2, a3, a4, a5⟩, _⟩ := cells6 q.1; clear q); go_simp) <;> with_reducible rfl))); (try simp only [Act.put, List.setIfInBounds_toArray, List.set_cons_zero, List.set_cons_succ])); (refine wpAnyH_take (i := 39) (v := ?_) rfl (by kernel_rfl) (by kernel_rfl) (by kernel_rfl) (fun _ _ _ h => h) ?_ (by assumption) ?_; rotate_left; (next => (refine Or.inl ⟨by kernel_rfl, ?_⟩; ((intro w hSw; (try dsimp only at hSw); (have q := KK.out _ hSw; obtain ⟨⟨a0, a1, a2, a3, a4, a5⟩, _⟩ := cells6 q.2.2.2.1; clear q); go_simp) <;> with_reducible rfl))); (try simp only [Act.put, List.setIfInBounds_toArray, List.set_cons_zero, List.set_cons_succ])); refine wpAnyH_ready (rs := [40]) (by kernel_rfl) (by simp) ?_; refine AllReadyH.cons rfl (fun K hK => ?_) AllReadyH.nil; go_simp; ((go_at_call 12; refine (callGr (rsame_self (FC.out.2.1.below (by (repeat (with_reducible first  | exact Below.refl _ _ | refine bl_rapp ?_ | (refine bl_set ?_ (by first | omega | (simp; done) | (simp; omega)) _) | refine bl_gr ?_ _ | refine bl_al ?_ _ | refine bl_drewN ?_ _ | refine Below.drew ?_)))) (FC.out.2.2.below (by (repeat (with_reducible first  | exact Below.refl _ _ | refine bl_rapp ?_ | (refine bl_set ?_ (by first | omega | (simp; done) | (simp; omega)) _) | refine bl_gr ?_ _ | refine bl_al ?_ _ | refine bl_drewN ?_ _ | refine Below.drew ?_)))) (F1.out.2.1.below (by (repeat (with_reducible first  | exact Below.refl _ _ | refine bl_rapp ?_ | (refine bl_set ?_ (by first | omega | (simp; done) | (simp; omega)) _) | refine bl_gr ?_ _ | refine bl_al ?_ _ | refine bl_drewN ?_ _ | refine Below.drew ?_)))) (F1.out.2.2.below (by (repeat (with_reducible first  | exact Below.refl _ _ | refine bl_rapp ?_ | (refine bl_set ?_ (by first | omega | (simp; done) | (simp; omega)) _) | refine bl_gr ?_ _ | refine bl_al ?_ _ | refine bl_drewN ?_ _ | refine Below.drew ?_)))))).mono ?_; rintro e w' ⟨pp, rfl, rfl⟩)); refine hK.out _ _ (by ((repeat (with_reducible first  | exact Below.refl _ _ | refine bl_rapp ?_ | (refine bl_set ?_ (by first | omega | (simp; done) | (simp; omega)) _) | refine bl_gr ?_ _ | refine bl_al ?_ _ | refine bl_drewN ?_ _ | refine Below.drew ?_)))) (fun hS => ?_); clear hK K; (try simp only [Act.put, List.setIfInBounds_toArray, List.set_cons_zero, List.set_cons_succ]); (refine wpAnyH_take (i := 41) (v := ?_) rfl (by kernel_rfl) (by kernel_rfl) (by kernel_rfl) (fun _ _ _ h => h) ?_ (by assumption) ?_; rotate_left; (next => (refine Or.inl ⟨by kernel_rfl, ?_⟩; ((intro w hSw; (try dsimp only at hSw); go_simp) <;> with_reducible rfl))); (try simp only [Act.put, List.setIfInBounds_toArray, List.set_cons_zero, List.set_cons_succ])); (refine wpAnyH_take (i := 42) (v := ?_) rfl (by kernel_rfl) (by kernel_rfl) (by kernel_rfl) (fun _ _ _ h => h) ?_ (by assumption) ?_; rotate_left; (next => (refine Or.inl ⟨by kernel_rfl, ?_⟩; ((intro w hSw; (try dsimp only at hSw); go_simp) <;> with_reducible rfl))); (try simp only [Act.put, List.setIfInBounds_toArray, List.set_cons_zero, List.set_cons_succ])); refine wpAnyH_done (by kernel_rfl) ?_ _)
  go_simp
  go_upto_region 13 with fail
  refine wp_world (fun Z => Below Z7.heap.size Z7 Z) (by (repeat (with_reducible first  | exact Below.refl _ _ | refine bl_rapp ?_ | (refine bl_set ?_ (by first | omega | (simp; done) | (simp; omega)) _) | refine bl_gr ?_ _ | refine bl_al ?_ _ | refine bl_drewN ?_ _ | refine Below.drew ?_))) ?_
  intro Z8 hZ
  have B8 := Lib.hid hZ
  clear hZ hS
  rcases SE.out with hE | hE
  case inr =>
    go_wp2
    go_ret
    exact ⟨rfl, bl_tr BY.out (bl_tr BB.out (by (repeat (with_reducible first | exact B8.out | exact Below.refl _ _ | refine bl_rapp ?_ | (refine bl_set ?_ (by first | omega | (simp; done) | (simp; omega)) _) | refine bl_gr ?_ _ | refine bl_al ?_ _ | refine bl_drewN ?_ _ | refine Below.drew ?_))))⟩
  subst hE
  obtain ⟨g1', g2', g3'⟩ := LAW.out rfl
  rw [g1', g2'] at GE2
  rw [g3'] at RI2
  clear g1' g2' g3' LAW SE
  have q := KK.out Z8 B8.out
  obtain ⟨⟨a0, a1, a2, a3, a4, a5⟩, _⟩ := cells6 q.2.2.2.2.1
  obtain ⟨t0, t1, t2⟩ := cells3 q.2.1
  obtain ⟨u0, u1, u2⟩ := cells3 q.2.2.1
  have lb1 := (Array.getElem?_eq_some_iff.1 q.2.2.2.2.1).1
  have lb2 := (Array.getElem?_eq_some_iff.1 q.2.2.1).1
  clear q
  go_upto_region 16 with (go_at_call 20; refine (GE2.out _ _ _ (F2.out.2.1.below (by (repeat (with_reducible first | exact B8.out | exact Below.refl _ _ | refine bl_rapp ?_ | (refine bl_set ?_ (by first | omega | (simp; done) | (simp; omega)) _) | refine bl_gr ?_ _ | refine bl_al ?_ _ | refine bl_drewN ?_ _ | refine Below.drew ?_)))) (F2.out.2.2.below (by (repeat (with_reducible first | exact B8.out | exact Below.refl _ _ | refine bl_rapp ?_ | (refine bl_set ?_ (by first | omega | (simp; done) | (simp; omega)) _) | refine bl_gr ?_ _ | refine bl_al ?_ _ | refine bl_drewN ?_ _ | refine Below.drew ?_))))).mono ?_; rintro e w9 ⟨rfl, hb⟩; have R9 := Lib.hid (show Below Z7.heap.size Z7 w9 from bl_tr (by (repeat (with_reducible first | exact B8.out | exact Below.refl _ _ | refine bl_rapp ?_ | (refine bl_set ?_ (by first | omega | (simp; done) | (simp; omega)) _) | refine bl_gr ?_ _ | refine bl_al ?_ _ | refine bl_drewN ?_ _ | refine Below.drew ?_))) hb); clear hb)
  refine wp_world (fun Z => Z.heap[w9.heap.size]? = some (valB v) ∧ Below w9.heap.size w9 Z) ⟨heap_alloc_new _ _, bl_al (Below.refl _ _) _⟩ ?_
  rintro Z9 ⟨z0, zb⟩
  have B9 := Lib.hid (bl_tr R9.out zb)
  clear a0 a1 a2 a3 a4 a5 t0 t1 t2 u0 u1 u2 lb1 lb2 zb
  have q := KK.out Z9 B9.out
  obtain ⟨⟨a0, a1, a2, a3, a4, a5⟩, _⟩ := cells6 q.2.2.2.2.1
  obtain ⟨u0, u1, u2⟩ := cells3 q.2.2.1
  obtain ⟨x0, x1, x2⟩ := cells3 z0
  clear q z0
  go_wp2_with (go_at_call 24; refine (callGr (RI2.out _ _ _ (F2.out.2.1.below (by (repeat (with_reducible first | exact B9.out | exact Below.refl _ _ | refine bl_rapp ?_ | (refine bl_set ?_ (by first | omega | (simp; done) | (simp; omega)) _) | refine bl_gr ?_ _ | refine bl_al ?_ _ | refine bl_drewN ?_ _ | refine Below.drew ?_)))) (F2.out.2.2.below (by (repeat (with_reducible first | exact B9.out | exact Below.refl _ _ | refine bl_rapp ?_ | (refine bl_set ?_ (by first | omega | (simp; done) | (simp; omega)) _) | refine bl_gr ?_ _ | refine bl_al ?_ _ | refine bl_drewN ?_ _ | refine Below.drew ?_)))))).mono ?_; rintro e w' ⟨pp, rfl, rfl⟩)
  go_ret
  exact ⟨rfl, bl_tr BY.out (bl_tr BB.out (by (repeat (with_reducible first | exact B9.out | exact Below.refl _ _ | refine bl_rapp ?_ | (refine bl_set ?_ (by first | omega | (simp; done) | (simp; omega)) _) | refine bl_gr ?_ _ | refine bl_al ?_ _ | refine bl_drewN ?_ _ | refine Below.drew ?_))))⟩
end Go.Proofs.Ytdikdkllbhanfaa
