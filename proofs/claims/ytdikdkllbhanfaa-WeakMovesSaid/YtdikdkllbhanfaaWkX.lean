/- Weak maps: the law WeakMoves, walked. -/
import Derived.Test.YtdikdkllbhanfaaWkXa
namespace Go.Proofs.Ytdikdkllbhanfaa
set_option linter.all false
open Go.RowKit Go.Sort Go.Deep Go.Shelf

set_option maxRecDepth 100000 in
set_option maxHeartbeats 64000000 in
theorem weakMoves_any (sv mv : Value) (c : CellD) (key v : Val) (hc : c.ok) (hk : key.ok) (hv : v.ok) (w : World) (h1 : IsV w sv c.sl) (h2 : IsV w mv c.mo) :
    Calls Try.prog 6 #[cellV c.k c.sh c.fl c.ag sv mv, key.agg, v.agg] w fun e w' => e = .returned (.bool true) ∧ Below w.heap.size w w' := by
  obtain ⟨A1, n1, rfl, c1, m1⟩ := h1.form
  obtain ⟨A2, n2, rfl, c2, m2⟩ := h2.form
  have H1 := Lib.hid h1
  have H2 := Lib.hid h2
  obtain ⟨okD, ld1, ld2⟩ := few_ok hc
  have fitD : (fewC c).fit := fit_of (by omega) (by omega)
  obtain ⟨ok1, l11, l12⟩ := del_ok key okD
  have fit1 : (delC (fewC c) key).fit := fit_of (by omega) (by omega)
  obtain ⟨ok2, l21, l22⟩ := set_ok ok1 hk hv
  have e1 : min c.sl.length 60 = (fewC c).sl.length := by show _ = (c.sl.take 60).length; rw [List.length_take, Nat.min_comm]
  have e2 : min c.mo.length 120 = (fewC c).mo.length := by show _ = (c.mo.take 120).length; rw [List.length_take, Nat.min_comm]
  have FEW := Lib.hid (fun W => by have := few_any c.k c.sh c.fl c.ag A1 A2 c.sl.length n1 c.mo.length n2 c1 c2 m1 m2 W; rw [e1, e2] at this; exact this : ∀ W : World, Calls Try.prog 8 #[cellV c.k c.sh c.fl c.ag (.slice A1 c.sl.length n1) (.slice A2 c.mo.length n2)] W fun e w' => e = .returned (cellV c.k c.sh c.fl c.ag (.slice A1 (fewC c).sl.length n1) (.slice A2 (fewC c).mo.length n2)) ∧ Below W.heap.size W w')
  have T1 := Lib.hid (show ∀ W : World, Below w.heap.size w W → IsV W (.slice A1 (fewC c).sl.length n1) (fewC c).sl from fun W hb => isV_take' (H1.out.below hb) 60)
  have T2 := Lib.hid (show ∀ W : World, Below w.heap.size w W → IsV W (.slice A2 (fewC c).mo.length n2) (fewC c).mo from fun W hb => isV_take' (H2.out.below hb) 120)
  have DEL := Lib.hid (fun W a b => delete_any (.slice A1 (fewC c).sl.length n1) (.slice A2 (fewC c).mo.length n2) (fewC c) key okD fitD W a b)
  have SET := Lib.hid (fun sv mv W a b => set_any sv mv (delC (fewC c) key) key v ok1 fit1 (by omega) hk hv W a b)
  have LE1 := Lib.hid (fun sv mv W a b => len_any sv mv (delC (fewC c) key) ok1 W a b)
  have LE2 := Lib.hid (fun sv mv W a b => len_any sv mv (setC (delC (fewC c) key) key v) ok2 W a b)
  have GE1 := Lib.hid (fun W a b o => get_any (.slice A1 (fewC c).sl.length n1) (.slice A2 (fewC c).mo.length n2) (fewC c) o okD W a b)
  have GE2 := Lib.hid (fun sv mv W a b o => get_any sv mv (setC (delC (fewC c) key) key v) o ok2 W a b)
  have LAW := Lib.hid (show delB (fewC c) key = true → setE (delC (fewC c) key) key v = 0 →
      lenW (setC (delC (fewC c) key) key v) = lenW (delC (fewC c) key) + 1 ∧ (setC (delC (fewC c) key) key v).mo = (delC (fewC c) key).mo ++ [key, v] ∧
      (∀ o, key.eq o = false → getC (setC (delC (fewC c) key) key v) o = getC (fewC c) o ∧ getB (setC (delC (fewC c) key) key v) o = getB (fewC c) o) ∧ (delC (fewC c) key).mo.length ≤ 200 ∧ lenW (delC (fewC c) key) ≤ 200 from fun hd hs => by
    have := moves (del_isW hd) (setE_zero hs).2 (by omega)
    refine ⟨this.1, this.2.1, this.2.2, by omega, ?_⟩
    unfold lenW
    split <;> omega)
  have SE := Lib.hid (show setE (delC (fewC c) key) key v = 0 ∨ (setE (delC (fewC c) key) key v != 0) = true by
    by_cases h : setE (delC (fewC c) key) key v = 0
    · exact .inl h
    · exact .inr (bne_iff_ne.2 h))
  have ek : (fewC c).k = c.k ∧ (fewC c).sh = c.sh ∧ (fewC c).fl = c.fl ∧ (fewC c).ag = c.ag := ⟨rfl, rfl, rfl, rfl⟩
  clear h1 h2 c1 c2 m1 m2 okD ld1 ld2 fitD ok1 l11 l12 fit1 ok2 l21 l22 e1 e2 hc hk hv H1 H2
  generalize setE (delC (fewC c) key) key v = E2 at *
  generalize setC (delC (fewC c) key) key v = X2 at *
  generalize delB (fewC c) key = B1 at *
  generalize delC (fewC c) key = X1 at *
  obtain ⟨dk, ds, df, da⟩ := ek
  generalize fewC c = D at *
  rw [← dk, ← ds, ← df, ← da] at FEW ⊢
  clear dk ds df da
  go_enter Try.func6, Try.ntmps6
  go_upto_region 1 with fail
  refine wp_world (fun W => W.heap[w.heap.size]? = some (cellO D.k D.sh D.fl D.ag (.slice A1 c.sl.length n1) (.slice A2 c.mo.length n2)) ∧ W.heap[w.heap.size + 1]? = some (valB key) ∧ W.heap[w.heap.size + 1 + 1]? = some (valB v) ∧ Below w.heap.size w W) (heap3 w _ _ _) ?_
  rintro W ⟨j1, j2, j3, jb⟩
  have g0 : w.heap.size < W.heap.size := (Array.getElem?_eq_some_iff.1 j1).1
  have g1 : w.heap.size + 1 < W.heap.size := (Array.getElem?_eq_some_iff.1 j2).1
  have g2 : w.heap.size + 1 + 1 < W.heap.size := (Array.getElem?_eq_some_iff.1 j3).1
  obtain ⟨⟨a0, a1, a2, a3, a4, a5⟩, f0, f1, f2, f3, f4, f5⟩ := cells6 j1
  have J := Lib.hid (And.intro j1 (And.intro j2 (And.intro j3 jb)))
  clear j1 j2 j3 jb
  go_upto_region 4 with (first | (go_at_call 7; refine (callGr (awake_any _)).mono ?_; rintro e w' ⟨pp, rfl, rfl⟩) | (go_at_call 8; refine (callGr (FEW.out _)).mono ?_; rintro e w' ⟨pp, rfl, rfl⟩))
  refine wp_world (fun Y => Y.heap[w.heap.size]? = some (cellO D.k D.sh D.fl D.ag (.slice A1 D.sl.length n1) (.slice A2 D.mo.length n2)) ∧ Y.heap[w.heap.size + 1]? = some (valB key) ∧ Y.heap[w.heap.size + 1 + 1]? = some (valB v) ∧ Below w.heap.size w Y) ?_ ?_
  · have P := put6 (k' := D.k) (sh' := D.sh) (fl' := D.fl) (ag' := D.ag) (s' := .slice A1 D.sl.length n1) (mm' := .slice A2 D.mo.length n2) J.out.2.2.2 (Nat.le_refl _) J.out.1
    exact ⟨((below_gr _ _).block _ (by simpa using g0)).trans P.1, ((below_gr _ _).block _ (by simpa using g1)).trans ((P.2.1.block _ g1 (fun (e : _ = _) => by omega)).trans J.out.2.1), ((below_gr _ _).block _ (by simpa using g2)).trans ((P.2.1.block _ g2 (fun (e : _ = _) => by omega)).trans J.out.2.2.1), bl_gr P.2.2 _⟩
  rintro Y ⟨j1, j2, j3, jb⟩
  have g0 : w.heap.size < Y.heap.size := (Array.getElem?_eq_some_iff.1 j1).1
  have g1 : w.heap.size + 1 < Y.heap.size := (Array.getElem?_eq_some_iff.1 j2).1
  have g2 : w.heap.size + 1 + 1 < Y.heap.size := (Array.getElem?_eq_some_iff.1 j3).1
  have I1 := Lib.hid (T1.out Y jb)
  have I2 := Lib.hid (T2.out Y jb)
  have BY := Lib.hid jb
  have KK := Lib.hid (show ∀ Z, Below Y.heap.size Y Z → Z.heap[w.heap.size]? = some (cellO D.k D.sh D.fl D.ag (.slice A1 D.sl.length n1) (.slice A2 D.mo.length n2)) ∧ Z.heap[w.heap.size + 1]? = some (valB key) ∧ Z.heap[w.heap.size + 1 + 1]? = some (valB v) from fun Z h => ⟨(h.block _ g0).trans j1, (h.block _ g1).trans j2, (h.block _ g2).trans j3⟩)
  clear a0 a1 a2 a3 a4 a5 f0 f1 f2 f3 f4 f5 J FEW T1 T2 jb
  obtain ⟨⟨a0, a1, a2, a3, a4, a5⟩, _⟩ := cells6 j1
  obtain ⟨t0, t1, t2⟩ := cells3 j2
  clear j1 j2 j3
  go_upto_region 5 with (go_at_call 18; refine (DEL.out _ (I1.out.below (by (repeat (with_reducible first  | exact Below.refl _ _ | refine bl_rapp ?_ | (refine bl_set ?_ (by first | omega | (simp; done) | (simp; omega)) _) | refine bl_gr ?_ _ | refine bl_al ?_ _ | refine bl_drewN ?_ _ | refine Below.drew ?_)))) (I2.out.below (by (repeat (with_reducible first  | exact Below.refl _ _ | refine bl_rapp ?_ | (refine bl_set ?_ (by first | omega | (simp; done) | (simp; omega)) _) | refine bl_gr ?_ _ | refine bl_al ?_ _ | refine bl_drewN ?_ _ | refine Below.drew ?_))))).mono ?_; rintro e w1 ⟨A4, n4, A5, n5, rfl, o1, o2, hb⟩; have R1 := Lib.hid (And.intro o1 (And.intro o2 (show Below Y.heap.size Y w1 from bl_tr (by (repeat (with_reducible first  | exact Below.refl _ _ | refine bl_rapp ?_ | (refine bl_set ?_ (by first | omega | (simp; done) | (simp; omega)) _) | refine bl_gr ?_ _ | refine bl_al ?_ _ | refine bl_drewN ?_ _ | refine Below.drew ?_))) hb))); clear o1 o2 hb)
  refine wp_world (fun Z => Z.heap[w1.heap.size]? = some (cellO X1.k X1.sh X1.fl X1.ag (.slice A4 X1.sl.length n4) (.slice A5 X1.mo.length n5)) ∧ Below w1.heap.size w1 Z) ⟨heap_alloc_new _ _, bl_al (Below.refl _ _) _⟩ ?_
  rintro Z1 ⟨z0, zb⟩
  have lz1 := (Array.getElem?_eq_some_iff.1 z0).1
  have B1' := Lib.hid (bl_tr R1.out.2.2 zb)
  have Q1 := Lib.hid (And.intro (R1.out.1.below zb) (And.intro (R1.out.2.1.below zb) z0))
  clear a0 a1 a2 a3 a4 a5 t0 t1 t2 zb R1
  obtain ⟨⟨a0, a1, a2, a3, a4, a5⟩, _⟩ := cells6 z0
  obtain ⟨t0, t1, t2⟩ := cells3 (KK.out Z1 B1'.out).2.1
  obtain ⟨u0, u1, u2⟩ := cells3 (KK.out Z1 B1'.out).2.2
  have g1 : w.heap.size + 1 < Z1.heap.size := Nat.lt_of_lt_of_le g1 B1'.out.size
  have g2 : w.heap.size + 1 + 1 < Z1.heap.size := Nat.lt_of_lt_of_le g2 B1'.out.size
  clear z0
  go_upto_region 6 with (go_at_call 16; refine (SET.out _ _ _ (Q1.out.1.below (by (repeat (with_reducible first  | exact Below.refl _ _ | refine bl_rapp ?_ | (refine bl_set ?_ (by first | omega | (simp; done) | (simp; omega)) _) | refine bl_gr ?_ _ | refine bl_al ?_ _ | refine bl_drewN ?_ _ | refine Below.drew ?_)))) (Q1.out.2.1.below (by (repeat (with_reducible first  | exact Below.refl _ _ | refine bl_rapp ?_ | (refine bl_set ?_ (by first | omega | (simp; done) | (simp; omega)) _) | refine bl_gr ?_ _ | refine bl_al ?_ _ | refine bl_drewN ?_ _ | refine Below.drew ?_))))).mono ?_; rintro e w2 ⟨A6, n6, A7, n7, rfl, o1, o2, hb⟩; have R2 := Lib.hid (And.intro o1 (And.intro o2 (show Below Z1.heap.size Z1 w2 from bl_tr (by (repeat (with_reducible first  | exact Below.refl _ _ | refine bl_rapp ?_ | (refine bl_set ?_ (by first | omega | (simp; done) | (simp; omega)) _) | refine bl_gr ?_ _ | refine bl_al ?_ _ | refine bl_drewN ?_ _ | refine Below.drew ?_))) hb))); clear o1 o2 hb)
  refine wp_world (fun Z => Z.heap[w2.heap.size]? = some (cellO X2.k X2.sh X2.fl X2.ag (.slice A6 X2.sl.length n6) (.slice A7 X2.mo.length n7)) ∧ Below w2.heap.size w2 Z) ⟨heap_alloc_new _ _, bl_al (Below.refl _ _) _⟩ ?_
  rintro Z2 ⟨z0, zb⟩
  have lz2 := (Array.getElem?_eq_some_iff.1 z0).1
  have b12 : Below Z1.heap.size Z1 Z2 := bl_tr R2.out.2.2 zb
  have B2 := Lib.hid (bl_tr B1'.out b12)
  have lz3 : w1.heap.size < Z2.heap.size := Nat.lt_of_lt_of_le lz1 b12.size
  have K2 := Lib.hid (show ∀ Z, Below Z2.heap.size Z2 Z → Z.heap[w.heap.size]? = some (cellO D.k D.sh D.fl D.ag (.slice A1 D.sl.length n1) (.slice A2 D.mo.length n2)) ∧ Z.heap[w.heap.size + 1]? = some (valB key) ∧ Z.heap[w.heap.size + 1 + 1]? = some (valB v) ∧ Z.heap[w1.heap.size]? = some (cellO X1.k X1.sh X1.fl X1.ag (.slice A4 X1.sl.length n4) (.slice A5 X1.mo.length n5)) ∧ Z.heap[w2.heap.size]? = some (cellO X2.k X2.sh X2.fl X2.ag (.slice A6 X2.sl.length n6) (.slice A7 X2.mo.length n7)) from
    fun Z hZ => ⟨(KK.out Z (bl_tr B2.out hZ)).1, (KK.out Z (bl_tr B2.out hZ)).2.1, (KK.out Z (bl_tr B2.out hZ)).2.2, ((bl_tr b12 hZ).block _ lz1).trans Q1.out.2.2, (hZ.block _ lz2).trans z0⟩)
  have G1 := Lib.hid (And.intro (Q1.out.1.below b12) (Q1.out.2.1.below b12))
  have G2 := Lib.hid (And.intro (R2.out.1.below zb) (R2.out.2.1.below zb))
  have J1 := Lib.hid (I1.out.below B2.out)
  have J2 := Lib.hid (I2.out.below B2.out)
  have BZ := Lib.hid (bl_tr BY.out B2.out)
  clear a0 a1 a2 a3 a4 a5 t0 t1 t2 u0 u1 u2 zb R2 Q1 I1 I2 b12 z0 KK BY B1' B2 g0 g1 g2 DEL SET
  cases B1
  · go_wp2
    go_ret
    exact ⟨rfl, bl_tr BZ.out (by (repeat (with_reducible first  | exact Below.refl _ _ | refine bl_rapp ?_ | (refine bl_set ?_ (by first | omega | (simp; done) | (simp; omega)) _) | refine bl_gr ?_ _ | refine bl_al ?_ _ | refine bl_drewN ?_ _ | refine Below.drew ?_)))⟩
  rcases SE.out with hE | hE
  case inr =>
    go_wp2
    go_ret
    exact ⟨rfl, bl_tr BZ.out (by (repeat (with_reducible first  | exact Below.refl _ _ | refine bl_rapp ?_ | (refine bl_set ?_ (by first | omega | (simp; done) | (simp; omega)) _) | refine bl_gr ?_ _ | refine bl_al ?_ _ | refine bl_drewN ?_ _ | refine Below.drew ?_)))⟩
  subst hE
  obtain ⟨hl, hmo, hget, hq, hq2⟩ := LAW.out rfl rfl
  have hmo2 : X2.mo.length = X1.mo.length + 2 := by rw [hmo, List.length_append]; rfl
  have v1 : vAt X2.mo X1.mo.length = key ∧ vAt X2.mo (X1.mo.length + 1) = v := by
    rw [hmo]
    unfold vAt
    constructor
    · rw [List.getElem?_append_right (Nat.le_refl _), Nat.sub_self]; rfl
    · rw [List.getElem?_append_right (Nat.le_succ _), show X1.mo.length + 1 - X1.mo.length = 1 by omega]; rfl
  have HG := Lib.hid hget
  obtain ⟨b, off, rfl⟩ := isV_addr G2.out.2 (by omega)
  have SK := Lib.hid (show ∀ Z, Below Z2.heap.size Z2 Z → Z.cell? ⟨b, off + X1.mo.length * 3, none⟩ = some (.int .i64 key.k) ∧ Z.cell? ⟨b, off + X1.mo.length * 3 + 1, none⟩ = some (.int .i64 key.n) ∧ Z.cell? ⟨b, off + X1.mo.length * 3 + 2, none⟩ = some (.string key.s) ∧ Z.cell? ⟨b, off + (X1.mo.length + 1) * 3, none⟩ = some (.int .i64 v.k) ∧ Z.cell? ⟨b, off + (X1.mo.length + 1) * 3 + 1, none⟩ = some (.int .i64 v.n) ∧ Z.cell? ⟨b, off + (X1.mo.length + 1) * 3 + 2, none⟩ = some (.string v.s) from fun Z hZ => by
    obtain ⟨_, h0, h1, h2⟩ := (G2.out.2.below hZ).v3 X1.mo.length (by omega)
    obtain ⟨_, h3, h4, h5⟩ := (G2.out.2.below hZ).v3 (X1.mo.length + 1) (by omega)
    rw [v1.1] at h0 h1 h2
    rw [v1.2] at h3 h4 h5
    exact ⟨h0, h1, h2, h3, h4, h5⟩)
  rw [hmo2] at K2 G2
  rw [hl] at LE2
  clear hl hmo hmo2 hget v1 LAW SE
  generalize X1.mo.length = q at *
  generalize lenW X1 = ll at *
  have x1 : IntKind.i64.wrap ((ll : Int) + 1) = (ll : Int) + 1 := IntWalk.i64_in _ (by omega)
  have x2 : IntKind.i64.wrap ((q : Int) + 2 - 2) = (q : Int) := by rw [show (q : Int) + 2 - 2 = q by omega]; exact IntWalk.i64_in _ (by omega)
  have x3 : IntKind.i64.wrap ((q : Int) + 2 - 1) = (q : Int) + 1 := by rw [show (q : Int) + 2 - 1 = q + 1 by omega]; exact IntWalk.i64_in _ (by omega)
  have z1 : IntKind.i64.wrap (q : Int) = (q : Int) := IntWalk.i64_in _ (by omega)
  have z2 : IntKind.i64.wrap ((q : Int) + 1) = (q : Int) + 1 := IntWalk.i64_in _ (by omega)
  have x4 : ((q : Int) + 1).toNat = q + 1 := by omega
  have x5 : (0 : Int) ≤ (q : Int) := by omega
  have x6 : (0 : Int) ≤ (q : Int) + 1 := by omega
  have x7 : (q : Int) < (q : Int) + 2 := by omega
  have x8 : (q : Int) + 1 < (q : Int) + 2 := by omega
  have x9 : ¬ (q : Int) + 2 < 2 := by omega
  have x10 : ¬ (q : Int) < 0 := by omega
  have x11 : decide ((q : Int) + 2 < 2) = false := decide_eq_false x9
  have x12 : decide ((q : Int) < 0) = false := decide_eq_false x10
  have y1 := eq_cols key
  have y2 := eq_cols v
  obtain ⟨⟨a0, a1, a2, a3, a4, a5⟩, _⟩ := cells6 (K2.out Z2 (Below.refl _ _)).2.2.2.2
  go_upto_region 9 with fail
  (refine wp_region_held_drew (S := (fun Z : World => Below Z2.heap.size Z2 Z)) Try.mixed (by ((repeat (with_reducible first  | exact Below.refl _ _ | refine bl_rapp ?_ | (refine bl_set ?_ (by first | omega | (simp; done) | (simp; omega)) _) | refine bl_gr ?_ _ | refine bl_al ?_ _ | refine bl_drewN ?_ _ | refine Below.drew ?_)))) (fun hS => ?_); (refine wpAnyH_take (i := 0) (v := ?_) rfl (by kernel_rfl) (by kernel_rfl) (by kernel_rfl) (fun _ _ _ h => h) ?_ (by assumption) ?_; rotate_left; (next => (refine Or.inl ⟨by kernel_rfl, ?_⟩; ((intro w hSw; (try dsimp only at hSw); (have q' := K2.out _ hSw; obtain ⟨⟨p0, p1, p2, p3, p4, p5⟩, _⟩ := cells6 q'.2.2.2.1; obtain ⟨⟨r0, r1, r2, r3, r4, r5⟩, _⟩ := cells6 q'.2.2.2.2; obtain ⟨t0, t1, t2⟩ := cells3 q'.2.1; obtain ⟨u0, u1, u2⟩ := cells3 q'.2.2.1; obtain ⟨s0, s1, s2, s3, s4, s5⟩ := SK.out _ hSw; clear q'); go_simp) <;> with_reducible rfl))); (try simp only [Act.put, List.setIfInBounds_toArray, List.set_cons_zero, List.set_cons_succ])); (refine wpAnyH_take (i := 2) (v := ?_) rfl (by kernel_rfl) (by kernel_rfl) (by kernel_rfl) (fun _ _ _ h => h) ?_ (by assumption) ?_; rotate_left; (next => (refine Or.inl ⟨by kernel_rfl, ?_⟩; ((intro w hSw; (try dsimp only at hSw); (have q' := K2.out _ hSw; obtain ⟨⟨p0, p1, p2, p3, p4, p5⟩, _⟩ := cells6 q'.2.2.2.1; obtain ⟨⟨r0, r1, r2, r3, r4, r5⟩, _⟩ := cells6 q'.2.2.2.2; obtain ⟨t0, t1, t2⟩ := cells3 q'.2.1; obtain ⟨u0, u1, u2⟩ := cells3 q'.2.2.1; obtain ⟨s0, s1, s2, s3, s4, s5⟩ := SK.out _ hSw; clear q'); go_simp) <;> with_reducible rfl))); (try simp only [Act.put, List.setIfInBounds_toArray, List.set_cons_zero, List.set_cons_succ])); refine wpAnyH_ready (rs := [1]) (by kernel_rfl) (by simp) ?_; refine AllReadyH.cons rfl (fun K hK => ?_) AllReadyH.nil; go_simp; ((go_at_call 22; refine (callGr (LE2.out _ _ _ (G2.out.1.below (by (repeat (with_reducible first  | exact Below.refl _ _ | refine bl_rapp ?_ | (refine bl_set ?_ (by first | omega | (simp; done) | (simp; omega)) _) | refine bl_gr ?_ _ | refine bl_al ?_ _ | refine bl_drewN ?_ _ | refine Below.drew ?_)))) (G2.out.2.below (by (repeat (with_reducible first  | exact Below.refl _ _ | refine bl_rapp ?_ | (refine bl_set ?_ (by first | omega | (simp; done) | (simp; omega)) _) | refine bl_gr ?_ _ | refine bl_al ?_ _ | refine bl_drewN ?_ _ | refine Below.drew ?_)))))).mono ?_; rintro e w' ⟨pp, rfl, rfl⟩)); refine hK.out _ _ (by ((repeat (with_reducible first  | exact Below.refl _ _ | refine bl_rapp ?_ | (refine bl_set ?_ (by first | omega | (simp; done) | (simp; omega)) _) | refine bl_gr ?_ _ | refine bl_al ?_ _ | refine bl_drewN ?_ _ | refine Below.drew ?_)))) (fun hS => ?_); clear hK K; (try simp only [Act.put, List.setIfInBounds_toArray, List.set_cons_zero, List.set_cons_succ]); refine wpAnyH_ready (rs := [3]) (by kernel_rfl) (by simp) ?_; refine AllReadyH.cons rfl (fun K hK => ?_) AllReadyH.nil; go_simp; ((go_at_call 22; refine (callGr (LE1.out _ _ _ (G1.out.1.below (by (repeat (with_reducible first  | exact Below.refl _ _ | refine bl_rapp ?_ | (refine bl_set ?_ (by first | omega | (simp; done) | (simp; omega)) _) | refine bl_gr ?_ _ | refine bl_al ?_ _ | refine bl_drewN ?_ _ | refine Below.drew ?_)))) (G1.out.2.below (by (repeat (with_reducible first  | exact Below.refl _ _ | refine bl_rapp ?_ | (refine bl_set ?_ (by first | omega | (simp; done) | (simp; omega)) _) | refine bl_gr ?_ _ | refine bl_al ?_ _ | refine bl_drewN ?_ _ | refine Below.drew ?_)))))).mono ?_; rintro e w' ⟨pp, rfl, rfl⟩)); refine hK.out _ _ (by ((repeat (with_reducible first  | exact Below.refl _ _ | refine bl_rapp ?_ | (refine bl_set ?_ (by first | omega | (simp; done) | (simp; omega)) _) | refine bl_gr ?_ _ | refine bl_al ?_ _ | refine bl_drewN ?_ _ | refine Below.drew ?_)))) (fun hS => ?_); clear hK K; (try simp only [Act.put, List.setIfInBounds_toArray, List.set_cons_zero, List.set_cons_succ]); (refine wpAnyH_take (i := 4) (v := ?_) rfl (by kernel_rfl) (by kernel_rfl) (by kernel_rfl) (fun _ _ _ h => h) ?_ (by assumption) ?_; rotate_left; (next => (refine Or.inl ⟨by kernel_rfl, ?_⟩; ((intro w hSw; (try dsimp only at hSw); go_simp) <;> with_reducible rfl))); (try simp only [Act.put, List.setIfInBounds_toArray, List.set_cons_zero, List.set_cons_succ])); (refine wpAnyH_take (i := 5) (v := ?_) rfl (by kernel_rfl) (by kernel_rfl) (by kernel_rfl) (fun _ _ _ h => h) ?_ (by assumption) ?_; rotate_left; (next => (refine Or.inl ⟨by kernel_rfl, ?_⟩; ((intro w hSw; (try dsimp only at hSw); go_simp) <;> with_reducible rfl))); (try simp only [Act.put, List.setIfInBounds_toArray, List.set_cons_zero, List.set_cons_succ])); (refine wpAnyH_take (i := 6) (v := ?_) rfl (by kernel_rfl) (by kernel_rfl) (by kernel_rfl) (fun _ _ _ h => h) ?_ (by assumption) ?_; rotate_left; (next => (refine Or.inl ⟨by kernel_rfl, ?_⟩; ((intro w hSw; (try dsimp only at hSw); go_simp) <;> with_reducible rfl))); (try simp only [Act.put, List.setIfInBounds_toArray, List.set_cons_zero, List.set_cons_succ])); (refine wpAnyH_take (i := 7) (v := ?_) rfl (by kernel_rfl) (by kernel_rfl) (by kernel_rfl) (fun _ _ _ h => h) ?_ (by assumption) ?_; rotate_left; (next => (refine Or.inl ⟨by kernel_rfl, ?_⟩; ((intro w hSw; (try dsimp only at hSw); go_simp) <;> with_reducible rfl))); (try simp only [Act.put, List.setIfInBounds_toArray, List.set_cons_zero, List.set_cons_succ])); refine wpAnyH_ready (rs := [8]) (by kernel_rfl) (by simp) ?_; refine AllReadyH.cons rfl (fun K hK => ?_) AllReadyH.nil; go_simp; refine hK.out _ _ (by ((repeat (with_reducible first  | exact Below.refl _ _ | refine bl_rapp ?_ | (refine bl_set ?_ (by first | omega | (simp; done) | (simp; omega)) _) | refine bl_gr ?_ _ | refine bl_al ?_ _ | refine bl_drewN ?_ _ | refine Below.drew ?_)))) (fun hS => ?_); clear hK K; (try simp only [Act.put, List.setIfInBounds_toArray, List.set_cons_zero, List.set_cons_succ]); (refine wpAnyH_take (i := 9) (v := ?_) rfl (by kernel_rfl) (by kernel_rfl) (by kernel_rfl) (fun _ _ _ h => h) ?_ (by assumption) ?_; rotate_left; (next => (refine Or.inl ⟨by kernel_rfl, ?_⟩; ((intro w hSw; (try dsimp only at hSw); go_simp) <;> with_reducible rfl))); (try simp only [Act.put, List.setIfInBounds_toArray, List.set_cons_zero, List.set_cons_succ])); (refine wpAnyH_take (i := 10) (v := ?_) rfl (by kernel_rfl) (by kernel_rfl) (by kernel_rfl) (fun _ _ _ h => h) ?_ (by assumption) ?_; rotate_left; (next => (refine Or.inl ⟨by kernel_rfl, ?_⟩; ((intro w hSw; (try dsimp only at hSw); go_simp) <;> with_reducible rfl))); (try simp only [Act.put, List.setIfInBounds_toArray, List.set_cons_zero, List.set_cons_succ])); (refine wpAnyH_take (i := 11) (v := ?_) rfl (by kernel_rfl) (by kernel_rfl) (by kernel_rfl) (fun _ _ _ h => h) ?_ (by assumption) ?_; rotate_left; (next => (refine Or.inl ⟨by kernel_rfl, ?_⟩; ((intro w hSw; (try dsimp only at hSw); go_simp) <;> with_reducible rfl))); (try simp only [Act.put, List.setIfInBounds_toArray, List.set_cons_zero, List.set_cons_succ])); (refine wpAnyH_take (i := 12) (v := ?_) rfl (by kernel_rfl) (by kernel_rfl) (by kernel_rfl) (fun _ _ _ h => h) ?_ (by assumption) ?_; rotate_left; (next => (refine Or.inl ⟨by kernel_rfl, ?_⟩; ((intro w hSw; (try dsimp only at hSw); (have q' := K2.out _ hSw; obtain ⟨⟨p0, p1, p2, p3, p4, p5⟩, _⟩ := cells6 q'.2.2.2.1; obtain ⟨⟨r0, r1, r2, r3, r4, r5⟩, _⟩ := cells6 q'.2.2.2.2; obtain ⟨t0, t1, t2⟩ := cells3 q'.2.1; obtain ⟨u0, u1, u2⟩ := cells3 q'.2.2.1; obtain ⟨s0, s1, s2, s3, s4, s5⟩ := SK.out _ hSw; clear q'); go_simp) <;> with_reducible rfl))); (try simp only [Act.put, List.setIfInBounds_toArray, List.set_cons_zero, List.set_cons_succ])); (refine wpAnyH_take (i := 13) (v := ?_) rfl (by kernel_rfl) (by kernel_rfl) (by kernel_rfl) (fun _ _ _ h => h) ?_ (by assumption) ?_; rotate_left; (next => (refine Or.inl ⟨by kernel_rfl, ?_⟩; ((intro w hSw; (try dsimp only at hSw); go_simp) <;> with_reducible rfl))); (try simp only [Act.put, List.setIfInBounds_toArray, List.set_cons_zero, List.set_cons_succ])); (refine wpAnyH_take (i := 17) (v := ?_) rfl (by kernel_rfl) (by kernel_rfl) (by kernel_rfl) (fun _ _ _ h => h) ?_ (by assumption) ?_; rotate_left; (next => (refine Or.inl ⟨by kernel_rfl, ?_⟩; ((intro w hSw; (try dsimp only at hSw); (have q' := K2.out _ hSw; obtain ⟨⟨p0, p1, p2, p3, p4, p5⟩, _⟩ := cells6 q'.2.2.2.1; obtain ⟨⟨r0, r1, r2, r3, r4, r5⟩, _⟩ := cells6 q'.2.2.2.2; obtain ⟨t0, t1, t2⟩ := cells3 q'.2.1; obtain ⟨u0, u1, u2⟩ := cells3 q'.2.2.1; obtain ⟨s0, s1, s2, s3, s4, s5⟩ := SK.out _ hSw; clear q'); go_simp) <;> with_reducible rfl))); (try simp only [Act.put, List.setIfInBounds_toArray, List.set_cons_zero, List.set_cons_succ])); refine wpAnyH_ready (rs := [14]) (by kernel_rfl) (by simp) ?_; refine AllReadyH.cons rfl (fun K hK => ?_) AllReadyH.nil; go_simp; refine hK.out _ _ (by ((repeat (with_reducible first  | exact Below.refl _ _ | refine bl_rapp ?_ | (refine bl_set ?_ (by first | omega | (simp; done) | (simp; omega)) _) | refine bl_gr ?_ _ | refine bl_al ?_ _ | refine bl_drewN ?_ _ | refine Below.drew ?_)))) (fun hS => ?_); clear hK K; (try simp only [Act.put, List.setIfInBounds_toArray, List.set_cons_zero, List.set_cons_succ]); refine wpAnyH_ready (rs := [15]) (by kernel_rfl) (by simp) ?_; refine AllReadyH.cons rfl (fun K hK => ?_) AllReadyH.nil; go_simp; refine hK.out _ _ (by ((repeat (with_reducible first  | exact Below.refl _ _ | refine bl_rapp ?_ | (refine bl_set ?_ (by first | omega | (simp; done) | (simp; omega)) _) | refine bl_gr ?_ _ | refine bl_al ?_ _ | refine bl_drewN ?_ _ | refine Below.drew ?_)))) (fun hS => ?_); clear hK K; (try simp only [Act.put, List.setIfInBounds_toArray, List.set_cons_zero, List.set_cons_succ]); (refine wpAnyH_take (i := 16) (v := ?_) rfl (by kernel_rfl) (by kernel_rfl) (by kernel_rfl) (fun _ _ _ h => h) ?_ (by assumption) ?_; rotate_left; (next => (refine Or.inl ⟨by kernel_rfl, ?_⟩; ((intro w hSw; (try dsimp only at hSw); (have q' := K2.out _ hSw; obtain ⟨⟨p0, p1, p2, p3, p4, p5⟩, _⟩ := cells6 q'.2.2.2.1; obtain ⟨⟨r0, r1, r2, r3, r4, r5⟩, _⟩ := cells6 q'.2.2.2.2; obtain ⟨t0, t1, t2⟩ := cells3 q'.2.1; obtain ⟨u0, u1, u2⟩ := cells3 q'.2.2.1; obtain ⟨s0, s1, s2, s3, s4, s5⟩ := SK.out _ hSw; clear q'); go_simp) <;> with_reducible rfl))); (try simp only [Act.put, List.setIfInBounds_toArray, List.set_cons_zero, List.set_cons_succ])); (refine wpAnyH_take (i := 18) (v := ?_) rfl (by kernel_rfl) (by kernel_rfl) (by kernel_rfl) (fun _ _ _ h => h) ?_ (by assumption) ?_; rotate_left; (next => (refine Or.inl ⟨by kernel_rfl, ?_⟩; ((intro w hSw; (try dsimp only at hSw); go_simp) <;> with_reducible rfl))); (try simp only [Act.put, List.setIfInBounds_toArray, List.set_cons_zero, List.set_cons_succ])); (refine wpAnyH_take (i := 19) (v := ?_) rfl (by kernel_rfl) (by kernel_rfl) (by kernel_rfl) (fun _ _ _ h => h) ?_ (by assumption) ?_; rotate_left; (next => (refine Or.inl ⟨by kernel_rfl, ?_⟩; ((intro w hSw; (try dsimp only at hSw); go_simp) <;> with_reducible rfl))); (try simp only [Act.put, List.setIfInBounds_toArray, List.set_cons_zero, List.set_cons_succ])); (refine wpAnyH_take (i := 20) (v := ?_) rfl (by kernel_rfl) (by kernel_rfl) (by kernel_rfl) (fun _ _ _ h => h) ?_ (by assumption) ?_; rotate_left; (next => (refine Or.inl ⟨by kernel_rfl, ?_⟩; ((intro w hSw; (try dsimp only at hSw); go_simp) <;> with_reducible rfl))); (try simp only [Act.put, List.setIfInBounds_toArray, List.set_cons_zero, List.set_cons_succ])); (refine wpAnyH_take (i := 21) (v := ?_) rfl (by kernel_rfl) (by kernel_rfl) (by kernel_rfl) (fun _ _ _ h => h) ?_ (by assumption) ?_; rotate_left; (next => (refine Or.inl ⟨by kernel_rfl, ?_⟩; ((intro w hSw; (try dsimp only at hSw); go_simp) <;> with_reducible rfl))); (try simp only [Act.put, List.setIfInBounds_toArray, List.set_cons_zero, List.set_cons_succ])); (refine wpAnyH_take (i := 22) (v := ?_) rfl (by kernel_rfl) (by kernel_rfl) (by kernel_rfl) (fun _ _ _ h => h) ?_ (by assumption) ?_; rotate_left; (next => (refine Or.inl ⟨by kernel_rfl, ?_⟩; ((intro w hSw; (try dsimp only at hSw); (have q' := K2.out _ hSw; obtain ⟨⟨p0, p1, p2, p3, p4, p5⟩, _⟩ := cells6 q'.2.2.2.1; obtain ⟨⟨r0, r1, r2, r3, r4, r5⟩, _⟩ := cells6 q'.2.2.2.2; obtain ⟨t0, t1, t2⟩ := cells3 q'.2.1; obtain ⟨u0, u1, u2⟩ := cells3 q'.2.2.1; obtain ⟨s0, s1, s2, s3, s4, s5⟩ := SK.out _ hSw; clear q'); go_simp) <;> with_reducible rfl))); (try simp only [Act.put, List.setIfInBounds_toArray, List.set_cons_zero, List.set_cons_succ])); (refine wpAnyH_take (i := 23) (v := ?_) rfl (by kernel_rfl) (by kernel_rfl) (by kernel_rfl) (fun _ _ _ h => h) ?_ (by assumption) ?_; rotate_left; (next => (refine Or.inl ⟨by kernel_rfl, ?_⟩; ((intro w hSw; (try dsimp only at hSw); go_simp) <;> with_reducible rfl))); (try simp only [Act.put, List.setIfInBounds_toArray, List.set_cons_zero, List.set_cons_succ])); (refine wpAnyH_take (i := 27) (v := ?_) rfl (by kernel_rfl) (by kernel_rfl) (by kernel_rfl) (fun _ _ _ h => h) ?_ (by assumption) ?_; rotate_left; (next => (refine Or.inl ⟨by kernel_rfl, ?_⟩; ((intro w hSw; (try dsimp only at hSw); (have q' := K2.out _ hSw; obtain ⟨⟨p0, p1, p2, p3, p4, p5⟩, _⟩ := cells6 q'.2.2.2.1; obtain ⟨⟨r0, r1, r2, r3, r4, r5⟩, _⟩ := cells6 q'.2.2.2.2; obtain ⟨t0, t1, t2⟩ := cells3 q'.2.1; obtain ⟨u0, u1, u2⟩ := cells3 q'.2.2.1; obtain ⟨s0, s1, s2, s3, s4, s5⟩ := SK.out _ hSw; clear q'); go_simp) <;> with_reducible rfl))); (try simp only [Act.put, List.setIfInBounds_toArray, List.set_cons_zero, List.set_cons_succ])); refine wpAnyH_ready (rs := [24]) (by kernel_rfl) (by simp) ?_; refine AllReadyH.cons rfl (fun K hK => ?_) AllReadyH.nil; go_simp; refine hK.out _ _ (by ((repeat (with_reducible first  | exact Below.refl _ _ | refine bl_rapp ?_ | (refine bl_set ?_ (by first | omega | (simp; done) | (simp; omega)) _) | refine bl_gr ?_ _ | refine bl_al ?_ _ | refine bl_drewN ?_ _ | refine Below.drew ?_)))) (fun hS => ?_); clear hK K; (try simp only [Act.put, List.setIfInBounds_toArray, List.set_cons_zero, List.set_cons_succ]); refine wpAnyH_ready (rs := [25]) (by kernel_rfl) (by simp) ?_; refine AllReadyH.cons rfl (fun K hK => ?_) AllReadyH.nil; go_simp; refine hK.out _ _ (by ((repeat (with_reducible first  | exact Below.refl _ _ | refine bl_rapp ?_ | (refine bl_set ?_ (by first | omega | (simp; done) | (simp; omega)) _) | refine bl_gr ?_ _ | refine bl_al ?_ _ | refine bl_drewN ?_ _ | refine Below.drew ?_)))) (fun hS => ?_); clear hK K; (try simp only [Act.put, List.setIfInBounds_toArray, List.set_cons_zero, List.set_cons_succ]); (refine wpAnyH_take (i := 26) (v := ?_) rfl (by kernel_rfl) (by kernel_rfl) (by kernel_rfl) (fun _ _ _ h => h) ?_ (by assumption) ?_; rotate_left; (next => (refine Or.inl ⟨by kernel_rfl, ?_⟩; ((intro w hSw; (try dsimp only at hSw); (have q' := K2.out _ hSw; obtain ⟨⟨p0, p1, p2, p3, p4, p5⟩, _⟩ := cells6 q'.2.2.2.1; obtain ⟨⟨r0, r1, r2, r3, r4, r5⟩, _⟩ := cells6 q'.2.2.2.2; obtain ⟨t0, t1, t2⟩ := cells3 q'.2.1; obtain ⟨u0, u1, u2⟩ := cells3 q'.2.2.1; obtain ⟨s0, s1, s2, s3, s4, s5⟩ := SK.out _ hSw; clear q'); go_simp) <;> with_reducible rfl))); (try simp only [Act.put, List.setIfInBounds_toArray, List.set_cons_zero, List.set_cons_succ])); (refine wpAnyH_take (i := 28) (v := ?_) rfl (by kernel_rfl) (by kernel_rfl) (by kernel_rfl) (fun _ _ _ h => h) ?_ (by assumption) ?_; rotate_left; (next => (refine Or.inl ⟨by kernel_rfl, ?_⟩; ((intro w hSw; (try dsimp only at hSw); go_simp) <;> with_reducible rfl))); (try simp only [Act.put, List.setIfInBounds_toArray, List.set_cons_zero, List.set_cons_succ])); (refine wpAnyH_take (i := 29) (v := ?_) rfl (by kernel_rfl) (by kernel_rfl) (by kernel_rfl) (fun _ _ _ h => h) ?_ (by assumption) ?_; rotate_left; (next => (refine Or.inl ⟨by kernel_rfl, ?_⟩; ((intro w hSw; (try dsimp only at hSw); go_simp) <;> with_reducible rfl))); (try simp only [Act.put, List.setIfInBounds_toArray, List.set_cons_zero, List.set_cons_succ])); refine wpAnyH_done (by kernel_rfl) ?_ _)
  go_simp
  go_upto_region 11 with fail
  refine wp_world (fun Z => Below Z2.heap.size Z2 Z) (by (repeat (with_reducible first  | exact Below.refl _ _ | refine bl_rapp ?_ | (refine bl_set ?_ (by first | omega | (simp; done) | (simp; omega)) _) | refine bl_gr ?_ _ | refine bl_al ?_ _ | refine bl_drewN ?_ _ | refine Below.drew ?_))) ?_
  intro Z3 hZ
  have B3 := Lib.hid hZ
  clear hZ hS
  have q' := K2.out Z3 B3.out
  obtain ⟨u0, u1, u2⟩ := cells3 q'.2.2.1
  have lb2 := (Array.getElem?_eq_some_iff.1 q'.2.2.1).1
  clear q' x1 x2 x3 x4 x5 x6 x7 x8 x9 x10 x11 x12 y1 y2 z1 z2 a0 a1 a2 a3 a4 a5 SK LE1 LE2
  obtain ⟨m, hm, em0, em⟩ := uint_rem v.n 6 (by omega) (by omega)
  have em1 : v.n % 18446744073709551616 % 6 = (m : Int) := em0.symm
  have em2 : IntKind.i64.wrap ((IntKind.u64.wrap v.n).tmod 6) = (m : Int) := by
    rw [show IntKind.u64.wrap v.n = v.n % 18446744073709551616 from rfl, Int.tmod_eq_emod_of_nonneg (Int.emod_nonneg _ (by omega)), em1]
    exact IntWalk.i64_in _ (by omega)
  clear em0
  have em3 : IntKind.i64.wrap (1 + (m : Int)) = 1 + (m : Int) := IntWalk.i64_in _ (by omega)
  go_upto_region 12 with (go_at_call 25; refine (object_any _ _).mono ?_; rintro e w9 ⟨rfl, hb⟩; have R9 := Lib.hid (show Below Z2.heap.size Z2 w9 from bl_tr (by (repeat (with_reducible first | exact B3.out | exact Below.refl _ _ | refine bl_rapp ?_ | (refine bl_set ?_ (by first | omega | (simp; done) | (simp; omega)) _) | refine bl_gr ?_ _ | refine bl_al ?_ _ | refine bl_drewN ?_ _ | refine Below.drew ?_))) hb); clear hb)
  refine wp_world (fun Z => Z.heap[w9.heap.size]? = some (valB (objV (1 + (m : Int)))) ∧ Below w9.heap.size w9 Z) ⟨by first | exact heap_alloc_new _ _ | (rw [em] ; exact heap_alloc_new _ _) | (rw [em2] ; exact heap_alloc_new _ _) | (rw [em, em3] ; exact heap_alloc_new _ _) | (rw [em2, em3] ; exact heap_alloc_new _ _), bl_al (Below.refl _ _) _⟩ ?_
  rintro Z4 ⟨z0, zb⟩
  have B4 := Lib.hid (bl_tr R9.out zb)
  have lo := (Array.getElem?_eq_some_iff.1 z0).1
  generalize objV (1 + (m : Int)) = o at z0
  have O4 := Lib.hid (show ∀ Z, Below Z4.heap.size Z4 Z → Z.heap[w9.heap.size]? = some (valB o) from fun Z h => (h.block _ lo).trans z0)
  obtain ⟨x0, x1, x2⟩ := cells3 z0
  have q' := K2.out Z4 B4.out
  obtain ⟨t0, t1, t2⟩ := cells3 q'.2.1
  clear q' z0 u0 u1 u2 lb2 zb R9 em em1 em2 em3 hm B3
  cases hok : o.eq key
  case true =>
    have hok' : (Val.mk o.k o.n o.s).eq ⟨key.k, key.n, key.s⟩ = true := hok
    go_wp2
    go_ret
    exact ⟨rfl, bl_tr BZ.out (by (repeat (with_reducible first | exact B4.out | exact Below.refl _ _ | refine bl_rapp ?_ | (refine bl_set ?_ (by first | omega | (simp; done) | (simp; omega)) _) | refine bl_gr ?_ _ | refine bl_al ?_ _ | refine bl_drewN ?_ _ | refine Below.drew ?_)))⟩
  have hok' : (Val.mk o.k o.n o.s).eq ⟨key.k, key.n, key.s⟩ = false := hok
  obtain ⟨e1, e2⟩ := HG.out o (eq_comm_val hok)
  replace GE2 := Lib.hid (fun sv mv W a b => GE2.out sv mv W a b o)
  replace GE1 := Lib.hid (fun W a b => GE1.out W a b o)
  rw [e1, e2] at GE2
  generalize getC D o = GV at *
  generalize getB D o = gb at *
  clear e1 e2 HG hok
  go_upto_region 14 with fail
  refine wp_world (fun Z => Below Z4.heap.size Z4 Z) (by (repeat (with_reducible first  | exact Below.refl _ _ | refine bl_rapp ?_ | (refine bl_set ?_ (by first | omega | (simp; done) | (simp; omega)) _) | refine bl_gr ?_ _ | refine bl_al ?_ _ | refine bl_drewN ?_ _ | refine Below.drew ?_))) ?_
  intro Z5 hZ
  have B5 := Lib.hid hZ
  have C5 := Lib.hid (bl_tr B4.out hZ)
  clear hZ x0 x1 x2 t0 t1 t2 lo hok'
  have q' := K2.out Z5 C5.out
  obtain ⟨⟨a0, a1, a2, a3, a4, a5⟩, _⟩ := cells6 q'.1
  have z0 := O4.out Z5 B5.out
  have lo := (Array.getElem?_eq_some_iff.1 z0).1
  obtain ⟨x0, x1, x2⟩ := cells3 z0
  clear q' z0
  go_upto_region 15 with (go_at_call 20; refine (GE1.out _ (J1.out.below (by (repeat (with_reducible first | exact C5.out | exact Below.refl _ _ | refine bl_rapp ?_ | (refine bl_set ?_ (by first | omega | (simp; done) | (simp; omega)) _) | refine bl_gr ?_ _ | refine bl_al ?_ _ | refine bl_drewN ?_ _ | refine Below.drew ?_)))) (J2.out.below (by (repeat (with_reducible first | exact C5.out | exact Below.refl _ _ | refine bl_rapp ?_ | (refine bl_set ?_ (by first | omega | (simp; done) | (simp; omega)) _) | refine bl_gr ?_ _ | refine bl_al ?_ _ | refine bl_drewN ?_ _ | refine Below.drew ?_))))).mono ?_; rintro e w10 ⟨rfl, hb⟩; have R10 := Lib.hid (show Below Z5.heap.size Z5 w10 from bl_tr (by (repeat (with_reducible first  | exact Below.refl _ _ | refine bl_rapp ?_ | (refine bl_set ?_ (by first | omega | (simp; done) | (simp; omega)) _) | refine bl_gr ?_ _ | refine bl_al ?_ _ | refine bl_drewN ?_ _ | refine Below.drew ?_))) hb); clear hb)
  refine wp_world (fun Z => Z.heap[w10.heap.size]? = some (valB GV) ∧ Below w10.heap.size w10 Z) ⟨heap_alloc_new _ _, bl_al (Below.refl _ _) _⟩ ?_
  rintro Z6 ⟨y0, zb⟩
  have b6 : Below Z5.heap.size Z5 Z6 := bl_tr R10.out zb
  have C6 := Lib.hid (bl_tr C5.out b6)
  have z0 := O4.out Z6 (bl_tr B5.out b6)
  have ly := (Array.getElem?_eq_some_iff.1 y0).1
  have Y6 := Lib.hid (show ∀ Z, Below Z6.heap.size Z6 Z → Z.heap[w10.heap.size]? = some (valB GV) from fun Z h => (h.block _ ly).trans y0)
  clear a0 a1 a2 a3 a4 a5 x0 x1 x2 lo y0 zb R10 b6
  have lo := (Array.getElem?_eq_some_iff.1 z0).1
  obtain ⟨x0, x1, x2⟩ := cells3 z0
  have q' := K2.out Z6 C6.out
  obtain ⟨⟨a0, a1, a2, a3, a4, a5⟩, _⟩ := cells6 q'.2.2.2.2
  clear q' z0
  go_upto_region 16 with (go_at_call 20; refine (GE2.out _ _ _ (G2.out.1.below (by (repeat (with_reducible first | exact C6.out | exact Below.refl _ _ | refine bl_rapp ?_ | (refine bl_set ?_ (by first | omega | (simp; done) | (simp; omega)) _) | refine bl_gr ?_ _ | refine bl_al ?_ _ | refine bl_drewN ?_ _ | refine Below.drew ?_)))) (G2.out.2.below (by (repeat (with_reducible first | exact C6.out | exact Below.refl _ _ | refine bl_rapp ?_ | (refine bl_set ?_ (by first | omega | (simp; done) | (simp; omega)) _) | refine bl_gr ?_ _ | refine bl_al ?_ _ | refine bl_drewN ?_ _ | refine Below.drew ?_))))).mono ?_; rintro e w12 ⟨rfl, hb⟩; have R12 := Lib.hid (show Below Z6.heap.size Z6 w12 from bl_tr (by (repeat (with_reducible first  | exact Below.refl _ _ | refine bl_rapp ?_ | (refine bl_set ?_ (by first | omega | (simp; done) | (simp; omega)) _) | refine bl_gr ?_ _ | refine bl_al ?_ _ | refine bl_drewN ?_ _ | refine Below.drew ?_))) hb); clear hb)
  refine wp_world (fun Z => Z.heap[w12.heap.size]? = some (valB GV) ∧ Below w12.heap.size w12 Z) ⟨heap_alloc_new _ _, bl_al (Below.refl _ _) _⟩ ?_
  rintro Z7 ⟨z0, zb⟩
  have b7 : Below Z6.heap.size Z6 Z7 := bl_tr R12.out zb
  have C7 := Lib.hid (bl_tr C6.out b7)
  have y0 := Y6.out Z7 b7
  clear a0 a1 a2 a3 a4 a5 x0 x1 x2 lo ly zb R12 b7
  have lo := (Array.getElem?_eq_some_iff.1 z0).1
  have ly := (Array.getElem?_eq_some_iff.1 y0).1
  obtain ⟨x0, x1, x2⟩ := cells3 z0
  obtain ⟨t0, t1, t2⟩ := cells3 y0
  clear z0 y0
  have y1 := eq_cols GV
  have y2 : (gb == gb) = true := beq_self_eq_true gb
  go_wp2
  go_ret
  exact ⟨rfl, bl_tr BZ.out (by (repeat (with_reducible first | exact C7.out | exact Below.refl _ _ | refine bl_rapp ?_ | (refine bl_set ?_ (by first | omega | (simp; done) | (simp; omega)) _) | refine bl_gr ?_ _ | refine bl_al ?_ _ | refine bl_drewN ?_ _ | refine Below.drew ?_)))⟩
end Go.Proofs.Ytdikdkllbhanfaa
