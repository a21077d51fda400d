/- Registries: the law FinregCleans, walked. -/
import Derived.Test.YtokoigjcakgpdaaFinT
import Derived.Test.YtokoigjcakgpdaaFinR
namespace Go.Proofs.Ytokoigjcakgpdaa
set_option linter.all false
open Go.RowKit Go.Sort Go.Deep

theorem samev_self {a b : Value} {xs : List Val} {w : World} (h1 : IsV w a xs) (h2 : IsV w b xs) :
    Calls Try.prog 13 #[a, b] w fun e w' => e = .returned (.bool true) ∧ Below w.heap.size w w' := by
  have h := samev_any a b xs xs w h1 h2
  rwa [decide_eq_true rfl] at h

set_option maxRecDepth 100000 in
set_option maxHeartbeats 16000000 in
theorem finregCleans_any (sv mv lv : Value) (c : CellD) (live : List Int) (hc : c.ok) (hlo : ∀ x ∈ live, i64ok x) (w : World) (h1 : IsV w sv c.sl) (h2 : IsV w mv c.mo) (h3 : IsI w lv live) :
    Calls Try.prog 3 #[cellV c.k c.sh c.fl c.ag sv mv, lv] w fun e w' => e = .returned (.bool true) ∧ Below w.heap.size w w' := by
  obtain ⟨A1, n1, rfl, _, hm1⟩ := h1.form
  obtain ⟨A2, n2, rfl, _, hm2⟩ := h2.form
  obtain ⟨A3, n3, rfl, _, hm3⟩ := h3.form
  have H1 := Lib.hid h1
  have H2 := Lib.hid h2
  have H3 := Lib.hid h3
  have OK := Lib.hid hc
  have OL := Lib.hid hlo
  clear h1 h2 h3 hc hm1 hm2 hm3 hlo
  by_cases h300 : 300 < live.length
  · have g300 : (300 : Int) < live.length := by omega
    go_enter Try.func3, Try.ntmps3
    go_upto_region 1 with fail
    refine wp_world (fun W => W.heap[w.heap.size]? = some (cellO c.k c.sh c.fl c.ag (.slice A1 c.sl.length n1) (.slice A2 c.mo.length n2)) ∧ Below w.heap.size w W) ⟨heap_alloc_new _ _, bl_al (Below.refl _ _) _⟩ ?_
    rintro W ⟨j0, jb⟩
    have l0 : w.heap.size < W.heap.size := (Array.getElem?_eq_some_iff.1 j0).1
    have I1 := Lib.hid (H1.out.below jb)
    have I2 := Lib.hid (H2.out.below jb)
    have BB := Lib.hid jb
    obtain ⟨⟨b0, b1, b2, b3, b4, b5⟩, _⟩ := cells6 j0
    clear j0 jb H1 H2 H3 h300
    go_wp2_with (first
      | (go_at_call 8; refine (smallGr (small_any _ _ c OK.out _ (I1.out.below (by (repeat (with_reducible first | exact Below.refl _ _ | refine bl_rapp ?_ | (refine bl_set ?_ (by first | omega | (simp; done) | (simp; omega)) _) | refine bl_gr ?_ _ | refine bl_al ?_ _ | refine below_setRow ?_ (by first | omega | (simp; done) | (simp; omega)) _ | refine bl_drewN ?_ _ | refine Below.drew ?_ | (refine bl_tr ?_ (by assumption)))))) (I2.out.below (by (repeat (with_reducible first | exact Below.refl _ _ | refine bl_rapp ?_ | (refine bl_set ?_ (by first | omega | (simp; done) | (simp; omega)) _) | refine bl_gr ?_ _ | refine bl_al ?_ _ | refine below_setRow ?_ (by first | omega | (simp; done) | (simp; omega)) _ | refine bl_drewN ?_ _ | refine Below.drew ?_ | (refine bl_tr ?_ (by assumption)))))))).mono ?_; rintro e w' ⟨r, p0, rfl, hr, rfl⟩; cases r)
      | (go_at_call 9; refine (callGr (lives_any _)).mono ?_; rintro e w' ⟨pp, rfl, rfl⟩))
    all_goals go_ret
    all_goals exact ⟨rfl, bl_tr BB.out (by (repeat (with_reducible first | exact Below.refl _ _ | refine bl_rapp ?_ | (refine bl_set ?_ (by first | omega | (simp; done) | (simp; omega)) _) | refine bl_gr ?_ _ | refine bl_al ?_ _ | refine below_setRow ?_ (by first | omega | (simp; done) | (simp; omega)) _ | refine bl_drewN ?_ _ | refine Below.drew ?_ | (refine bl_tr ?_ (by assumption)))))⟩
  have g300 : ¬ (300 : Int) < live.length := by omega
  have hll : live.length ≤ 100000 := by omega
  clear h300
  go_enter Try.func3, Try.ntmps3
  go_upto_region 1 with fail
  refine wp_world (fun W => W.heap[w.heap.size]? = some (cellO c.k c.sh c.fl c.ag (.slice A1 c.sl.length n1) (.slice A2 c.mo.length n2)) ∧ Below w.heap.size w W) ⟨heap_alloc_new _ _, bl_al (Below.refl _ _) _⟩ ?_
  rintro W ⟨j0, jb⟩
  have l0 : w.heap.size < W.heap.size := (Array.getElem?_eq_some_iff.1 j0).1
  have KK := Lib.hid (show ∀ Z, Below W.heap.size W Z → Z.heap[w.heap.size]? = some (cellO c.k c.sh c.fl c.ag (.slice A1 c.sl.length n1) (.slice A2 c.mo.length n2)) from fun Z hZ => (hZ.block _ l0).trans j0)
  have I1 := Lib.hid (H1.out.below jb)
  have I2 := Lib.hid (H2.out.below jb)
  have I3 := Lib.hid (H3.out.below jb)
  have BB := Lib.hid jb
  obtain ⟨⟨b0, b1, b2, b3, b4, b5⟩, _⟩ := cells6 j0
  clear j0 jb H1 H2 H3
  go_upto_region 3 with (first
    | (go_at_call 8; refine (smallGr (small_any _ _ c OK.out _ (I1.out.below (by (repeat (with_reducible first | exact Below.refl _ _ | refine bl_rapp ?_ | (refine bl_set ?_ (by first | omega | (simp; done) | (simp; omega)) _) | refine bl_gr ?_ _ | refine bl_al ?_ _ | refine below_setRow ?_ (by first | omega | (simp; done) | (simp; omega)) _ | refine bl_drewN ?_ _ | refine Below.drew ?_ | (refine bl_tr ?_ (by assumption)))))) (I2.out.below (by (repeat (with_reducible first | exact Below.refl _ _ | refine bl_rapp ?_ | (refine bl_set ?_ (by first | omega | (simp; done) | (simp; omega)) _) | refine bl_gr ?_ _ | refine bl_al ?_ _ | refine below_setRow ?_ (by first | omega | (simp; done) | (simp; omega)) _ | refine bl_drewN ?_ _ | refine Below.drew ?_ | (refine bl_tr ?_ (by assumption)))))))).mono ?_; rintro e w' ⟨r, p0, rfl, hr, rfl⟩; cases r)
    | (go_at_call 9; refine (callGr (lives_any _)).mono ?_; rintro e w' ⟨pp, rfl, rfl⟩))
  · go_ret
    exact ⟨rfl, bl_tr BB.out (by (repeat (with_reducible first | exact Below.refl _ _ | refine bl_rapp ?_ | (refine bl_set ?_ (by first | omega | (simp; done) | (simp; omega)) _) | refine bl_gr ?_ _ | refine bl_al ?_ _ | refine below_setRow ?_ (by first | omega | (simp; done) | (simp; omega)) _ | refine bl_drewN ?_ _ | refine Below.drew ?_ | (refine bl_tr ?_ (by assumption)))))⟩
  have ls : c.sl.length ≤ 100 ∧ c.mo.length ≤ 400 := by first | exact hr.out rfl | exact hr.out trivial | exact hr.out
  have FC := Lib.hid (fit_small ls)
  have hm0 : c.mo.length ≤ 4001 := by omega
  have CLE := Lib.hid (fun W h1 h2 h3 => clean_all (.slice A1 c.sl.length n1) (.slice A2 c.mo.length n2) (.slice A3 live.length n3) c live OK.out FC.out hm0 hll OL.out W h1 h2 h3)
  have RCLE := Lib.hid (fun W h1 h2 h3 => rclean_all (.slice A1 c.sl.length n1) (.slice A2 c.mo.length n2) (.slice A3 live.length n3) c live OK.out FC.out hm0 W h1 h2 h3)
  clear ls hr hm0
  generalize cleanC c live = D at CLE RCLE
  generalize cleanT c live = T at CLE RCLE
  refine wp_world (fun X => Below W.heap.size W X) (by (repeat (with_reducible first | exact Below.refl _ _ | refine bl_rapp ?_ | (refine bl_set ?_ (by first | omega | (simp; done) | (simp; omega)) _) | refine bl_gr ?_ _ | refine bl_al ?_ _ | refine below_setRow ?_ (by first | omega | (simp; done) | (simp; omega)) _ | refine bl_drewN ?_ _ | refine Below.drew ?_ | (refine bl_tr ?_ (by assumption))))) ?_
  intro X0 hX
  have B0 := Lib.hid hX
  clear hX b0 b1 b2 b3 b4 b5
  obtain ⟨⟨b0, b1, b2, b3, b4, b5⟩, _⟩ := cells6 (KK.out X0 B0.out)
  have lX0 : w.heap.size < X0.heap.size := Nat.lt_of_lt_of_le l0 B0.out.size
  go_upto_region 4 with (go_at_call 10; refine (CLE.out _ (I1.out.below B0.out) (I2.out.below B0.out) (I3.out.below B0.out)).mono ?_; rintro e w1 ⟨s1, a1, m1, c1, t1, d1, rfl, e1, e2, e3, hb⟩; have R1 := Lib.hid (And.intro e1 (And.intro e2 (And.intro e3 hb))); clear e1 e2 e3 hb)
  refine wp_world (fun Z => Z.heap[w1.heap.size]? = some (cellO D.k D.sh D.fl D.ag (.slice s1 D.sl.length a1) (.slice m1 D.mo.length c1)) ∧ Below w1.heap.size w1 Z) ⟨heap_alloc_new _ _, bl_al (Below.refl _ _) _⟩ ?_
  rintro X1 ⟨z0, zb⟩
  have zX := bl_tr R1.out.2.2.2 zb
  have B1 := Lib.hid (bl_tr B0.out zX)
  have P1 := Lib.hid (And.intro z0 (And.intro (R1.out.1.below zb) (And.intro (R1.out.2.1.below zb) (R1.out.2.2.1.below zb))))
  clear z0 zb zX R1 b0 b1 b2 b3 b4 b5 lX0
  obtain ⟨⟨b0, b1, b2, b3, b4, b5⟩, _⟩ := cells6 (KK.out X1 B1.out)
  have lX1 : w.heap.size < X1.heap.size := Nat.lt_of_lt_of_le l0 B1.out.size
  go_upto_region 5 with (go_at_call 11; refine (RCLE.out _ (I1.out.below B1.out) (I2.out.below B1.out) (I3.out.below B1.out)).mono ?_; rintro e w2 ⟨s2, a2, m2, c2, t2, d2, rfl, e1, e2, e3, hb⟩; have R2 := Lib.hid (And.intro e1 (And.intro e2 (And.intro e3 hb))); clear e1 e2 e3 hb)
  refine wp_world (fun Z => Z.heap[w2.heap.size]? = some (cellO D.k D.sh D.fl D.ag (.slice s2 D.sl.length a2) (.slice m2 D.mo.length c2)) ∧ Below w2.heap.size w2 Z) ⟨heap_alloc_new _ _, bl_al (Below.refl _ _) _⟩ ?_
  rintro X2 ⟨z0, zb⟩
  have zX := bl_tr R2.out.2.2.2 zb
  have B2 := Lib.hid (bl_tr B1.out zX)
  have P2 := Lib.hid (And.intro z0 (And.intro (R2.out.1.below zb) (And.intro (R2.out.2.1.below zb) (R2.out.2.2.1.below zb))))
  have P1 := Lib.hid (And.intro ((zX.block _ (Array.getElem?_eq_some_iff.1 P1.out.1).1).trans P1.out.1) (And.intro (P1.out.2.1.below zX) (And.intro (P1.out.2.2.1.below zX) (P1.out.2.2.2.below zX))))
  clear z0 zb zX R2 b0 b1 b2 b3 b4 b5 lX1
  have m1 : w1.heap.size < X2.heap.size := (Array.getElem?_eq_some_iff.1 P1.out.1).1
  have m2 : w2.heap.size < X2.heap.size := (Array.getElem?_eq_some_iff.1 P2.out.1).1
  obtain ⟨⟨u0, u1, u2, u3, u4, u5⟩, _⟩ := cells6 P1.out.1
  obtain ⟨⟨v0, v1, v2, v3, v4, v5⟩, _⟩ := cells6 P2.out.1
  go_wp2_with (first
    | (go_at_call 12; refine (callGr (rsame_self (P1.out.2.1.below (by (repeat (with_reducible first | exact Below.refl _ _ | refine bl_rapp ?_ | (refine bl_set ?_ (by first | omega | (simp; done) | (simp; omega)) _) | refine bl_gr ?_ _ | refine bl_al ?_ _ | refine below_setRow ?_ (by first | omega | (simp; done) | (simp; omega)) _ | refine bl_drewN ?_ _ | refine Below.drew ?_ | (refine bl_tr ?_ (by assumption)))))) (P1.out.2.2.1.below (by (repeat (with_reducible first | exact Below.refl _ _ | refine bl_rapp ?_ | (refine bl_set ?_ (by first | omega | (simp; done) | (simp; omega)) _) | refine bl_gr ?_ _ | refine bl_al ?_ _ | refine below_setRow ?_ (by first | omega | (simp; done) | (simp; omega)) _ | refine bl_drewN ?_ _ | refine Below.drew ?_ | (refine bl_tr ?_ (by assumption)))))) (P2.out.2.1.below (by (repeat (with_reducible first | exact Below.refl _ _ | refine bl_rapp ?_ | (refine bl_set ?_ (by first | omega | (simp; done) | (simp; omega)) _) | refine bl_gr ?_ _ | refine bl_al ?_ _ | refine below_setRow ?_ (by first | omega | (simp; done) | (simp; omega)) _ | refine bl_drewN ?_ _ | refine Below.drew ?_ | (refine bl_tr ?_ (by assumption)))))) (P2.out.2.2.1.below (by (repeat (with_reducible first | exact Below.refl _ _ | refine bl_rapp ?_ | (refine bl_set ?_ (by first | omega | (simp; done) | (simp; omega)) _) | refine bl_gr ?_ _ | refine bl_al ?_ _ | refine below_setRow ?_ (by first | omega | (simp; done) | (simp; omega)) _ | refine bl_drewN ?_ _ | refine Below.drew ?_ | (refine bl_tr ?_ (by assumption)))))))).mono ?_; rintro e w' ⟨pp, rfl, rfl⟩)
    | (go_at_call 13; refine (callGr (samev_self (P1.out.2.2.2.below (by (repeat (with_reducible first | exact Below.refl _ _ | refine bl_rapp ?_ | (refine bl_set ?_ (by first | omega | (simp; done) | (simp; omega)) _) | refine bl_gr ?_ _ | refine bl_al ?_ _ | refine below_setRow ?_ (by first | omega | (simp; done) | (simp; omega)) _ | refine bl_drewN ?_ _ | refine Below.drew ?_ | (refine bl_tr ?_ (by assumption)))))) (P2.out.2.2.2.below (by (repeat (with_reducible first | exact Below.refl _ _ | refine bl_rapp ?_ | (refine bl_set ?_ (by first | omega | (simp; done) | (simp; omega)) _) | refine bl_gr ?_ _ | refine bl_al ?_ _ | refine below_setRow ?_ (by first | omega | (simp; done) | (simp; omega)) _ | refine bl_drewN ?_ _ | refine Below.drew ?_ | (refine bl_tr ?_ (by assumption)))))))).mono ?_; rintro e w' ⟨pp, rfl, rfl⟩)
    | (go_at_call 9; refine (callGr (lives_any _)).mono ?_; rintro e w' ⟨pp, rfl, rfl⟩))
  all_goals go_ret
  all_goals exact ⟨rfl, bl_tr BB.out (bl_tr B2.out (by (repeat (with_reducible first | exact Below.refl _ _ | refine bl_rapp ?_ | (refine bl_set ?_ (by first | omega | (simp; done) | (simp; omega)) _) | refine bl_gr ?_ _ | refine bl_al ?_ _ | refine below_setRow ?_ (by first | omega | (simp; done) | (simp; omega)) _ | refine bl_drewN ?_ _ | refine Below.drew ?_ | (refine bl_tr ?_ (by assumption))))))⟩
end Go.Proofs.Ytokoigjcakgpdaa
