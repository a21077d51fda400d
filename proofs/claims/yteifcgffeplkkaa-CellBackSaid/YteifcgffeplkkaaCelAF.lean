/- Cells: the law CellMoves, walked; lists of numbers as arguments. -/
import Derived.Test.YteifcgffeplkkaaCelAE
import Derived.Test.YteifcgffeplkkaaCelW
namespace Go.Proofs.Yteifcgffeplkkaa
set_option linter.all false
open Go.RowKit Go.Sort Go.Deep

theorem movedGr {f : FuncId} {args : Array Value} {c : CellD} {P : List (Int × Int)} {w : World} (h : Calls Try.prog f args w fun e w' => ∃ s m, e = .returned (cellV c.k c.sh c.fl c.ag s m) ∧ IsV w' s (c.sl.map (movV P)) ∧ IsV w' m (c.mo.map (movV P)) ∧ Below w.heap.size w w') :
    Calls Try.prog f args w fun e w' => ∃ s m pp, e = .returned (cellV c.k c.sh c.fl c.ag s m) ∧ Hid (IsV (gr w pp) s (c.sl.map (movV P)) ∧ IsV (gr w pp) m (c.mo.map (movV P))) ∧ w' = gr w pp := by
  refine h.mono ?_
  rintro e w' ⟨s, m, rfl, o1, o2, hB⟩
  obtain ⟨q, rfl⟩ := gr_of_below hB
  exact ⟨s, m, q, rfl, Lib.hid ⟨o1, o2⟩, rfl⟩
/-- the cell with its addresses turned -/
def CellD.mov (P : List (Int × Int)) (c : CellD) : CellD := ⟨c.k, c.sh, c.fl, c.ag, c.sl.map (movV P), c.mo.map (movV P)⟩
theorem rsame_mov {sv mv tv nv : Value} {c : CellD} {P : List (Int × Int)} {w : World} (h1 : IsV w sv (c.sl.map (movV P))) (h2 : IsV w mv (c.mo.map (movV P))) (h3 : IsV w tv (c.sl.map (movV P))) (h4 : IsV w nv (c.mo.map (movV P))) :
    Calls Try.prog 20 #[cellV c.k c.sh c.fl c.ag sv mv, cellV c.k c.sh c.fl c.ag tv nv] w fun e w' => e = .returned (.bool true) ∧ Below w.heap.size w w' :=
  rsame_eq (c := c.mov P) h1 h2 h3 h4

set_option maxRecDepth 100000 in
set_option maxHeartbeats 8000000 in
theorem cellMoves_any (sv mv fv tv : Value) (c : CellD) (fr tl : List Int) (hc : c.ok) (hfr : ∀ x ∈ fr, i64ok x) (htl : ∀ x ∈ tl, i64ok x) (w : World) (h1 : IsV w sv c.sl) (h2 : IsV w mv c.mo) (h3 : IsI w fv fr) (h4 : IsI w tv tl) :
    Calls Try.prog 6 #[cellV c.k c.sh c.fl c.ag sv mv, fv, tv] w fun e w' => e = .returned (.bool true) ∧ Below w.heap.size w w' := by
  have H1 := Lib.hid h1
  have H2 := Lib.hid h2
  have H3 := Lib.hid h3
  have H4 := Lib.hid h4
  have OK := Lib.hid hc
  have OF := Lib.hid hfr
  have OT := Lib.hid htl
  obtain ⟨A3, n3, rfl, _, hm3⟩ := h3.form
  obtain ⟨A4, n4, rfl, _, hm4⟩ := h4.form
  unfold maxLen at hm3 hm4
  clear h1 h2 h3 h4 hc hfr htl
  go_enter Try.func6, Try.ntmps6
  go_upto_region 1 with fail
  have hx := heap_alloc_new w (cellO c.k c.sh c.fl c.ag sv mv)
  generalize hW : w.alloc _ = W at hx ⊢
  have lt : w.heap.size < W.heap.size := by rw [← hW]; simp
  have B : Below w.heap.size w W := by rw [← hW]; exact bl_al (Below.refl _ _) _
  clear hW
  obtain ⟨⟨b0, b1, b2, b3, b4, b5⟩, _⟩ := cells6 hx
  have J1 := Lib.hid (H1.out.below B)
  have J2 := Lib.hid (H2.out.below B)
  have J3 := Lib.hid (H3.out.below B)
  have J4 := Lib.hid (H4.out.below B)
  have BB := Lib.hid B
  clear H1 H2 H3 H4 B hx
  have cz : (300 : Int) < fr.length ∨ (¬ (300 : Int) < fr.length ∧ (300 : Int) < tl.length) ∨ (¬ (300 : Int) < fr.length ∧ ¬ (300 : Int) < tl.length) := by omega
  rcases cz with z1 | ⟨z1, z2⟩ | ⟨z1, z2⟩
  · go_wp2_with (first
      | (go_at_call 8; refine (smallGr (small_any _ _ c OK.out _ (J1.out.below (by (repeat (with_reducible first | exact Below.refl _ _ | refine bl_rapp ?_ | (refine bl_set ?_ (by first | omega | (simp; done) | (simp; omega)) _) | refine bl_gr ?_ _ | refine bl_al ?_ _ | refine below_setRow ?_ (by first | omega | (simp; done) | (simp; omega)) _ | refine bl_drewN ?_ _ | refine Below.drew ?_ | (refine bl_tr ?_ (by assumption)))))) (J2.out.below (by (repeat (with_reducible first | exact Below.refl _ _ | refine bl_rapp ?_ | (refine bl_set ?_ (by first | omega | (simp; done) | (simp; omega)) _) | refine bl_gr ?_ _ | refine bl_al ?_ _ | refine below_setRow ?_ (by first | omega | (simp; done) | (simp; omega)) _ | refine bl_drewN ?_ _ | refine Below.drew ?_ | (refine bl_tr ?_ (by assumption)))))))).mono ?_; rintro e w' ⟨r, p0, rfl, hr, rfl⟩; cases r)
      | (go_at_call 9; refine (callGr (lives_any _)).mono ?_; rintro e w' ⟨pp, rfl, rfl⟩))
    all_goals go_ret
    all_goals exact ⟨rfl, bl_tr BB.out (by (repeat (with_reducible first | exact Below.refl _ _ | refine bl_rapp ?_ | (refine bl_set ?_ (by first | omega | (simp; done) | (simp; omega)) _) | refine bl_gr ?_ _ | refine bl_al ?_ _ | refine below_setRow ?_ (by first | omega | (simp; done) | (simp; omega)) _ | refine bl_drewN ?_ _ | refine Below.drew ?_ | (refine bl_tr ?_ (by assumption)))))⟩
  · go_wp2_with (first
      | (go_at_call 8; refine (smallGr (small_any _ _ c OK.out _ (J1.out.below (by (repeat (with_reducible first | exact Below.refl _ _ | refine bl_rapp ?_ | (refine bl_set ?_ (by first | omega | (simp; done) | (simp; omega)) _) | refine bl_gr ?_ _ | refine bl_al ?_ _ | refine below_setRow ?_ (by first | omega | (simp; done) | (simp; omega)) _ | refine bl_drewN ?_ _ | refine Below.drew ?_ | (refine bl_tr ?_ (by assumption)))))) (J2.out.below (by (repeat (with_reducible first | exact Below.refl _ _ | refine bl_rapp ?_ | (refine bl_set ?_ (by first | omega | (simp; done) | (simp; omega)) _) | refine bl_gr ?_ _ | refine bl_al ?_ _ | refine below_setRow ?_ (by first | omega | (simp; done) | (simp; omega)) _ | refine bl_drewN ?_ _ | refine Below.drew ?_ | (refine bl_tr ?_ (by assumption)))))))).mono ?_; rintro e w' ⟨r, p0, rfl, hr, rfl⟩; cases r)
      | (go_at_call 9; refine (callGr (lives_any _)).mono ?_; rintro e w' ⟨pp, rfl, rfl⟩))
    all_goals go_ret
    all_goals exact ⟨rfl, bl_tr BB.out (by (repeat (with_reducible first | exact Below.refl _ _ | refine bl_rapp ?_ | (refine bl_set ?_ (by first | omega | (simp; done) | (simp; omega)) _) | refine bl_gr ?_ _ | refine bl_al ?_ _ | refine below_setRow ?_ (by first | omega | (simp; done) | (simp; omega)) _ | refine bl_drewN ?_ _ | refine Below.drew ?_ | (refine bl_tr ?_ (by assumption)))))⟩
  · go_upto_region 3 with (first
      | (go_at_call 8; refine (smallGr (small_any _ _ c OK.out _ (J1.out.below (by (repeat (with_reducible first | exact Below.refl _ _ | refine bl_rapp ?_ | (refine bl_set ?_ (by first | omega | (simp; done) | (simp; omega)) _) | refine bl_gr ?_ _ | refine bl_al ?_ _ | refine below_setRow ?_ (by first | omega | (simp; done) | (simp; omega)) _ | refine bl_drewN ?_ _ | refine Below.drew ?_ | (refine bl_tr ?_ (by assumption)))))) (J2.out.below (by (repeat (with_reducible first | exact Below.refl _ _ | refine bl_rapp ?_ | (refine bl_set ?_ (by first | omega | (simp; done) | (simp; omega)) _) | refine bl_gr ?_ _ | refine bl_al ?_ _ | refine below_setRow ?_ (by first | omega | (simp; done) | (simp; omega)) _ | refine bl_drewN ?_ _ | refine Below.drew ?_ | (refine bl_tr ?_ (by assumption)))))))).mono ?_; rintro e w' ⟨r, p0, rfl, hr, rfl⟩; cases r)
      | (go_at_call 9; refine (callGr (lives_any _)).mono ?_; rintro e w' ⟨pp, rfl, rfl⟩))
    · go_ret
      exact ⟨rfl, bl_tr BB.out (by (repeat (with_reducible first | exact Below.refl _ _ | refine bl_rapp ?_ | (refine bl_set ?_ (by first | omega | (simp; done) | (simp; omega)) _) | refine bl_gr ?_ _ | refine bl_al ?_ _ | refine below_setRow ?_ (by first | omega | (simp; done) | (simp; omega)) _ | refine bl_drewN ?_ _ | refine Below.drew ?_ | (refine bl_tr ?_ (by assumption)))))⟩
    · have ls : c.sl.length ≤ 1100 ∧ c.mo.length ≤ 1100 := by first | exact hr.out rfl | exact hr.out trivial | exact hr.out
      have FC := Lib.hid (fit_small ls)
      have FL := Lib.hid (show fr.length ≤ 100000 by omega)
      clear ls hr
      go_region_held3 (fun w' : World => w'.cell? ⟨w.heap.size, 0, none⟩ = some (.int .i64 c.k) ∧ w'.cell? ⟨w.heap.size, 1, none⟩ = some (.int .i64 c.sh) ∧ w'.cell? ⟨w.heap.size, 2, none⟩ = some (.int .i64 c.fl) ∧ w'.cell? ⟨w.heap.size, 3, none⟩ = some (.int .i64 c.ag) ∧ w'.cell? ⟨w.heap.size, 4, none⟩ = some sv ∧ w'.cell? ⟨w.heap.size, 5, none⟩ = some mv) (and_intros <;> go_simp) (first
        | (go_at_call 23; refine (movedGr (moved_any sv mv _ _ c fr tl OK.out OF.out OT.out FC.out FL.out _ (J1.out.below (by (repeat (with_reducible first | exact Below.refl _ _ | refine bl_rapp ?_ | (refine bl_set ?_ (by first | omega | (simp; done) | (simp; omega)) _) | refine bl_gr ?_ _ | refine bl_al ?_ _ | refine below_setRow ?_ (by first | omega | (simp; done) | (simp; omega)) _ | refine bl_drewN ?_ _ | refine Below.drew ?_ | (refine bl_tr ?_ (by assumption)))))) (J2.out.below (by (repeat (with_reducible first | exact Below.refl _ _ | refine bl_rapp ?_ | (refine bl_set ?_ (by first | omega | (simp; done) | (simp; omega)) _) | refine bl_gr ?_ _ | refine bl_al ?_ _ | refine below_setRow ?_ (by first | omega | (simp; done) | (simp; omega)) _ | refine bl_drewN ?_ _ | refine Below.drew ?_ | (refine bl_tr ?_ (by assumption)))))) (J3.out.below (by (repeat (with_reducible first | exact Below.refl _ _ | refine bl_rapp ?_ | (refine bl_set ?_ (by first | omega | (simp; done) | (simp; omega)) _) | refine bl_gr ?_ _ | refine bl_al ?_ _ | refine below_setRow ?_ (by first | omega | (simp; done) | (simp; omega)) _ | refine bl_drewN ?_ _ | refine Below.drew ?_ | (refine bl_tr ?_ (by assumption)))))) (J4.out.below (by (repeat (with_reducible first | exact Below.refl _ _ | refine bl_rapp ?_ | (refine bl_set ?_ (by first | omega | (simp; done) | (simp; omega)) _) | refine bl_gr ?_ _ | refine bl_al ?_ _ | refine below_setRow ?_ (by first | omega | (simp; done) | (simp; omega)) _ | refine bl_drewN ?_ _ | refine Below.drew ?_ | (refine bl_tr ?_ (by assumption)))))))).mono ?_; rintro e w' ⟨s1, m1, p1, rfl, I1, rfl⟩)
        | (go_at_call 24; refine (movedGr (rMoved_any sv mv _ _ c fr tl FC.out _ (J1.out.below (by (repeat (with_reducible first | exact Below.refl _ _ | refine bl_rapp ?_ | (refine bl_set ?_ (by first | omega | (simp; done) | (simp; omega)) _) | refine bl_gr ?_ _ | refine bl_al ?_ _ | refine below_setRow ?_ (by first | omega | (simp; done) | (simp; omega)) _ | refine bl_drewN ?_ _ | refine Below.drew ?_ | (refine bl_tr ?_ (by assumption)))))) (J2.out.below (by (repeat (with_reducible first | exact Below.refl _ _ | refine bl_rapp ?_ | (refine bl_set ?_ (by first | omega | (simp; done) | (simp; omega)) _) | refine bl_gr ?_ _ | refine bl_al ?_ _ | refine below_setRow ?_ (by first | omega | (simp; done) | (simp; omega)) _ | refine bl_drewN ?_ _ | refine Below.drew ?_ | (refine bl_tr ?_ (by assumption)))))) (J3.out.below (by (repeat (with_reducible first | exact Below.refl _ _ | refine bl_rapp ?_ | (refine bl_set ?_ (by first | omega | (simp; done) | (simp; omega)) _) | refine bl_gr ?_ _ | refine bl_al ?_ _ | refine below_setRow ?_ (by first | omega | (simp; done) | (simp; omega)) _ | refine bl_drewN ?_ _ | refine Below.drew ?_ | (refine bl_tr ?_ (by assumption)))))) (J4.out.below (by (repeat (with_reducible first | exact Below.refl _ _ | refine bl_rapp ?_ | (refine bl_set ?_ (by first | omega | (simp; done) | (simp; omega)) _) | refine bl_gr ?_ _ | refine bl_al ?_ _ | refine below_setRow ?_ (by first | omega | (simp; done) | (simp; omega)) _ | refine bl_drewN ?_ _ | refine Below.drew ?_ | (refine bl_tr ?_ (by assumption)))))))).mono ?_; rintro e w' ⟨s2, m2, p2, rfl, I2, rfl⟩)
        | (go_at_call 20; have i1 := I1.out.1; have i2 := I1.out.2; have i3 := I2.out.1; have i4 := I2.out.2; (try simp only [gr_gr, drew_gr] at i1 i2 i3 i4); refine (callGr (rsame_mov (i1.below (by (repeat (with_reducible first | exact Below.refl _ _ | refine bl_rapp ?_ | (refine bl_set ?_ (by first | omega | (simp; done) | (simp; omega)) _) | refine bl_gr ?_ _ | refine bl_al ?_ _ | refine below_setRow ?_ (by first | omega | (simp; done) | (simp; omega)) _ | refine bl_drewN ?_ _ | refine Below.drew ?_ | (refine bl_tr ?_ (by assumption)))))) (i2.below (by (repeat (with_reducible first | exact Below.refl _ _ | refine bl_rapp ?_ | (refine bl_set ?_ (by first | omega | (simp; done) | (simp; omega)) _) | refine bl_gr ?_ _ | refine bl_al ?_ _ | refine below_setRow ?_ (by first | omega | (simp; done) | (simp; omega)) _ | refine bl_drewN ?_ _ | refine Below.drew ?_ | (refine bl_tr ?_ (by assumption)))))) (i3.below (by (repeat (with_reducible first | exact Below.refl _ _ | refine bl_rapp ?_ | (refine bl_set ?_ (by first | omega | (simp; done) | (simp; omega)) _) | refine bl_gr ?_ _ | refine bl_al ?_ _ | refine below_setRow ?_ (by first | omega | (simp; done) | (simp; omega)) _ | refine bl_drewN ?_ _ | refine Below.drew ?_ | (refine bl_tr ?_ (by assumption)))))) (i4.below (by (repeat (with_reducible first | exact Below.refl _ _ | refine bl_rapp ?_ | (refine bl_set ?_ (by first | omega | (simp; done) | (simp; omega)) _) | refine bl_gr ?_ _ | refine bl_al ?_ _ | refine below_setRow ?_ (by first | omega | (simp; done) | (simp; omega)) _ | refine bl_drewN ?_ _ | refine Below.drew ?_ | (refine bl_tr ?_ (by assumption)))))))).mono ?_; rintro e w' ⟨p5, rfl, rfl⟩; clear i1 i2 i3 i4)
        | (go_at_call 9; refine (callGr (lives_any _)).mono ?_; rintro e w' ⟨pp, rfl, rfl⟩))
      all_goals go_wp2_with fail
      all_goals go_ret
      all_goals exact ⟨rfl, bl_tr BB.out (by (repeat (with_reducible first | exact Below.refl _ _ | refine bl_rapp ?_ | (refine bl_set ?_ (by first | omega | (simp; done) | (simp; omega)) _) | refine bl_gr ?_ _ | refine bl_al ?_ _ | refine below_setRow ?_ (by first | omega | (simp; done) | (simp; omega)) _ | refine bl_drewN ?_ _ | refine Below.drew ?_ | (refine bl_tr ?_ (by assumption)))))⟩
end Go.Proofs.Yteifcgffeplkkaa
