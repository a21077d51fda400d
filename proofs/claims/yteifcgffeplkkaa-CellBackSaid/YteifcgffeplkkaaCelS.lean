/- Cells: the law CellLeads, walked. -/
import Derived.Test.YteifcgffeplkkaaCelR
import Derived.Deep.RegionWith
import Derived.Deep.RegionHeld3
namespace Go.Proofs.Yteifcgffeplkkaa
set_option linter.all false
open Go.RowKit Go.Sort Go.Deep

theorem bl_rapp {a W : World} {p q : Regrown} (h : Below a.heap.size a (gr W p)) : Below a.heap.size a (gr W (rapp p q)) := by
  rw [← gr_gr]; exact bl_gr h q
theorem callGrV {P : Program} {f : FuncId} {args : Array Value} {W : World} {xs : List Int} (h : Calls P f args W fun e w' => ∃ v, e = .returned v ∧ IsI w' v xs ∧ Below W.heap.size W w') :
    Calls P f args W fun e w' => ∃ v pp, e = .returned v ∧ Hid (IsI (gr W pp) v xs) ∧ w' = gr W pp := by
  refine h.mono ?_
  rintro e w' ⟨v, rfl, hI, hB⟩
  obtain ⟨q, rfl⟩ := gr_of_below hB
  exact ⟨v, q, rfl, Lib.hid hI, rfl⟩
theorem same_eq {w : World} {a b : Value} {xs : List Int} (ha : IsI w a xs) (hb : IsI w b xs) :
    Calls Try.prog 10 #[a, b] w fun e w' => e = .returned (.bool true) ∧ Below w.heap.size w w' := by
  have h := sameInts_any a b xs xs w ha hb
  rwa [decide_eq_true rfl] at h
theorem smallGr {f : FuncId} {args : Array Value} {W : World} {c : CellD} (h : Calls Try.prog f args W fun e w' => ∃ v, e = .returned v ∧ SmallR c v ∧ Below W.heap.size W w') :
    Calls Try.prog f args W fun e w' => ∃ r pp, e = .returned (.bool r) ∧ Hid (r = true → c.sl.length ≤ 1100 ∧ c.mo.length ≤ 1100) ∧ w' = gr W pp := by
  refine h.mono ?_
  rintro e w' ⟨v, rfl, ⟨r, rfl, hr⟩, hB⟩
  obtain ⟨q, rfl⟩ := gr_of_below hB
  exact ⟨r, q, rfl, Lib.hid hr, rfl⟩

set_option maxRecDepth 100000 in
set_option maxHeartbeats 4000000 in
theorem cellLeads_any (sv mv : Value) (c : CellD) (hc : c.ok) (w : World) (h1 : IsV w sv c.sl) (h2 : IsV w mv c.mo) :
    Calls Try.prog 3 #[cellV c.k c.sh c.fl c.ag sv mv] w fun e w' => e = .returned (.bool true) ∧ Below w.heap.size w w' := by
  obtain ⟨A1, n1, rfl, _, hm1⟩ := h1.form
  obtain ⟨A2, n2, rfl, _, hm2⟩ := h2.form
  have H1 := Lib.hid h1
  have H2 := Lib.hid h2
  have OK := Lib.hid hc
  clear h1 h2 hc hm1 hm2
  go_enter Try.func3, Try.ntmps3
  go_upto_region 1 with fail
  have hx := heap_alloc_new w (cellO c.k c.sh c.fl c.ag (.slice A1 c.sl.length n1) (.slice A2 c.mo.length n2))
  generalize hW : w.alloc _ = W at hx ⊢
  have lt : w.heap.size < W.heap.size := by rw [← hW]; simp
  have B : Below w.heap.size w W := by rw [← hW]; exact bl_al (Below.refl _ _) _
  clear hW
  obtain ⟨⟨b0, b1, b2, b3, b4, b5⟩, _⟩ := cells6 hx
  have J1 := Lib.hid (H1.out.below B)
  have J2 := Lib.hid (H2.out.below B)
  have BB := Lib.hid B
  clear H1 H2 B hx
  go_upto_region 3 with (first
    | (go_at_call 8; refine (smallGr (small_any _ _ c OK.out _ (J1.out.below (by (repeat (with_reducible first | exact Below.refl _ _ | refine bl_rapp ?_ | (refine bl_set ?_ (by first | omega | (simp; done) | (simp; omega)) _) | refine bl_gr ?_ _ | refine bl_al ?_ _ | refine below_setRow ?_ (by first | omega | (simp; done) | (simp; omega)) _ | refine bl_drewN ?_ _ | refine Below.drew ?_ | (refine bl_tr ?_ (by assumption)))))) (J2.out.below (by (repeat (with_reducible first | exact Below.refl _ _ | refine bl_rapp ?_ | (refine bl_set ?_ (by first | omega | (simp; done) | (simp; omega)) _) | refine bl_gr ?_ _ | refine bl_al ?_ _ | refine below_setRow ?_ (by first | omega | (simp; done) | (simp; omega)) _ | refine bl_drewN ?_ _ | refine Below.drew ?_ | (refine bl_tr ?_ (by assumption)))))))).mono ?_; rintro e w' ⟨r, p0, rfl, hr, rfl⟩; cases r)
    | (go_at_call 9; refine (callGr (lives_any _)).mono ?_; rintro e w' ⟨pp, rfl, rfl⟩))
  · go_ret
    exact ⟨rfl, bl_tr BB.out (by (repeat (with_reducible first | exact Below.refl _ _ | refine bl_rapp ?_ | (refine bl_set ?_ (by first | omega | (simp; done) | (simp; omega)) _) | refine bl_gr ?_ _ | refine bl_al ?_ _ | refine below_setRow ?_ (by first | omega | (simp; done) | (simp; omega)) _ | refine bl_drewN ?_ _ | refine Below.drew ?_ | (refine bl_tr ?_ (by assumption)))))⟩
  · obtain ⟨L1, L2⟩ : c.sl.length ≤ 1100 ∧ c.mo.length ≤ 1100 := by first | exact hr.out rfl | exact hr.out trivial | exact hr.out
    have LL : c.sl.length + c.mo.length ≤ 17592186044416 := by omega
    have LH := Lib.hid LL
    clear L1 L2 LL hr
    go_region_held3 (fun w' : World => w'.cell? ⟨w.heap.size, 0, none⟩ = some (.int .i64 c.k) ∧ w'.cell? ⟨w.heap.size, 1, none⟩ = some (.int .i64 c.sh) ∧ w'.cell? ⟨w.heap.size, 2, none⟩ = some (.int .i64 c.fl) ∧ w'.cell? ⟨w.heap.size, 3, none⟩ = some (.int .i64 c.ag) ∧ w'.cell? ⟨w.heap.size, 4, none⟩ = some (.slice A1 c.sl.length n1) ∧ w'.cell? ⟨w.heap.size, 5, none⟩ = some (.slice A2 c.mo.length n2)) (and_intros <;> go_simp) (first
      | (go_at_call 11; refine (callGrV (leads_of _ _ c OK.out _ (J1.out.below (by (repeat (with_reducible first | exact Below.refl _ _ | refine bl_rapp ?_ | (refine bl_set ?_ (by first | omega | (simp; done) | (simp; omega)) _) | refine bl_gr ?_ _ | refine bl_al ?_ _ | refine below_setRow ?_ (by first | omega | (simp; done) | (simp; omega)) _ | refine bl_drewN ?_ _ | refine Below.drew ?_ | (refine bl_tr ?_ (by assumption)))))) (J2.out.below (by (repeat (with_reducible first | exact Below.refl _ _ | refine bl_rapp ?_ | (refine bl_set ?_ (by first | omega | (simp; done) | (simp; omega)) _) | refine bl_gr ?_ _ | refine bl_al ?_ _ | refine below_setRow ?_ (by first | omega | (simp; done) | (simp; omega)) _ | refine bl_drewN ?_ _ | refine Below.drew ?_ | (refine bl_tr ?_ (by assumption)))))) LH.out)).mono ?_; rintro e w' ⟨v1, p1, rfl, I1, rfl⟩)
      | (go_at_call 12; refine (callGrV (rleads_of _ _ c _ (J1.out.below (by (repeat (with_reducible first | exact Below.refl _ _ | refine bl_rapp ?_ | (refine bl_set ?_ (by first | omega | (simp; done) | (simp; omega)) _) | refine bl_gr ?_ _ | refine bl_al ?_ _ | refine below_setRow ?_ (by first | omega | (simp; done) | (simp; omega)) _ | refine bl_drewN ?_ _ | refine Below.drew ?_ | (refine bl_tr ?_ (by assumption)))))) (J2.out.below (by (repeat (with_reducible first | exact Below.refl _ _ | refine bl_rapp ?_ | (refine bl_set ?_ (by first | omega | (simp; done) | (simp; omega)) _) | refine bl_gr ?_ _ | refine bl_al ?_ _ | refine below_setRow ?_ (by first | omega | (simp; done) | (simp; omega)) _ | refine bl_drewN ?_ _ | refine Below.drew ?_ | (refine bl_tr ?_ (by assumption)))))) LH.out)).mono ?_; rintro e w' ⟨v2, p2, rfl, I2, rfl⟩)
      | (go_at_call 13; refine (callGrV (weakly_of _ _ c OK.out _ (J1.out.below (by (repeat (with_reducible first | exact Below.refl _ _ | refine bl_rapp ?_ | (refine bl_set ?_ (by first | omega | (simp; done) | (simp; omega)) _) | refine bl_gr ?_ _ | refine bl_al ?_ _ | refine below_setRow ?_ (by first | omega | (simp; done) | (simp; omega)) _ | refine bl_drewN ?_ _ | refine Below.drew ?_ | (refine bl_tr ?_ (by assumption)))))) (J2.out.below (by (repeat (with_reducible first | exact Below.refl _ _ | refine bl_rapp ?_ | (refine bl_set ?_ (by first | omega | (simp; done) | (simp; omega)) _) | refine bl_gr ?_ _ | refine bl_al ?_ _ | refine below_setRow ?_ (by first | omega | (simp; done) | (simp; omega)) _ | refine bl_drewN ?_ _ | refine Below.drew ?_ | (refine bl_tr ?_ (by assumption)))))) LH.out)).mono ?_; rintro e w' ⟨v3, p3, rfl, I3, rfl⟩)
      | (go_at_call 14; refine (callGrV (rweakly_of _ _ c _ (J1.out.below (by (repeat (with_reducible first | exact Below.refl _ _ | refine bl_rapp ?_ | (refine bl_set ?_ (by first | omega | (simp; done) | (simp; omega)) _) | refine bl_gr ?_ _ | refine bl_al ?_ _ | refine below_setRow ?_ (by first | omega | (simp; done) | (simp; omega)) _ | refine bl_drewN ?_ _ | refine Below.drew ?_ | (refine bl_tr ?_ (by assumption)))))) (J2.out.below (by (repeat (with_reducible first | exact Below.refl _ _ | refine bl_rapp ?_ | (refine bl_set ?_ (by first | omega | (simp; done) | (simp; omega)) _) | refine bl_gr ?_ _ | refine bl_al ?_ _ | refine below_setRow ?_ (by first | omega | (simp; done) | (simp; omega)) _ | refine bl_drewN ?_ _ | refine Below.drew ?_ | (refine bl_tr ?_ (by assumption)))))) LH.out)).mono ?_; rintro e w' ⟨v4, p4, rfl, I4, rfl⟩)
      | (go_at_call_of 10 v1; have i1 := I1.out; have i2 := I2.out; (try simp only [gr_gr] at i1 i2); refine (callGr (same_eq (i1.below (by (repeat (with_reducible first | exact Below.refl _ _ | refine bl_rapp ?_ | (refine bl_set ?_ (by first | omega | (simp; done) | (simp; omega)) _) | refine bl_gr ?_ _ | refine bl_al ?_ _ | refine below_setRow ?_ (by first | omega | (simp; done) | (simp; omega)) _ | refine bl_drewN ?_ _ | refine Below.drew ?_ | (refine bl_tr ?_ (by assumption)))))) (i2.below (by (repeat (with_reducible first | exact Below.refl _ _ | refine bl_rapp ?_ | (refine bl_set ?_ (by first | omega | (simp; done) | (simp; omega)) _) | refine bl_gr ?_ _ | refine bl_al ?_ _ | refine below_setRow ?_ (by first | omega | (simp; done) | (simp; omega)) _ | refine bl_drewN ?_ _ | refine Below.drew ?_ | (refine bl_tr ?_ (by assumption)))))))).mono ?_; rintro e w' ⟨p5, rfl, rfl⟩; clear i1 i2)
      | (go_at_call_of 10 v3; have i3 := I3.out; have i4 := I4.out; (try simp only [gr_gr] at i3 i4); refine (callGr (same_eq (i3.below (by (repeat (with_reducible first | exact Below.refl _ _ | refine bl_rapp ?_ | (refine bl_set ?_ (by first | omega | (simp; done) | (simp; omega)) _) | refine bl_gr ?_ _ | refine bl_al ?_ _ | refine below_setRow ?_ (by first | omega | (simp; done) | (simp; omega)) _ | refine bl_drewN ?_ _ | refine Below.drew ?_ | (refine bl_tr ?_ (by assumption)))))) (i4.below (by (repeat (with_reducible first | exact Below.refl _ _ | refine bl_rapp ?_ | (refine bl_set ?_ (by first | omega | (simp; done) | (simp; omega)) _) | refine bl_gr ?_ _ | refine bl_al ?_ _ | refine below_setRow ?_ (by first | omega | (simp; done) | (simp; omega)) _ | refine bl_drewN ?_ _ | refine Below.drew ?_ | (refine bl_tr ?_ (by assumption)))))))).mono ?_; rintro e w' ⟨p6, rfl, rfl⟩; clear i3 i4)
      | (go_at_call 15; refine (callGr (size_of _ _ c _ (J1.out.below (by (repeat (with_reducible first | exact Below.refl _ _ | refine bl_rapp ?_ | (refine bl_set ?_ (by first | omega | (simp; done) | (simp; omega)) _) | refine bl_gr ?_ _ | refine bl_al ?_ _ | refine below_setRow ?_ (by first | omega | (simp; done) | (simp; omega)) _ | refine bl_drewN ?_ _ | refine Below.drew ?_ | (refine bl_tr ?_ (by assumption)))))) (J2.out.below (by (repeat (with_reducible first | exact Below.refl _ _ | refine bl_rapp ?_ | (refine bl_set ?_ (by first | omega | (simp; done) | (simp; omega)) _) | refine bl_gr ?_ _ | refine bl_al ?_ _ | refine below_setRow ?_ (by first | omega | (simp; done) | (simp; omega)) _ | refine bl_drewN ?_ _ | refine Below.drew ?_ | (refine bl_tr ?_ (by assumption)))))) LH.out)).mono ?_; rintro e w' ⟨pp, rfl, rfl⟩)
      | (go_at_call 16; refine (callGr (rsize_of _ _ c _ (J1.out.below (by (repeat (with_reducible first | exact Below.refl _ _ | refine bl_rapp ?_ | (refine bl_set ?_ (by first | omega | (simp; done) | (simp; omega)) _) | refine bl_gr ?_ _ | refine bl_al ?_ _ | refine below_setRow ?_ (by first | omega | (simp; done) | (simp; omega)) _ | refine bl_drewN ?_ _ | refine Below.drew ?_ | (refine bl_tr ?_ (by assumption)))))) (J2.out.below (by (repeat (with_reducible first | exact Below.refl _ _ | refine bl_rapp ?_ | (refine bl_set ?_ (by first | omega | (simp; done) | (simp; omega)) _) | refine bl_gr ?_ _ | refine bl_al ?_ _ | refine below_setRow ?_ (by first | omega | (simp; done) | (simp; omega)) _ | refine bl_drewN ?_ _ | refine Below.drew ?_ | (refine bl_tr ?_ (by assumption)))))) LH.out)).mono ?_; rintro e w' ⟨pp, rfl, rfl⟩)
      | (go_at_call 9; refine (callGr (lives_any _)).mono ?_; rintro e w' ⟨pp, rfl, rfl⟩))
    all_goals go_wp2_with fail
    all_goals go_ret
    all_goals exact ⟨rfl, bl_tr BB.out (by (repeat (with_reducible first | exact Below.refl _ _ | refine bl_rapp ?_ | (refine bl_set ?_ (by first | omega | (simp; done) | (simp; omega)) _) | refine bl_gr ?_ _ | refine bl_al ?_ _ | refine below_setRow ?_ (by first | omega | (simp; done) | (simp; omega)) _ | refine bl_drewN ?_ _ | refine Below.drew ?_ | (refine bl_tr ?_ (by assumption)))))⟩
end Go.Proofs.Yteifcgffeplkkaa
