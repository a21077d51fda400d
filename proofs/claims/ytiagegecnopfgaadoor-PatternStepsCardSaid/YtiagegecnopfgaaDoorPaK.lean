/- The maker's apart, from its object and array. -/
import Derived.Test.YtiagegecnopfgaaDoorPaJ
namespace Go.Proofs.YtiagegecnopfgaaDoor
set_option linter.all false
open Go.ChangeShapes Go.WideShapes Go.ChangeAt Go.RowKit Go.Sort Go.Deep
variable {E : Nat → Prop}

theorem AtN.low {lo : Nat} {X V : World} {b o : Nat} {t : Tree} {k : Value} (h : AtN X b o t k) (hb : b < lo) (hl : Below lo X V) : AtN V b o t k := by
  obtain ⟨h0, h1, h2, h3, h4, h5⟩ := h
  have f := fun j => World.cell?_of_block (a := ⟨b, j, none⟩) (hl.block b hb)
  exact ⟨(f _).trans h0, (f _).trans h1, (f _).trans h2, (f _).trans h3, (f _).trans h4, (f _).trans h5⟩
theorem below_lo {lo : Nat} {X V : World} (h : Below X.heap.size X V) (hl : lo ≤ X.heap.size) : Below lo X V := Touch.below (F := fun _ => False) (Touch.of_below h) hl (fun _ h => h.elim)
theorem copy_holds {lo : Nat} {V W : World} {t : Tree} {A : Option Addr} {c : Nat} (h : IsNd (FrN V.heap.size W) W (.slice A t.kids.length c) t.kids) (hl : lo ≤ V.heap.size) (k r f : Int) (s : ByteArray) : HoldsS E lo W ⟨⟨k, r, f, s, t, []⟩, A, c, none, 0⟩ := ⟨h.mono fun b hb => ⟨Nat.le_trans hl hb.1, hb.2⟩, IsKs.nil⟩
set_option maxRecDepth 100000 in
set_option maxHeartbeats 8000000 in
theorem apart_step {N : Nat} (hN : N ≤ 100000) (IH : ApC N) (OB : ObC (N + 1)) (AR : ArC (N + 1)) : ApC (N + 1) := by
  intro E lo B x t A c r X ht h hT hO hB
  have HA := Lib.hid (apT_eq t r x)
  have HS := Lib.hid h
  have HT := Lib.hid hT
  have HB := Lib.hid hB
  have lB := h.st.lt
  have lBn : ∀ u, B < X.heap.size + u := fun u => Nat.lt_of_lt_of_le lB (Nat.le_add_right _ _)
  have OC := Lib.hid (fun V (hV : Below X.heap.size X V) => OB E lo B x t A c r V ht (h.below hV) (hT.bel hV) hO hB)
  have AC := Lib.hid (fun V (hV : Below X.heap.size X V) => AR E lo B x t A c r V ht (h.below hV) (hT.bel hV) hO hB)
  have CP := Lib.hid (fun V (hV : Below X.heap.size X V) => copy_any (fun b => b < lo) t A c V (by omega) (hT.bel hV))
  have LX := Lib.hid (show x.l.length ≤ 1000000 by have := hB.2.2; omega)
  obtain ⟨v, hv⟩ := h.st.cells
  obtain ⟨⟨m0, m1, m2⟩, mf⟩ := cells3m hv
  have O := Lib.hid (fun (k : Int) (h : (t.op == k) = true) => (by simpa using h : t.op = k))
  have ON := Lib.hid (fun (k : Int) (h : (t.op == k) = false) => (by simpa using h : ¬ t.op = k))
  have ways : ((t.op == 34) = true ∨ ((t.op == 34) = false ∧ (t.op == 51) = true) ∨ ((t.op == 34) = false ∧ (t.op == 51) = false ∧ (t.op == 52) = true)) ∨ ((t.op == 34) = false ∧ (t.op == 51) = false ∧ (t.op == 52) = false ∧ ((t.op == 63) = true ∨ (t.op == 63) = false ∧ ((t.op == 61) = true ∨ (t.op == 61) = false ∧ ((t.op == 60) = true ∨ (t.op == 60) = false)))) := by
    cases (t.op == 34) <;> cases (t.op == 51) <;> cases (t.op == 52) <;> cases (t.op == 63) <;> cases (t.op == 61) <;> cases (t.op == 60) <;> simp
  rcases ways with o | ⟨o1, o2, o3, o⟩
  · have RX := Lib.hid (show apT t r x = x.lay ⟨10, 0, r, bs0, t, []⟩ by
      rw [HA.out, if_pos]
      rcases o with o | ⟨_, o⟩ | ⟨_, _, o⟩
      · exact .inl (O.out _ o)
      · exact .inr (.inl (O.out _ o))
      · exact .inr (.inr (O.out _ o)))
    rw [RX.out]
    clear hv h hT hO hB ht
    rcases o with o1 | ⟨o1, o2⟩ | ⟨o1, o2, o3⟩
    all_goals
      go_enter Tryd.func24, Tryd.ntmps24
      go_wp2_with (first
        | (go_at_call 29; go_loud (refine (CP.out _ (by (repeat (with_reducible first | exact Below.refl _ _ | (refine bl_set ?_ (by first | omega | (simp; done) | (simp; omega)) _) | refine bl_gr ?_ _ | refine bl_al ?_ _ | refine below_setRow ?_ (by first | omega | (simp; done) | (simp; omega)) _ | refine bl_drewN ?_ _ | refine Below.drew ?_ | (refine bl_tr ?_ (by assumption)))))).mono ?_; rintro e w4 ⟨A4, c4, rfl, hk4, hb4⟩; have K4 := Lib.hid (copy_holds (E := E) (lo := lo) hk4 (Nat.le_trans HS.out.lo (show Below X.heap.size X _ by (repeat (with_reducible first | exact Below.refl _ _ | (refine bl_set ?_ (by first | omega | (simp; done) | (simp; omega)) _) | refine bl_gr ?_ _ | refine bl_al ?_ _ | refine below_setRow ?_ (by first | omega | (simp; done) | (simp; omega)) _ | refine bl_drewN ?_ _ | refine Below.drew ?_ | (refine bl_tr ?_ (by assumption))))).size) 10 0 r bs0); have B4 := Lib.hid (show Below X.heap.size X w4 from bl_tr (by (repeat (with_reducible first | exact Below.refl _ _ | (refine bl_set ?_ (by first | omega | (simp; done) | (simp; omega)) _) | refine bl_gr ?_ _ | refine bl_al ?_ _ | refine below_setRow ?_ (by first | omega | (simp; done) | (simp; omega)) _ | refine bl_drewN ?_ _ | refine Below.drew ?_ | (refine bl_tr ?_ (by assumption))))) hb4); clear hk4 hb4))
        | (go_at_call 28; go_loud (refine (lay_any lo B x ⟨⟨10, 0, r, bs0, t, []⟩, A4, c4, none, 0⟩ _ (HS.out.st.step B4.out) K4.out (Nat.le_trans HS.out.lo B4.out.size) LX.out).mono ?_; rintro e w5 ⟨rfl, h5, k5⟩; have H5 := Lib.hid h5; have K5 := Lib.hid ((KpM.of_below B4.out HS.out.st.lt).trans k5); clear h5 k5)))
      go_end0
      exact ⟨rfl, H5.out, K5.out⟩
  · have NL : ¬ (t.op = 34 ∨ t.op = 51 ∨ t.op = 52) := by
      rintro (h | h | h)
      · exact ON.out _ o1 h
      · exact ON.out _ o2 h
      · exact ON.out _ o3 h
    have NH := Lib.hid NL
    clear NL
    rcases o with o4 | ⟨o4, o5 | ⟨o5, o6 | o6⟩⟩
    · by_cases hk2 : t.kids.length = 2
      · obtain ⟨d0, d1, hk⟩ : ∃ d0 d1, t.kids = [d0, d1] := by
          match hh : t.kids, hk2 with
          | [a, b], _ => exact ⟨a, b, rfl⟩
        have RX := Lib.hid (show apT t r x = apT d0 r (x.lay ⟨9, r, 0, bs0, d1, []⟩) by
          rw [HA.out, if_neg NH.out, if_pos (O.out _ o4), if_pos hk2, hk, apA]
          rfl)
        rw [RX.out]
        have z2 : ((t.kids.length : Int) != 2) = false := by rw [hk2]; rfl
        have q0 : (0 : Int) < (t.kids.length : Int) := by omega
        have q1 : (1 : Int) < (t.kids.length : Int) := by omega
        have e0 : t.kids[0]? = some d0 := by rw [hk]; rfl
        have e1 : t.kids[1]? = some d1 := by rw [hk]; rfl
        obtain ⟨b, off, cap, A5, c5, f1, lb, hp, hk0, u0⟩ := hT.at_ e0
        obtain ⟨b', off', cap', A6, c6, f2, lb', hp', hk1, u1⟩ := hT.at_ e1
        simp only [Value.slice.injEq] at f1
        obtain ⟨rfl, _, rfl⟩ := f1
        simp only [Value.slice.injEq, Option.some.injEq, Addr.mk.injEq] at f2
        obtain ⟨⟨rfl, rfl, _⟩, _, rfl⟩ := f2
        simp only [Nat.zero_mul, Nat.add_zero, Nat.one_mul] at u0 u1
        have lbn : ∀ u, b < X.heap.size + u := fun u => Nat.lt_of_lt_of_le lb (Nat.le_add_right _ _)
        have m0' : d0 ∈ t.kids := by rw [hk]; simp
        have m1' : d1 ∈ t.kids := by rw [hk]; simp
        have sz := sizeT_eq t
        rw [hk, sizeK, sizeK, sizeK] at sz
        have CQ := Lib.hid (fun V (hV : Below X.heap.size X V) => copy_any (fun b => b < lo) d1 A6 c6 V (by omega) (hk1.bel hV))
        have IC := Lib.hid (fun V (hS : ApS E lo B (x.lay ⟨9, r, 0, bs0, d1, []⟩) V) (hV : IsNd (fun b => b < lo) V (.slice A5 d0.kids.length c5) d0.kids) => IH E lo B (x.lay ⟨9, r, 0, bs0, d1, []⟩) d0 A5 c5 r V (by omega) hS hV (hO.kid m0') (by have := hB; unfold Bd at this ⊢; rw [lay_g, lay_len]; omega))
        have U0 := Lib.hid (fun V (hV : Below lo X V) => u0.low hp hV)
        have HK := Lib.hid hk0
        obtain ⟨v0, v1, v2, v3, v4, v5⟩ := u1
        have BX := Lib.hid (Bx.new (nodeO t (.slice (some ⟨b, off, none⟩) t.kids.length c)) h.st.rowT)
        clear hv h hT hO hB ht hk hk2 u0 hk0 hk1 sz hp hp'
        go_enter Tryd.func24, Tryd.ntmps24
        go_wp2_with (first
          | (go_at_call 29; go_loud (refine (CQ.out _ (by (repeat (with_reducible first | exact Below.refl _ _ | (refine bl_set ?_ (by first | omega | (simp; done) | (simp; omega)) _) | refine bl_gr ?_ _ | refine bl_al ?_ _ | refine below_setRow ?_ (by first | omega | (simp; done) | (simp; omega)) _ | refine bl_drewN ?_ _ | refine Below.drew ?_ | (refine bl_tr ?_ (by assumption)))))).mono ?_; rintro e w4 ⟨A4, c4, rfl, hk4, hb4⟩; have K4 := Lib.hid (copy_holds (E := E) (lo := lo) hk4 (Nat.le_trans HS.out.lo (show Below X.heap.size X _ by (repeat (with_reducible first | exact Below.refl _ _ | (refine bl_set ?_ (by first | omega | (simp; done) | (simp; omega)) _) | refine bl_gr ?_ _ | refine bl_al ?_ _ | refine below_setRow ?_ (by first | omega | (simp; done) | (simp; omega)) _ | refine bl_drewN ?_ _ | refine Below.drew ?_ | (refine bl_tr ?_ (by assumption))))).size) 9 r 0 bs0); have B4 := Lib.hid (show Below X.heap.size X w4 from bl_tr (by (repeat (with_reducible first | exact Below.refl _ _ | (refine bl_set ?_ (by first | omega | (simp; done) | (simp; omega)) _) | refine bl_gr ?_ _ | refine bl_al ?_ _ | refine below_setRow ?_ (by first | omega | (simp; done) | (simp; omega)) _ | refine bl_drewN ?_ _ | refine Below.drew ?_ | (refine bl_tr ?_ (by assumption))))) hb4); have C4 := Lib.hid (show Below (X.alloc (nodeO t (.slice (some ⟨b, off, none⟩) t.kids.length c))).heap.size (X.alloc (nodeO t (.slice (some ⟨b, off, none⟩) t.kids.length c))) w4 from bl_tr (by (repeat (with_reducible first | exact Below.refl _ _ | (refine bl_set ?_ (by first | omega | (simp; done) | (simp; omega)) _) | refine bl_gr ?_ _ | refine bl_al ?_ _ | refine below_setRow ?_ (by first | omega | (simp; done) | (simp; omega)) _ | refine bl_drewN ?_ _ | refine Below.drew ?_ | (refine bl_tr ?_ (by assumption))))) hb4); clear hk4 hb4))
          | (go_at_call 28; go_loud (refine (lay_any lo B x ⟨⟨9, r, 0, bs0, d1, []⟩, A4, c4, none, 0⟩ _ (HS.out.st.step B4.out) K4.out (Nat.le_trans HS.out.lo B4.out.size) LX.out).mono ?_; rintro e w5 ⟨rfl, h5, k5⟩; have H5 := Lib.hid h5; have K5 := Lib.hid ((KpM.of_below B4.out HS.out.st.lt).trans k5); obtain ⟨⟨b0, b1, b2, b3, b4, b5⟩, _⟩ := cells6n ((BX.out.below C4.out (by have := lBn 1; simpa using this)).kp k5).1; have l5 := ((BX.out.below C4.out (by have := lBn 1; simpa using this)).kp k5).lt; obtain ⟨g0, g1, g2, g3, g4, g5⟩ := U0.out _ (K5.out.below HS.out.st.rowT HS.out.lo); clear h5 k5))
          | (go_at_call 24; go_loud (refine (IC.out _ (HS.out.kp K5.out H5.out) (nd_lo HK.out K5.out HS.out.st.rowT HS.out.lo)).mono ?_; rintro e w6 ⟨rfl, h6, k6⟩; have H6 := Lib.hid h6; have K6 := Lib.hid (K5.out.trans k6); clear h6 k6)))
        go_end0
        exact ⟨rfl, H6.out, K6.out⟩
      · have RX := Lib.hid (show apT t r x = x.bad by rw [HA.out, if_neg NH.out, if_pos (O.out _ o4), if_neg hk2])
        rw [RX.out]
        have z2 : ((t.kids.length : Int) != 2) = true := by rw [bne_iff_ne]; omega
        have BS := Lib.hid HS.out.st.badS
        clear hv h hT hO hB ht
        go_enter Tryd.func24, Tryd.ntmps24
        go_wp2
        go_end0
        exact ⟨rfl, BS.out.1.step (by (repeat (with_reducible first | exact Below.refl _ _ | (refine bl_set ?_ (by first | omega | (simp; done) | (simp; omega)) _) | refine bl_gr ?_ _ | refine bl_al ?_ _ | refine below_setRow ?_ (by first | omega | (simp; done) | (simp; omega)) _ | refine bl_drewN ?_ _ | refine Below.drew ?_ | (refine bl_tr ?_ (by assumption))))), BS.out.2.trans (KpM.of_below (by (repeat (with_reducible first | exact Below.refl _ _ | (refine bl_set ?_ (by first | omega | (simp; done) | (simp; omega)) _) | refine bl_gr ?_ _ | refine bl_al ?_ _ | refine below_setRow ?_ (by first | omega | (simp; done) | (simp; omega)) _ | refine bl_drewN ?_ _ | refine Below.drew ?_ | (refine bl_tr ?_ (by assumption))))) (Nat.lt_of_lt_of_le lB BS.out.2.size))⟩
    · have RX := Lib.hid (show apT t r x = obT (restK t.kids) t.kids r [] (x.lay ⟨1, 0, r, bs0, Tree.z, []⟩) by rw [HA.out, if_neg NH.out, if_neg (ON.out _ o4), if_pos (O.out _ o5)])
      rw [RX.out]
      clear hv h hT hO hB ht
      go_enter Tryd.func24, Tryd.ntmps24
      go_wp2_with (go_at_call 30; go_loud (refine (OC.out _ (by (repeat (with_reducible first | exact Below.refl _ _ | (refine bl_set ?_ (by first | omega | (simp; done) | (simp; omega)) _) | refine bl_gr ?_ _ | refine bl_al ?_ _ | refine below_setRow ?_ (by first | omega | (simp; done) | (simp; omega)) _ | refine bl_drewN ?_ _ | refine Below.drew ?_ | (refine bl_tr ?_ (by assumption)))))).mono ?_; rintro e w6 ⟨rfl, h6, k6⟩; have H6 := Lib.hid h6; have K6 := Lib.hid ((KpM.of_below (show Below X.heap.size X _ by (repeat (with_reducible first | exact Below.refl _ _ | (refine bl_set ?_ (by first | omega | (simp; done) | (simp; omega)) _) | refine bl_gr ?_ _ | refine bl_al ?_ _ | refine below_setRow ?_ (by first | omega | (simp; done) | (simp; omega)) _ | refine bl_drewN ?_ _ | refine Below.drew ?_ | (refine bl_tr ?_ (by assumption))))) HS.out.st.lt).trans k6); clear h6 k6))
      go_end0
      exact ⟨rfl, H6.out, K6.out⟩
    · have RX := Lib.hid (show apT t r x = arT t.kids x.g ((x.next.lay ⟨4, x.g, r, bs0, Tree.z, []⟩).lay ⟨12, 0, x.g, bs0, Tree.z, []⟩) by rw [HA.out, if_neg NH.out, if_neg (ON.out _ o4), if_neg (ON.out _ o5), if_pos (O.out _ o6)])
      rw [RX.out]
      clear hv h hT hO hB ht
      go_enter Tryd.func24, Tryd.ntmps24
      go_wp2_with (go_at_call 31; go_loud (refine (AC.out _ (by (repeat (with_reducible first | exact Below.refl _ _ | (refine bl_set ?_ (by first | omega | (simp; done) | (simp; omega)) _) | refine bl_gr ?_ _ | refine bl_al ?_ _ | refine below_setRow ?_ (by first | omega | (simp; done) | (simp; omega)) _ | refine bl_drewN ?_ _ | refine Below.drew ?_ | (refine bl_tr ?_ (by assumption)))))).mono ?_; rintro e w6 ⟨rfl, h6, k6⟩; have H6 := Lib.hid h6; have K6 := Lib.hid ((KpM.of_below (show Below X.heap.size X _ by (repeat (with_reducible first | exact Below.refl _ _ | (refine bl_set ?_ (by first | omega | (simp; done) | (simp; omega)) _) | refine bl_gr ?_ _ | refine bl_al ?_ _ | refine below_setRow ?_ (by first | omega | (simp; done) | (simp; omega)) _ | refine bl_drewN ?_ _ | refine Below.drew ?_ | (refine bl_tr ?_ (by assumption))))) HS.out.st.lt).trans k6); clear h6 k6))
      go_end0
      exact ⟨rfl, H6.out, K6.out⟩
    · have RX := Lib.hid (show apT t r x = x.bad by rw [HA.out, if_neg NH.out, if_neg (ON.out _ o4), if_neg (ON.out _ o5), if_neg (ON.out _ o6)])
      rw [RX.out]
      have BS := Lib.hid HS.out.st.badS
      clear hv h hT hO hB ht
      go_enter Tryd.func24, Tryd.ntmps24
      go_wp2
      go_end0
      exact ⟨rfl, BS.out.1.step (by (repeat (with_reducible first | exact Below.refl _ _ | (refine bl_set ?_ (by first | omega | (simp; done) | (simp; omega)) _) | refine bl_gr ?_ _ | refine bl_al ?_ _ | refine below_setRow ?_ (by first | omega | (simp; done) | (simp; omega)) _ | refine bl_drewN ?_ _ | refine Below.drew ?_ | (refine bl_tr ?_ (by assumption))))), BS.out.2.trans (KpM.of_below (by (repeat (with_reducible first | exact Below.refl _ _ | (refine bl_set ?_ (by first | omega | (simp; done) | (simp; omega)) _) | refine bl_gr ?_ _ | refine bl_al ?_ _ | refine below_setRow ?_ (by first | omega | (simp; done) | (simp; omega)) _ | refine bl_drewN ?_ _ | refine Below.drew ?_ | (refine bl_tr ?_ (by assumption))))) (Nat.lt_of_lt_of_le lB BS.out.2.size))⟩
end Go.Proofs.YtiagegecnopfgaaDoor
