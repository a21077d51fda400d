/- The reference's Deep, walked (printed by gen12T.py). -/
import Derived.Test.YtiagegecnopfgaaDoorPaS
namespace Go.Proofs.YtiagegecnopfgaaDoor
set_option linter.all false
open Go.ChangeShapes Go.WideShapes Go.ChangeAt Go.RowKit Go.Sort Go.Deep

def DeepRC (N : Nat) : Prop := ∀ (P : Nat → Prop) (t : Tree) (A : Option Addr) (c : Nat) (w : World), sizeT t < N → IsNd P w (.slice A t.kids.length c) t.kids →
  Calls Tryd.prog 15 #[nodeV t (.slice A t.kids.length c)] w fun e w' => e = .returned (.int .i64 (deepT t)) ∧ Below w.heap.size w w'
set_option maxRecDepth 100000 in
set_option maxHeartbeats 4000000 in
theorem deepR_step {N : Nat} (hN : N ≤ 1000000) (IH : DeepRC N) : DeepRC (N + 1) := by
  intro P t A c w ht h
  have hs := deepT_bound t
  have KE := Lib.hid (deepT_eq t)
  have H := Lib.hid h
  have IC := Lib.hid (fun (q : Nat) (d : Tree) (hd : t.kids[q]? = some d) A5 c5 W (hk : IsNd P W (.slice A5 d.kids.length c5) d.kids) => IH P d A5 c5 W (by have := sizeT_kid (List.mem_of_getElem? hd); omega) hk)
  have HL := Lib.hid (show t.kids.length ≤ 1000000 by have := sizeK_len t.kids; have := sizeT_eq t; omega)
  have HS := Lib.hid (show sizeK t.kids ≤ 1000000 by have := sizeT_eq t; omega)
  have ways : (t.op == 60) = true ∨ ((t.op == 60) = false ∧ (t.op == 61) = true) ∨ ((t.op == 60) = false ∧ (t.op == 61) = false ∧ (t.op == 63) = true) ∨ ((t.op == 60) = false ∧ (t.op == 61) = false ∧ (t.op == 63) = false ∧ (t.op == 64) = true) ∨ ((t.op == 60) = false ∧ (t.op == 61) = false ∧ (t.op == 63) = false ∧ (t.op == 64) = false ∧ (t.op == 62) = true) ∨ ((t.op == 60) = false ∧ (t.op == 61) = false ∧ (t.op == 63) = false ∧ (t.op == 64) = false ∧ (t.op == 62) = false) := by
    cases (t.op == 60) <;> cases (t.op == 61) <;> cases (t.op == 63) <;> cases (t.op == 64) <;> cases (t.op == 62) <;> simp
  have O := Lib.hid (fun (k : Int) (h : (t.op == k) = true) => (by simpa using h : t.op = k))
  have ON := Lib.hid (fun (k : Int) (h : (t.op == k) = false) => (by simpa using h : ¬ t.op = k))
  have BW := Lib.hid (fun (V : World) (hV : Below w.heap.size w V) => h.bel hV)
  clear h
  rcases ways with o0 | ⟨o0, o1⟩ | ⟨o0, o1, o3⟩ | ⟨o0, o1, o3, o4⟩ | ⟨o0, o1, o3, o4, o2⟩ | ⟨o0, o1, o3, o4, o2⟩
  · have R := Lib.hid (show deepT t = deepK t.kids + 1 by rw [KE.out, if_pos (.inl (O.out _ o0))])
    rw [R.out]
    have T0 := Lib.hid (OneB.start w (nodeO t (.slice A t.kids.length c)))
    clear hs ht
    go_enter Tryd.func15, Tryd.ntmps15
    go_wp2
    go_loopw [3, 4] (fun s i X => ∃ (q : Nat) (z : Int), i = .int .i64 q ∧ s = .int .i64 z ∧ Hid (q ≤ t.kids.length ∧ z = deepQ t.kids q) ∧ OneB w X (nodeO t (.slice A t.kids.length c))) (fun _ i _ => t.kids.length - (intOf i).toNat)
    case atStart => exact ⟨0, 0, rfl, rfl, Lib.hid ⟨Nat.zero_le _, by unfold deepQ; rw [List.take_zero, deepK]⟩, T0.out⟩
    case round =>
      clear T0
      obtain ⟨q, z, rfl, rfl, HQ, hx⟩ := hrel
      have BX := Lib.hid hx
      obtain ⟨⟨a0, a1, a2, a3, a4, a5⟩, _⟩ := cells6n hx.1
      have l0 := hx.lt
      have DB := Lib.hid (show 0 ≤ deepQ t.kids q ∧ deepQ t.kids q ≤ 1000000 from ⟨deepK_nonneg _, by have h1 := deepQ_le t.kids q; have h2 := HS.out; omega⟩)
      by_cases hlt : q < t.kids.length
      · have q1 : (q : Int) < (t.kids.length : Int) := by omega
        have q3 : ¬ (q : Int) < 0 := by omega
        obtain ⟨d, hd⟩ : ∃ d, t.kids[q]? = some d := ⟨_, List.getElem?_eq_getElem hlt⟩
        obtain ⟨b, off, cap, A5, c5, e1, lb, hp, hk, f0, f1, f2, f3, f4, f5⟩ := (BW.out _ hx.2).at_ hd
        simp only [Value.slice.injEq] at e1
        obtain ⟨rfl, _, rfl⟩ := e1
        have NX := Lib.hid (show max z (deepT d) = deepQ t.kids (q + 1) by rw [deepQ_next hd, ← HQ.out.2])
        have K1 := Lib.hid (fun W (hW : Below wr.heap.size wr W) => IC.out q d hd A5 c5 W (hk.bel hW))
        obtain ⟨kp, hkp, ek1⟩ : ∃ kp : Nat, kp = q + 1 ∧ wrap64 ((q : Int) + 1) = (kp : Int) := ⟨q + 1, rfl, w64c rfl (by have := HL.out; omega)⟩
        have KP := Lib.hid hkp
        have LQ := Lib.hid hlt
        generalize deepT d = kd at *
        clear hkp hlt hd hx hk hp
        go_wp2_with (go_at_call 15; refine (callGr (K1.out _ (by (repeat (with_reducible first | exact Below.refl _ _ | (refine bl_set ?_ (by first | omega | (simp; done) | (simp; omega)) _) | refine bl_gr ?_ _ | refine bl_al ?_ _ | refine below_setRow ?_ (by first | omega | (simp; done) | (simp; omega)) _ | refine bl_drewN ?_ _ | refine Below.drew ?_ | (refine bl_tr ?_ (by assumption))))))).mono ?_; rintro e w' ⟨pp, rfl, rfl⟩)
        go_roundw
        case rel => exact ⟨kp, _, by first | with_reducible rfl | (rw [ek1]; done), rfl, Lib.hid ⟨by rw [KP.out]; exact LQ.out, by rw [KP.out]; exact NX.out⟩, BX.out.step (by (repeat (with_reducible first | exact Below.refl _ _ | (refine bl_set ?_ (by first | omega | (simp; done) | (simp; omega)) _) | refine bl_gr ?_ _ | refine bl_al ?_ _ | refine below_setRow ?_ (by first | omega | (simp; done) | (simp; omega)) _ | refine bl_drewN ?_ _ | refine Below.drew ?_ | (refine bl_tr ?_ (by assumption)))))⟩
        case measure => (first | ((try rw [ek1]); exact meas_c KP.out LQ.out) | (clear ek1; have := LQ.out; simp only [intOf]; omega))
      · have q1 : ¬ (q : Int) < (t.kids.length : Int) := by omega
        have FZ := Lib.hid (show z = deepK t.kids by rw [HQ.out.2, show q = t.kids.length by have := HQ.out.1; omega]; unfold deepQ; rw [List.take_length])
        have ez : wrap64 (z + 1) = z + 1 := w64z (by have h1 := DB.out; have h2 := HQ.out.2; rw [h2]; exact h1)
        clear hlt hx
        go_wp2
        go_ret
        exact ⟨by rw [← FZ.out]; rfl, BX.out.2⟩
  · have R := Lib.hid (show deepT t = deepK t.kids + 1 by rw [KE.out, if_pos (.inr (O.out _ o1))])
    rw [R.out]
    have T0 := Lib.hid (OneB.start w (nodeO t (.slice A t.kids.length c)))
    clear hs ht
    go_enter Tryd.func15, Tryd.ntmps15
    go_wp2
    go_loopw [3, 4] (fun s i X => ∃ (q : Nat) (z : Int), i = .int .i64 q ∧ s = .int .i64 z ∧ Hid (q ≤ t.kids.length ∧ z = deepQ t.kids q) ∧ OneB w X (nodeO t (.slice A t.kids.length c))) (fun _ i _ => t.kids.length - (intOf i).toNat)
    case atStart => exact ⟨0, 0, rfl, rfl, Lib.hid ⟨Nat.zero_le _, by unfold deepQ; rw [List.take_zero, deepK]⟩, T0.out⟩
    case round =>
      clear T0
      obtain ⟨q, z, rfl, rfl, HQ, hx⟩ := hrel
      have BX := Lib.hid hx
      obtain ⟨⟨a0, a1, a2, a3, a4, a5⟩, _⟩ := cells6n hx.1
      have l0 := hx.lt
      have DB := Lib.hid (show 0 ≤ deepQ t.kids q ∧ deepQ t.kids q ≤ 1000000 from ⟨deepK_nonneg _, by have h1 := deepQ_le t.kids q; have h2 := HS.out; omega⟩)
      by_cases hlt : q < t.kids.length
      · have q1 : (q : Int) < (t.kids.length : Int) := by omega
        have q3 : ¬ (q : Int) < 0 := by omega
        obtain ⟨d, hd⟩ : ∃ d, t.kids[q]? = some d := ⟨_, List.getElem?_eq_getElem hlt⟩
        obtain ⟨b, off, cap, A5, c5, e1, lb, hp, hk, f0, f1, f2, f3, f4, f5⟩ := (BW.out _ hx.2).at_ hd
        simp only [Value.slice.injEq] at e1
        obtain ⟨rfl, _, rfl⟩ := e1
        have NX := Lib.hid (show max z (deepT d) = deepQ t.kids (q + 1) by rw [deepQ_next hd, ← HQ.out.2])
        have K1 := Lib.hid (fun W (hW : Below wr.heap.size wr W) => IC.out q d hd A5 c5 W (hk.bel hW))
        obtain ⟨kp, hkp, ek1⟩ : ∃ kp : Nat, kp = q + 1 ∧ wrap64 ((q : Int) + 1) = (kp : Int) := ⟨q + 1, rfl, w64c rfl (by have := HL.out; omega)⟩
        have KP := Lib.hid hkp
        have LQ := Lib.hid hlt
        generalize deepT d = kd at *
        clear hkp hlt hd hx hk hp
        go_wp2_with (go_at_call 15; refine (callGr (K1.out _ (by (repeat (with_reducible first | exact Below.refl _ _ | (refine bl_set ?_ (by first | omega | (simp; done) | (simp; omega)) _) | refine bl_gr ?_ _ | refine bl_al ?_ _ | refine below_setRow ?_ (by first | omega | (simp; done) | (simp; omega)) _ | refine bl_drewN ?_ _ | refine Below.drew ?_ | (refine bl_tr ?_ (by assumption))))))).mono ?_; rintro e w' ⟨pp, rfl, rfl⟩)
        go_roundw
        case rel => exact ⟨kp, _, by first | with_reducible rfl | (rw [ek1]; done), rfl, Lib.hid ⟨by rw [KP.out]; exact LQ.out, by rw [KP.out]; exact NX.out⟩, BX.out.step (by (repeat (with_reducible first | exact Below.refl _ _ | (refine bl_set ?_ (by first | omega | (simp; done) | (simp; omega)) _) | refine bl_gr ?_ _ | refine bl_al ?_ _ | refine below_setRow ?_ (by first | omega | (simp; done) | (simp; omega)) _ | refine bl_drewN ?_ _ | refine Below.drew ?_ | (refine bl_tr ?_ (by assumption)))))⟩
        case measure => (first | ((try rw [ek1]); exact meas_c KP.out LQ.out) | (clear ek1; have := LQ.out; simp only [intOf]; omega))
      · have q1 : ¬ (q : Int) < (t.kids.length : Int) := by omega
        have FZ := Lib.hid (show z = deepK t.kids by rw [HQ.out.2, show q = t.kids.length by have := HQ.out.1; omega]; unfold deepQ; rw [List.take_length])
        have ez : wrap64 (z + 1) = z + 1 := w64z (by have h1 := DB.out; have h2 := HQ.out.2; rw [h2]; exact h1)
        clear hlt hx
        go_wp2
        go_ret
        exact ⟨by rw [← FZ.out]; rfl, BX.out.2⟩
  · have R := Lib.hid (show deepT t = kidD t 0 by rw [KE.out]; rw [if_neg (by rintro (h | h); exact ON.out _ o0 h; exact ON.out _ o1 h)]; rw [if_pos (.inl (O.out _ o3)), deepA_kid])
    by_cases hl : 0 < t.kids.length
    · have g1 : (0 : Int) < (t.kids.length : Int) := by omega
      obtain ⟨d, hd⟩ : ∃ d, t.kids[0]? = some d := ⟨_, List.getElem?_eq_getElem hl⟩
      have RK := Lib.hid (show deepT t = deepT d by rw [R.out]; unfold kidD; rw [hd])
      rw [RK.out]
      obtain ⟨b, off, cap, A5, c5, e1, lb, hp, hk, f0, f1, f2, f3, f4, f5⟩ := H.out.at_ hd
      simp only [Value.slice.injEq] at e1
      obtain ⟨rfl, _, rfl⟩ := e1
      simp only [Nat.zero_mul, Nat.one_mul, Nat.add_zero] at f0 f1 f2 f3 f4 f5
      have lbn : ∀ u, b < w.heap.size + u := fun u => Nat.lt_of_lt_of_le lb (Nat.le_add_right _ _)
      have K1 := Lib.hid (fun W (hW : Below w.heap.size w W) => IC.out 0 d hd A5 c5 W (hk.bel hW))
      clear hl hd hk hp hs ht
      go_enter Tryd.func15, Tryd.ntmps15
      go_wp2_with (go_at_call 15; refine (callGr (K1.out _ (by (repeat (with_reducible first | exact Below.refl _ _ | (refine bl_set ?_ (by first | omega | (simp; done) | (simp; omega)) _) | refine bl_gr ?_ _ | refine bl_al ?_ _ | refine below_setRow ?_ (by first | omega | (simp; done) | (simp; omega)) _ | refine bl_drewN ?_ _ | refine Below.drew ?_ | (refine bl_tr ?_ (by assumption))))))).mono ?_; rintro e w' ⟨pp, rfl, rfl⟩)
      go_ret
      exact ⟨rfl, by (repeat (with_reducible first | exact Below.refl _ _ | (refine bl_set ?_ (by first | omega | (simp; done) | (simp; omega)) _) | refine bl_gr ?_ _ | refine bl_al ?_ _ | refine below_setRow ?_ (by first | omega | (simp; done) | (simp; omega)) _ | refine bl_drewN ?_ _ | refine Below.drew ?_ | (refine bl_tr ?_ (by assumption))))⟩
    · have g1 : ¬ (0 : Int) < (t.kids.length : Int) := by omega
      have RK := Lib.hid (show deepT t = 0 by rw [R.out]; unfold kidD; rw [List.getElem?_eq_none (by omega)])
      rw [RK.out]
      clear hl hs ht
      have o2 : (t.op == 62) = false := by rw [beq_eq_false_iff_ne]; have := O.out _ o3; rw [this]; decide
      go_enter Tryd.func15, Tryd.ntmps15
      go_wp2
      go_ret
      exact ⟨rfl, by (repeat (with_reducible first | exact Below.refl _ _ | (refine bl_set ?_ (by first | omega | (simp; done) | (simp; omega)) _) | refine bl_gr ?_ _ | refine bl_al ?_ _ | refine below_setRow ?_ (by first | omega | (simp; done) | (simp; omega)) _ | refine bl_drewN ?_ _ | refine Below.drew ?_ | (refine bl_tr ?_ (by assumption))))⟩
  · have R := Lib.hid (show deepT t = kidD t 0 by rw [KE.out]; rw [if_neg (by rintro (h | h); exact ON.out _ o0 h; exact ON.out _ o1 h)]; rw [if_pos (.inr (O.out _ o4)), deepA_kid])
    by_cases hl : 0 < t.kids.length
    · have g1 : (0 : Int) < (t.kids.length : Int) := by omega
      obtain ⟨d, hd⟩ : ∃ d, t.kids[0]? = some d := ⟨_, List.getElem?_eq_getElem hl⟩
      have RK := Lib.hid (show deepT t = deepT d by rw [R.out]; unfold kidD; rw [hd])
      rw [RK.out]
      obtain ⟨b, off, cap, A5, c5, e1, lb, hp, hk, f0, f1, f2, f3, f4, f5⟩ := H.out.at_ hd
      simp only [Value.slice.injEq] at e1
      obtain ⟨rfl, _, rfl⟩ := e1
      simp only [Nat.zero_mul, Nat.one_mul, Nat.add_zero] at f0 f1 f2 f3 f4 f5
      have lbn : ∀ u, b < w.heap.size + u := fun u => Nat.lt_of_lt_of_le lb (Nat.le_add_right _ _)
      have K1 := Lib.hid (fun W (hW : Below w.heap.size w W) => IC.out 0 d hd A5 c5 W (hk.bel hW))
      clear hl hd hk hp hs ht
      go_enter Tryd.func15, Tryd.ntmps15
      go_wp2_with (go_at_call 15; refine (callGr (K1.out _ (by (repeat (with_reducible first | exact Below.refl _ _ | (refine bl_set ?_ (by first | omega | (simp; done) | (simp; omega)) _) | refine bl_gr ?_ _ | refine bl_al ?_ _ | refine below_setRow ?_ (by first | omega | (simp; done) | (simp; omega)) _ | refine bl_drewN ?_ _ | refine Below.drew ?_ | (refine bl_tr ?_ (by assumption))))))).mono ?_; rintro e w' ⟨pp, rfl, rfl⟩)
      go_ret
      exact ⟨rfl, by (repeat (with_reducible first | exact Below.refl _ _ | (refine bl_set ?_ (by first | omega | (simp; done) | (simp; omega)) _) | refine bl_gr ?_ _ | refine bl_al ?_ _ | refine below_setRow ?_ (by first | omega | (simp; done) | (simp; omega)) _ | refine bl_drewN ?_ _ | refine Below.drew ?_ | (refine bl_tr ?_ (by assumption))))⟩
    · have g1 : ¬ (0 : Int) < (t.kids.length : Int) := by omega
      have RK := Lib.hid (show deepT t = 0 by rw [R.out]; unfold kidD; rw [List.getElem?_eq_none (by omega)])
      rw [RK.out]
      clear hl hs ht
      have o2 : (t.op == 62) = false := by rw [beq_eq_false_iff_ne]; have := O.out _ o4; rw [this]; decide
      go_enter Tryd.func15, Tryd.ntmps15
      go_wp2
      go_ret
      exact ⟨rfl, by (repeat (with_reducible first | exact Below.refl _ _ | (refine bl_set ?_ (by first | omega | (simp; done) | (simp; omega)) _) | refine bl_gr ?_ _ | refine bl_al ?_ _ | refine below_setRow ?_ (by first | omega | (simp; done) | (simp; omega)) _ | refine bl_drewN ?_ _ | refine Below.drew ?_ | (refine bl_tr ?_ (by assumption))))⟩
  · have R := Lib.hid (show deepT t = kidD t 1 by rw [KE.out]; rw [if_neg (by rintro (h | h); exact ON.out _ o0 h; exact ON.out _ o1 h)]; rw [if_neg (by rintro (h | h); exact ON.out _ o3 h; exact ON.out _ o4 h)]; rw [if_pos (O.out _ o2), deepB_kid])
    by_cases hl : 1 < t.kids.length
    · have g1 : (1 : Int) < (t.kids.length : Int) := by omega
      obtain ⟨d, hd⟩ : ∃ d, t.kids[1]? = some d := ⟨_, List.getElem?_eq_getElem hl⟩
      have RK := Lib.hid (show deepT t = deepT d by rw [R.out]; unfold kidD; rw [hd])
      rw [RK.out]
      obtain ⟨b, off, cap, A5, c5, e1, lb, hp, hk, f0, f1, f2, f3, f4, f5⟩ := H.out.at_ hd
      simp only [Value.slice.injEq] at e1
      obtain ⟨rfl, _, rfl⟩ := e1
      simp only [Nat.zero_mul, Nat.one_mul, Nat.add_zero] at f0 f1 f2 f3 f4 f5
      have lbn : ∀ u, b < w.heap.size + u := fun u => Nat.lt_of_lt_of_le lb (Nat.le_add_right _ _)
      have K1 := Lib.hid (fun W (hW : Below w.heap.size w W) => IC.out 1 d hd A5 c5 W (hk.bel hW))
      clear hl hd hk hp hs ht
      go_enter Tryd.func15, Tryd.ntmps15
      go_wp2_with (go_at_call 15; refine (callGr (K1.out _ (by (repeat (with_reducible first | exact Below.refl _ _ | (refine bl_set ?_ (by first | omega | (simp; done) | (simp; omega)) _) | refine bl_gr ?_ _ | refine bl_al ?_ _ | refine below_setRow ?_ (by first | omega | (simp; done) | (simp; omega)) _ | refine bl_drewN ?_ _ | refine Below.drew ?_ | (refine bl_tr ?_ (by assumption))))))).mono ?_; rintro e w' ⟨pp, rfl, rfl⟩)
      go_ret
      exact ⟨rfl, by (repeat (with_reducible first | exact Below.refl _ _ | (refine bl_set ?_ (by first | omega | (simp; done) | (simp; omega)) _) | refine bl_gr ?_ _ | refine bl_al ?_ _ | refine below_setRow ?_ (by first | omega | (simp; done) | (simp; omega)) _ | refine bl_drewN ?_ _ | refine Below.drew ?_ | (refine bl_tr ?_ (by assumption))))⟩
    · have g1 : ¬ (1 : Int) < (t.kids.length : Int) := by omega
      have RK := Lib.hid (show deepT t = 0 by rw [R.out]; unfold kidD; rw [List.getElem?_eq_none (by omega)])
      rw [RK.out]
      clear hl hs ht
      go_enter Tryd.func15, Tryd.ntmps15
      go_wp2
      go_ret
      exact ⟨rfl, by (repeat (with_reducible first | exact Below.refl _ _ | (refine bl_set ?_ (by first | omega | (simp; done) | (simp; omega)) _) | refine bl_gr ?_ _ | refine bl_al ?_ _ | refine below_setRow ?_ (by first | omega | (simp; done) | (simp; omega)) _ | refine bl_drewN ?_ _ | refine Below.drew ?_ | (refine bl_tr ?_ (by assumption))))⟩
  · have R := Lib.hid (show deepT t = 0 by rw [KE.out]; rw [if_neg (by rintro (h | h); exact ON.out _ o0 h; exact ON.out _ o1 h)]; rw [if_neg (by rintro (h | h); exact ON.out _ o3 h; exact ON.out _ o4 h)]; rw [if_neg (ON.out _ o2)])
    rw [R.out]
    clear hs ht
    go_enter Tryd.func15, Tryd.ntmps15
    go_wp2
    go_ret
    exact ⟨rfl, by (repeat (with_reducible first | exact Below.refl _ _ | (refine bl_set ?_ (by first | omega | (simp; done) | (simp; omega)) _) | refine bl_gr ?_ _ | refine bl_al ?_ _ | refine below_setRow ?_ (by first | omega | (simp; done) | (simp; omega)) _ | refine bl_drewN ?_ _ | refine Below.drew ?_ | (refine bl_tr ?_ (by assumption))))⟩
theorem deepR_any (P : Nat → Prop) (t : Tree) (A : Option Addr) (c : Nat) (w : World) (ht : sizeT t ≤ 100000) (h : IsNd P w (.slice A t.kids.length c) t.kids) :
    Calls Tryd.prog 15 #[nodeV t (.slice A t.kids.length c)] w fun e w' => e = .returned (.int .i64 (deepT t)) ∧ Below w.heap.size w w' := by
  have : ∀ N, N ≤ 1000000 → DeepRC N := by
    intro N
    induction N with
    | zero => intro _ P t A c w ht; omega
    | succ N ih => exact fun hN => deepR_step (by omega) (ih (by omega))
  exact this 100001 (by omega) P t A c w (by omega) h
end Go.Proofs.YtiagegecnopfgaaDoor
