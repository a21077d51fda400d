/- The reference's Order, walked. -/
import Derived.Test.YtippimonpdeioaaSrM
namespace Go.Proofs.Ytippimonpdeioaa
set_option linter.all false
open Go.ChangeShapes Go.WideShapes Go.ChangeAt Go.RowKit Go.Sort Go.Deep

theorem wp_world4 {P : Program} {c : Code} {Q : Exit → Act → World → Prop} {a : Act} {w : World} (C : World → Prop) (hC : C w) (h : ∀ w', C w' → c.wp P Q a w') : c.wp P Q a w := h w hC
/-- the reference's three rows behind k keys -/
def RoI (w : World) (xs : List Val) (k : Nat) (a b c : Value) (m1 m2 m3 : Nat) (wr : World) : Prop := k ≤ xs.length ∧ m1 = (kindL 0 (xs.take k)).length ∧ m2 = (kindL 1 (xs.take k)).length ∧ m3 = (kindL 2 (xs.take k)).length ∧ R3 w a b c (kindL 0 (xs.take k)) (kindL 1 (xs.take k)) (kindL 2 (xs.take k)) wr

set_option maxRecDepth 100000 in
set_option maxHeartbeats 16000000 in
theorem rkeysOrder_any (v : Value) (xs : List Val) (hok : ∀ x ∈ xs, x.s.size ≤ maxLen) (hm : xs.length ≤ 3000) (w : World) (hv : SlOf w 3 Val.cs v xs) :
    Calls Try.prog 46 #[v] w fun e w' => ∃ u, e = .returned u ∧ ∃ L, StS (xs.filter keyM) L ∧ SlOf w' 3 Val.cs u L ∧ Below w.heap.size w w' := by
  have H := Lib.hid hv
  obtain ⟨A, cp, rfl, hc, _⟩ := hv.form
  have OK := Lib.hid hok
  have HM := Lib.hid hm
  clear hv hc hok hm
  go_enter Try.func46, Try.ntmps46
  go_wp2
  go_loopw [3, 4, 5, 6] (fun a b c iv wr => ∃ (k : Nat) (A1 : Option Addr) (m1 n1 : Nat) (A2 : Option Addr) (m2 n2 : Nat) (A3 : Option Addr) (m3 n3 : Nat), iv = .int .i64 k ∧ a = .slice A1 m1 n1 ∧ b = .slice A2 m2 n2 ∧ c = .slice A3 m3 n3 ∧ Hid (RoI w xs k (.slice A1 m1 n1) (.slice A2 m2 n2) (.slice A3 m3 n3) m1 m2 m3 wr)) (fun _ _ _ iv _ => xs.length - (intOf iv).toNat)
  case atStart => exact ⟨0, none, 0, 0, none, 0, 0, none, 0, 0, rfl, rfl, rfl, rfl, Lib.hid ⟨Nat.zero_le _, rfl, rfl, rfl, R3.start w⟩⟩
  case round =>
    obtain ⟨k, A1, m1, n1, A2, m2, n2, A3, m3, n3, rfl, rfl, rfl, rfl, HI⟩ := hrel
    by_cases hlt : k < xs.length
    · have q0 : (k : Int) < (xs.length : Int) := by omega
      have q1 : ¬ (k : Int) < 0 := by omega
      obtain ⟨b1, o1, _, e1, _, hb1, _⟩ := (H.out.below HI.out.2.2.2.2.be).at_ (by omega)
      simp only [Value.slice.injEq] at e1
      obtain ⟨rfl, _, rfl⟩ := e1
      obtain ⟨lx, x0, x1, x2⟩ := sl_key (H.out.below HI.out.2.2.2.2.be) hlt
      have KR := Lib.hid (fun W => krright_any (kAt xs k) (OK.out _ (kAt_mem hlt)) W)
      have LT := Lib.hid hlt
      have K0 := Lib.hid (kindL_snoc 0 (kAt_lt hlt))
      have K1 := Lib.hid (kindL_snoc 1 (kAt_lt hlt))
      have K2 := Lib.hid (kindL_snoc 2 (kAt_lt hlt))
      have LL := Lib.hid (show ∀ j, (kindL j (xs.take k)).length ≤ 3000 from fun j => Nat.le_trans (kindL_len j _) (Nat.le_trans (by rw [List.length_take]; omega) HM.out))
      obtain ⟨kp, hkp, ek1⟩ := up_w hlt (Nat.lt_of_le_of_lt HM.out (by decide))
      rw [← hkp] at K0 K1 K2
      have KP := Lib.hid (show kp = k + 1 ∧ k < xs.length ∧ kp ≤ xs.length from ⟨hkp, hlt, by rw [hkp]; exact hlt⟩)
      have KK := Lib.hid (fun h => keyM_kinds (x := kAt xs k) h)
      clear hlt hkp
      generalize kAt xs k = x at *
      cases hkm : keyM x
      · rw [hkm] at K0 K1 K2
        simp only [Bool.false_and, if_false, Bool.false_eq_true, List.append_nil] at K0 K1 K2
        have KR2 := Lib.hid (fun W => by have := KR.out W; rw [hkm] at this; exact this : ∀ W, Calls Try.prog 16 #[x.agg] W fun e w' => e = .returned (.bool false) ∧ Below W.heap.size W w')
        clear KR hkm KK
        go_wp2_with (go_at_call 16; refine (callGr (KR2.out _)).mono ?_; rintro e w' ⟨pp, rfl, rfl⟩)
        go_roundw
        case rel => exact ⟨kp, A1, m1, n1, A2, m2, n2, A3, m3, n3, by first | with_reducible rfl | rw [ek1], rfl, rfl, rfl, Lib.hid ⟨KP.out.2.2, by rw [K0.out]; exact HI.out.2.1, by rw [K1.out]; exact HI.out.2.2.1, by rw [K2.out]; exact HI.out.2.2.2.1, by rw [K0.out, K1.out, K2.out]; exact HI.out.2.2.2.2.below (below_gr _ _)⟩⟩
        case measure => ((try rw [ek1]); exact meas_k KP.out.1 KP.out.2.1)
      · rw [hkm] at K0 K1 K2
        have KR2 := Lib.hid (fun W => by have := KR.out W; rw [hkm] at this; exact this : ∀ W, Calls Try.prog 16 #[x.agg] W fun e w' => e = .returned (.bool true) ∧ Below W.heap.size W w')
        have KZ := KK.out hkm
        clear KR hkm KK
        rcases KZ with hz | hz | hz
        · rw [hz] at K0 K1 K2
          simp only [Bool.true_and, beq_self_eq_true, if_true, show ((0 : Int) == 1) = false from rfl, show ((0 : Int) == 2) = false from rfl, show ((1 : Int) == 0) = false from rfl, show ((1 : Int) == 2) = false from rfl, show ((2 : Int) == 0) = false from rfl, show ((2 : Int) == 1) = false from rfl, Bool.false_eq_true, if_false, List.append_nil] at K0 K1 K2
          have e0 : (x.k == 0) = true := by rw [hz]; rfl
          clear hz
          go_upto_region 9 with (go_at_call 16; refine (callGr (KR2.out _)).mono ?_; rintro e w' ⟨pp, rfl, rfl⟩)
          refine wp_world4 (fun X => R3 w (.slice A1 m1 n1) (.slice A2 m2 n2) (.slice A3 m3 n3) (kindL 0 (xs.take k)) (kindL 1 (xs.take k)) (kindL 2 (xs.take k)) X ∧ b1 < X.heap.size ∧ X.cell? ⟨b1, o1 + k * 3, none⟩ = some (.int .i64 x.k) ∧ X.cell? ⟨b1, o1 + k * 3 + 1, none⟩ = some (.int .i64 x.n) ∧ X.cell? ⟨b1, o1 + k * 3 + 2, none⟩ = some (.string x.s)) ⟨HI.out.2.2.2.2.below (below_gr _ _), Nat.lt_of_lt_of_le lx (below_gr _ _).size, (gr_cell _ _ _ _ lx).trans x0, (gr_cell _ _ _ _ lx).trans x1, (gr_cell _ _ _ _ lx).trans x2⟩ ?_
          clear lx x0 x1 x2
          rintro X ⟨hX, lx, x0, x1, x2⟩
          have HX := Lib.hid hX
          have lbn : ∀ u, b1 < X.heap.size + u := fun u => Nat.lt_of_lt_of_le lx (Nat.le_add_right _ _)
          clear hX
          go_wp2_with (at_builtin; refine wpList_pushG elem_key rfl _ _ rfl w.heap.size (kindL 0 (xs.take k)) m1 (yv := .slice A1 m1 n1) (S := X.heap.size) x rfl rfl (by have := HX.out.be.size; rw [World.size_alloc]; omega) HI.out.2.1 (ownsRow_below HX.out.ra (bl_al (Below.refl _ _) _)) (heap_alloc_new _ _) (by have := LL.out 0; have := HI.out.2.1; omega) (by decide) ?_; intro g5 n5 m5 w5 hm5 o5 t5 l5; have M5 := Lib.hid hm5; have R5 := Lib.hid ((HX.out.below (bl_al (Below.refl _ _) _)).push t5 o5 l5); clear hm5 o5 t5 l5)
          go_roundw
          case rel => exact ⟨kp, some ⟨g5, 0, none⟩, m5, n5, A2, m2, n2, A3, m3, n3, by first | with_reducible rfl | rw [ek1], rfl, rfl, rfl, Lib.hid ⟨KP.out.2.2, by rw [K0.out]; exact M5.out, by rw [K1.out]; exact HI.out.2.2.1, by rw [K2.out]; exact HI.out.2.2.2.1, by rw [K0.out, K1.out, K2.out]; exact R5.out⟩⟩
          case measure => ((try rw [ek1]); exact meas_k KP.out.1 KP.out.2.1)
        · rw [hz] at K0 K1 K2
          simp only [Bool.true_and, beq_self_eq_true, if_true, show ((0 : Int) == 1) = false from rfl, show ((0 : Int) == 2) = false from rfl, show ((1 : Int) == 0) = false from rfl, show ((1 : Int) == 2) = false from rfl, show ((2 : Int) == 0) = false from rfl, show ((2 : Int) == 1) = false from rfl, Bool.false_eq_true, if_false, List.append_nil] at K0 K1 K2
          have e0 : (x.k == 0) = false := by rw [hz]; rfl
          have e1 : (x.k == 1) = true := by rw [hz]; rfl
          clear hz
          go_upto_region 11 with (go_at_call 16; refine (callGr (KR2.out _)).mono ?_; rintro e w' ⟨pp, rfl, rfl⟩)
          refine wp_world4 (fun X => R3 w (.slice A1 m1 n1) (.slice A2 m2 n2) (.slice A3 m3 n3) (kindL 0 (xs.take k)) (kindL 1 (xs.take k)) (kindL 2 (xs.take k)) X ∧ b1 < X.heap.size ∧ X.cell? ⟨b1, o1 + k * 3, none⟩ = some (.int .i64 x.k) ∧ X.cell? ⟨b1, o1 + k * 3 + 1, none⟩ = some (.int .i64 x.n) ∧ X.cell? ⟨b1, o1 + k * 3 + 2, none⟩ = some (.string x.s)) ⟨HI.out.2.2.2.2.below (below_gr _ _), Nat.lt_of_lt_of_le lx (below_gr _ _).size, (gr_cell _ _ _ _ lx).trans x0, (gr_cell _ _ _ _ lx).trans x1, (gr_cell _ _ _ _ lx).trans x2⟩ ?_
          clear lx x0 x1 x2
          rintro X ⟨hX, lx, x0, x1, x2⟩
          have HX := Lib.hid hX
          have lbn : ∀ u, b1 < X.heap.size + u := fun u => Nat.lt_of_lt_of_le lx (Nat.le_add_right _ _)
          clear hX
          go_wp2_with (at_builtin; refine wpList_pushG elem_key rfl _ _ rfl w.heap.size (kindL 1 (xs.take k)) m2 (yv := .slice A2 m2 n2) (S := X.heap.size) x rfl rfl (by have := HX.out.be.size; rw [World.size_alloc]; omega) HI.out.2.2.1 (ownsRow_below HX.out.s12.ra (bl_al (Below.refl _ _) _)) (heap_alloc_new _ _) (by have := LL.out 1; have := HI.out.2.2.1; omega) (by decide) ?_; intro g5 n5 m5 w5 hm5 o5 t5 l5; have M5 := Lib.hid hm5; have R5 := Lib.hid ((HX.out.s12.below (bl_al (Below.refl _ _) _)).push t5 o5 l5); clear hm5 o5 t5 l5)
          go_roundw
          case rel => exact ⟨kp, A1, m1, n1, some ⟨g5, 0, none⟩, m5, n5, A3, m3, n3, by first | with_reducible rfl | rw [ek1], rfl, rfl, rfl, Lib.hid ⟨KP.out.2.2, by rw [K0.out]; exact HI.out.2.1, by rw [K1.out]; exact M5.out, by rw [K2.out]; exact HI.out.2.2.2.1, by rw [K0.out, K1.out, K2.out]; exact R5.out.s12⟩⟩
          case measure => ((try rw [ek1]); exact meas_k KP.out.1 KP.out.2.1)
        · rw [hz] at K0 K1 K2
          simp only [Bool.true_and, beq_self_eq_true, if_true, show ((0 : Int) == 1) = false from rfl, show ((0 : Int) == 2) = false from rfl, show ((1 : Int) == 0) = false from rfl, show ((1 : Int) == 2) = false from rfl, show ((2 : Int) == 0) = false from rfl, show ((2 : Int) == 1) = false from rfl, Bool.false_eq_true, if_false, List.append_nil] at K0 K1 K2
          have e0 : (x.k == 0) = false := by rw [hz]; rfl
          have e1 : (x.k == 1) = false := by rw [hz]; rfl
          clear hz
          go_upto_region 7 with (go_at_call 16; refine (callGr (KR2.out _)).mono ?_; rintro e w' ⟨pp, rfl, rfl⟩)
          refine wp_world4 (fun X => R3 w (.slice A1 m1 n1) (.slice A2 m2 n2) (.slice A3 m3 n3) (kindL 0 (xs.take k)) (kindL 1 (xs.take k)) (kindL 2 (xs.take k)) X ∧ b1 < X.heap.size ∧ X.cell? ⟨b1, o1 + k * 3, none⟩ = some (.int .i64 x.k) ∧ X.cell? ⟨b1, o1 + k * 3 + 1, none⟩ = some (.int .i64 x.n) ∧ X.cell? ⟨b1, o1 + k * 3 + 2, none⟩ = some (.string x.s)) ⟨HI.out.2.2.2.2.below (below_gr _ _), Nat.lt_of_lt_of_le lx (below_gr _ _).size, (gr_cell _ _ _ _ lx).trans x0, (gr_cell _ _ _ _ lx).trans x1, (gr_cell _ _ _ _ lx).trans x2⟩ ?_
          clear lx x0 x1 x2
          rintro X ⟨hX, lx, x0, x1, x2⟩
          have HX := Lib.hid hX
          have lbn : ∀ u, b1 < X.heap.size + u := fun u => Nat.lt_of_lt_of_le lx (Nat.le_add_right _ _)
          clear hX
          go_wp2_with (at_builtin; refine wpList_pushG elem_key rfl _ _ rfl w.heap.size (kindL 2 (xs.take k)) m3 (yv := .slice A3 m3 n3) (S := X.heap.size) x rfl rfl (by have := HX.out.be.size; rw [World.size_alloc]; omega) HI.out.2.2.2.1 (ownsRow_below HX.out.s13.ra (bl_al (Below.refl _ _) _)) (heap_alloc_new _ _) (by have := LL.out 2; have := HI.out.2.2.2.1; omega) (by decide) ?_; intro g5 n5 m5 w5 hm5 o5 t5 l5; have M5 := Lib.hid hm5; have R5 := Lib.hid ((HX.out.s13.below (bl_al (Below.refl _ _) _)).push t5 o5 l5); clear hm5 o5 t5 l5)
          go_roundw
          case rel => exact ⟨kp, A1, m1, n1, A2, m2, n2, some ⟨g5, 0, none⟩, m5, n5, by first | with_reducible rfl | rw [ek1], rfl, rfl, rfl, Lib.hid ⟨KP.out.2.2, by rw [K0.out]; exact HI.out.2.1, by rw [K1.out]; exact HI.out.2.2.1, by rw [K2.out]; exact M5.out, by rw [K0.out, K1.out, K2.out]; exact R5.out.s13⟩⟩
          case measure => ((try rw [ek1]); exact meas_k KP.out.1 KP.out.2.1)
    · have q0 : ¬ (k : Int) < (xs.length : Int) := by omega
      have hx : xs.take k = xs := List.take_of_length_le (by omega)
      have HR := HI.out
      unfold RoI at HR
      rw [hx] at HR
      have RR := Lib.hid HR.2
      have LI := Lib.hid (show ∀ j, (kindL j xs).length ≤ 3000 from fun j => Nat.le_trans (kindL_len j _) HM.out)
      have LS := Lib.hid (show ∀ L, StS (kindL 0 xs) L → (L ++ kindL 1 xs).length ≤ 6000 ∧ ((L ++ kindL 1 xs) ++ kindL 2 xs).length ≤ 9000 ∧ L.length ≤ 3000 from fun L h => by
        have h0 := h.2.len
        have h1 := LI.out 0
        have h2 := LI.out 1
        have h3 := LI.out 2
        simp only [List.length_append]
        omega)
      have SC := Lib.hid (sorted_any (kindL 0 xs).length (kindL 0 xs) (Nat.le_refl _) (fun x hx => kindL_k hx) (LI.out 0))
      have FIN := Lib.hid (fun L (h : StS (kindL 0 xs) L) => kinds_all (l := xs) h)
      have T1 := Lib.hid (own_empty (α := Val) (en := Val.cs) (E := 24) (size := 3) (heap_alloc_new wr (.cells #[] 24)) (Nat.le_refl _))
      have T5 := Lib.hid (show wr.heap.size ≤ (wr.alloc (.cells #[] 24)).heap.size by simp)
      generalize kindL 0 xs = I at *
      generalize kindL 1 xs = T at *
      generalize kindL 2 xs = S at *
      have V1 := Lib.hid (show ∀ Z, Below wr.heap.size wr Z → SlOf Z 3 Val.cs (.slice A1 m1 n1) I from fun Z hZ => by have := ownsRow_slOf cs_len RR.out.2.2.2.ra; exact this.below hZ)
      have V2 := Lib.hid (show ∀ Z, Below wr.heap.size wr Z → SlOf Z 3 Val.cs (.slice A2 m2 n2) T from fun Z hZ => by have := ownsRow_slOf cs_len RR.out.2.2.2.rb; exact this.below hZ)
      have V3 := Lib.hid (show ∀ Z, Below wr.heap.size wr Z → SlOf Z 3 Val.cs (.slice A3 m3 n3) S from fun Z hZ => by have := ownsRow_slOf cs_len RR.out.2.2.2.rc; exact this.below hZ)
      clear hx hlt HR HI
      go_wp2_with (first | (go_at_call 60; refine (SC.out _ _ (V1.out _ (bl_al (Below.refl _ _) _))).mono ?_; rintro e w2 ⟨u, rfl, L, k1, k2, k3⟩; have R2 := Lib.hid (And.intro k1 (And.intro k2 k3)); clear k1 k2 k3) | (at_builtin; refine wpList_appG elem_key rfl _ _ rfl wr.heap.size [] L (yv := .slice (some ⟨wr.heap.size, 0, none⟩) 0 0) (sv := u) rfl rfl (ownsRow_below T1.out R2.out.2.2) (Nat.le_trans T5.out R2.out.2.2.size) R2.out.2.1 (by have := (LS.out L R2.out.1).2.2; simp; omega) (by have := (LS.out L R2.out.1).2.2; simp; omega) ?_; intro A7 n7 w7 o7 g7; obtain ⟨m7, hm7⟩ : ∃ m7, m7 = (([] : List Val) ++ L).length := ⟨_, rfl⟩; rw [← hm7]; have R7 := Lib.hid (And.intro (show w7.ownsRow wr.heap.size 24 3 (.slice A7 m7 n7) L.length (flat Val.cs L) from by rw [hm7]; exact o7) (grown_lo (bl_tr (bl_al (Below.refl _ _) _) R2.out.2.2) g7 (own_lo T1.out))); clear o7 g7 hm7) | (at_builtin; refine wpList_appG elem_key rfl _ _ rfl wr.heap.size L T (yv := .slice A7 m7 n7) (sv := .slice A2 m2 n2) rfl rfl R7.out.1 R7.out.2.size (V2.out _ R7.out.2) (by have := LS.out L R2.out.1; omega) (by have := LS.out L R2.out.1; omega) ?_; intro A8 n8 w8 o8 g8; obtain ⟨m8, hm8⟩ : ∃ m8, m8 = (L ++ T).length := ⟨_, rfl⟩; rw [← hm8]; have R8 := Lib.hid (And.intro (show w8.ownsRow wr.heap.size 24 3 (.slice A8 m8 n8) (L ++ T).length (flat Val.cs (L ++ T)) from by rw [hm8]; exact o8) (grown_lo R7.out.2 g8 (own_lo R7.out.1))); clear o8 g8 hm8) | (at_builtin; refine wpList_appG elem_key rfl _ _ rfl wr.heap.size (L ++ T) S (yv := .slice A8 m8 n8) (sv := .slice A3 m3 n3) rfl rfl R8.out.1 R8.out.2.size (V3.out _ R8.out.2) (by have := LS.out L R2.out.1; omega) (by have := LS.out L R2.out.1; omega) ?_; intro A9 n9 w9 o9 g9; obtain ⟨m9, hm9⟩ : ∃ m9, m9 = ((L ++ T) ++ S).length := ⟨_, rfl⟩; rw [← hm9]; have R9 := Lib.hid (And.intro (show SlOf w9 3 Val.cs (.slice A9 m9 n9) (L ++ (T ++ S)) from by rw [hm9, ← List.append_assoc]; exact ownsRow_slOf cs_len o9) (grown_lo R8.out.2 g9 (own_lo R8.out.1))); clear o9 g9 hm9))
      go_ret
      exact ⟨_, rfl, _, FIN.out L R2.out.1, R9.out.1, bl_tr RR.out.2.2.2.be R9.out.2⟩
end Go.Proofs.Ytippimonpdeioaa
