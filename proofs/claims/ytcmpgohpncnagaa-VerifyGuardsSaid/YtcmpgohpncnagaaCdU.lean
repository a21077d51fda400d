/- The reference's Right: the loops (printed by gen51T.py). -/
import Derived.Test.YtcmpgohpncnagaaCdT
namespace Go.Proofs.Ytcmpgohpncnagaa
set_option linter.all false
open Go.ChangeShapes Go.WideShapes Go.ChangeAt Go.RowKit Go.Sort Go.Deep Go.Shelf

set_option maxRecDepth 100000 in
set_option maxHeartbeats 16000000 in
theorem rrightC_yes (c : CodeD) (i p k g : Value) (hc : c.ok) (w : World) (h : Cd4 w i p k g c) (hy : HYES c) :
    Calls Try.prog 22 #[codeV c.nm c.kd c.ln c.rg i p k g] w fun e w' => e = .returned (.bool (rightC c)) ∧ Below w.heap.size w w' := by
  obtain ⟨A1, c1, A2, c2, A3, c3, A4, c4, rfl, rfl, rfl, rfl⟩ := h.forms
  have H := Lib.hid h
  have HC := Lib.hid hc
  clear h hc
  unfold HYES at hy
  have HD := Lib.hid (show hdC c = true by unfold hdC inB; simp; omega)
  have HR := Lib.hid (show 0 ≤ c.rg ∧ c.rg ≤ 4096 by omega)
  have HL := Lib.hid (show c.ins.length ≤ 65536 ∧ c.pl.length ≤ 65536 ∧ c.ks.length ≤ 65536 ∧ c.gs.length ≤ 65536 by omega)
  go_enter Try.func22, Try.ntmps22
  go_upto_region 6 with fail
  refine wpc_world (fun X => X.heap[w.heap.size]? = some (codeO c.nm c.kd c.ln c.rg (.slice A1 c.ins.length c1) (.slice A2 c.pl.length c2) (.slice A3 c.ks.length c3) (.slice A4 c.gs.length c4)) ∧ Below w.heap.size w X) ⟨heap_alloc_new _ _, bl_al (Below.refl _ _) _⟩ ?_
  rintro X ⟨j0, jb⟩
  have CX := Lib.hid (And.intro j0 jb)
  obtain ⟨⟨a0, a1, a2, a3, a4, a5, a6, a7⟩, -⟩ := cells8 j0
  clear j0 jb
  clear hy
  go_loopw [3] (fun i X => ∃ q : Nat, i = .int .i64 q ∧ Hid (q ≤ c.ins.length ∧ ∀ y ∈ c.ins.take q, insC c y = true) ∧ X.heap[w.heap.size]? = some (codeO c.nm c.kd c.ln c.rg (.slice A1 c.ins.length c1) (.slice A2 c.pl.length c2) (.slice A3 c.ks.length c3) (.slice A4 c.gs.length c4)) ∧ Below w.heap.size w X) (fun i _ => c.ins.length - (intOf i).toNat)
  case atStart => exact ⟨0, rfl, Lib.hid ⟨Nat.zero_le _, by simp⟩, CX.out.1, CX.out.2⟩
  case round =>
    clear a0 a1 a2 a3 a4 a5 a6 a7 CX
    obtain ⟨q, rfl, HQ, j0, jb⟩ := hrel
    have CX := Lib.hid (And.intro j0 jb)
    obtain ⟨⟨a0, a1, a2, a3, a4, a5, a6, a7⟩, -⟩ := cells8 j0
    have l0 := (Array.getElem?_eq_some_iff.1 j0).1
    have ln : ∀ u, w.heap.size < wr.heap.size + u := fun u => Nat.lt_of_lt_of_le l0 (Nat.le_add_right _ _)
    by_cases hlt : q < c.ins.length
    · have q2 : (q : Int) < (c.ins.length : Int) := by omega
      have q3 : ¬ (q : Int) < 0 := by omega
      obtain ⟨x, hx⟩ : ∃ x, c.ins[q]? = some x := ⟨_, List.getElem?_eq_getElem hlt⟩
      obtain ⟨b, off, cap', e1, lb, h0, h1, h2, h3⟩ := at_In (H.out.i.below jb) hx
      simp only [Value.slice.injEq] at e1
      obtain ⟨rfl, _, rfl⟩ := e1
      have lbn : ∀ u, b < wr.heap.size + u := fun u => Nat.lt_of_lt_of_le lb (Nat.le_add_right _ _)
      have HX := Lib.hid hx
      obtain ⟨kp, hkp, ek1⟩ : ∃ kp : Nat, kp = q + 1 ∧ wrap64 ((q : Int) + 1) = (kp : Int) := ⟨q + 1, rfl, w64c rfl (by have := HL.out; omega)⟩
      have KP := Lib.hid hkp
      have LQ := Lib.hid hlt
      have J0 := Lib.hid j0
      have JB := Lib.hid jb
      clear hkp hlt hx j0 jb
      have FL := Lib.hid (fun hp => right_in ⟨x, List.mem_of_getElem? HX.out, hp⟩ : insC c x = false → rightC c = false)
      have NX := Lib.hid (fun hp => takeAll HQ.out.2 HX.out hp : insC c x = true → ∀ y ∈ c.ins.take (q + 1), insC c y = true)
      have CT := Lib.hid (fun W h => rins_any c (.slice (some ⟨b, off, none⟩) c.ins.length c1) (.slice A2 c.pl.length c2) (.slice A3 c.ks.length c3) (.slice A4 c.gs.length c4) x HR.out (HC.out.2.2.2.2.1 x (List.mem_of_getElem? HX.out)) W h)
      have CD := Lib.hid (H.out.below JB.out)
      cases hp : insC c x
      · rw [hp] at CT
        have RS := Lib.hid (FL.out hp)
        go_upto_region 8 with fail
        ((first | (with_reducible refine wp_quiet_gr Try.mixed ?_ ?_) | (with_reducible refine wp_quiet_any Try.mixed ?_ ?_)); (next => kernel_rfl); (repeat (with_reducible refine wpQuiet_step (fun K hK => ?_); go_simp; first | (refine hK _ ?_; clear hK K) | (apply Exists.intro; refine ⟨fun _ => ?_, hK _ ?_⟩; ((go_at_call 47; exact callQ (CT.out _ (CD.out.below (below_gr _ _))))); clear hK K))); refine wpQuiet_nil ?_; intro pq)
        all_goals go_simp
        all_goals go_wp2
        all_goals go_ret
        all_goals exact ⟨ret_bool RS.out.symm, bl_tr JB.out (by (repeat (with_reducible first | exact Below.refl _ _ | (refine bl_set ?_ (by first | omega | (simp; done) | (simp; omega)) _) | refine bl_gr ?_ _ | refine bl_al ?_ _ | refine below_setRow ?_ (by first | omega | (simp; done) | (simp; omega)) _ | refine bl_drewN ?_ _ | refine Below.drew ?_ | (refine bl_tr ?_ (by assumption)))))⟩
      · rw [hp] at CT
        go_upto_region 8 with fail
        ((first | (with_reducible refine wp_quiet_gr Try.mixed ?_ ?_) | (with_reducible refine wp_quiet_any Try.mixed ?_ ?_)); (next => kernel_rfl); (repeat (with_reducible refine wpQuiet_step (fun K hK => ?_); go_simp; first | (refine hK _ ?_; clear hK K) | (apply Exists.intro; refine ⟨fun _ => ?_, hK _ ?_⟩; ((go_at_call 47; exact callQ (CT.out _ (CD.out.below (below_gr _ _))))); clear hK K))); refine wpQuiet_nil ?_; intro pq)
        all_goals go_simp
        all_goals go_wp2
        all_goals go_roundw
        all_goals first
          | exact ⟨kp, by first | with_reducible rfl | (rw [ek1]; done) | (rw [KP.out]; go_num), Lib.hid ⟨by rw [KP.out]; exact LQ.out, by rw [KP.out]; exact NX.out hp⟩, ((below_gr _ _).block _ l0).trans J0.out, bl_tr JB.out (by (repeat (with_reducible first | exact Below.refl _ _ | (refine bl_set ?_ (by first | omega | (simp; done) | (simp; omega)) _) | refine bl_gr ?_ _ | refine bl_al ?_ _ | refine below_setRow ?_ (by first | omega | (simp; done) | (simp; omega)) _ | refine bl_drewN ?_ _ | refine Below.drew ?_ | (refine bl_tr ?_ (by assumption)))))⟩
          | (first | ((try rw [ek1]); exact meas_c KP.out LQ.out) | (clear ek1; have := LQ.out; simp only [intOf]; omega))
    · have q2 : ¬ (q : Int) < (c.ins.length : Int) := by omega
      have ALins := Lib.hid (show c.ins.all (insC c) = true by rw [List.all_eq_true]; have h := HQ.out.2; rwa [List.take_of_length_le (by omega)] at h)
      clear hlt j0 jb l0 ln
      go_wp2
      go_loopw [4] (fun i X => ∃ q : Nat, i = .int .i64 q ∧ Hid (q ≤ c.pl.length ∧ ∀ y ∈ c.pl.take q, constM y = true) ∧ X.heap[w.heap.size]? = some (codeO c.nm c.kd c.ln c.rg (.slice A1 c.ins.length c1) (.slice A2 c.pl.length c2) (.slice A3 c.ks.length c3) (.slice A4 c.gs.length c4)) ∧ Below w.heap.size w X) (fun i _ => c.pl.length - (intOf i).toNat)
      case atStart => exact ⟨0, rfl, Lib.hid ⟨Nat.zero_le _, by simp⟩, CX.out.1, CX.out.2⟩
      case round =>
        clear a0 a1 a2 a3 a4 a5 a6 a7 CX
        obtain ⟨q, rfl, HQ, j0, jb⟩ := hrel
        have CX := Lib.hid (And.intro j0 jb)
        obtain ⟨⟨a0, a1, a2, a3, a4, a5, a6, a7⟩, -⟩ := cells8 j0
        have l0 := (Array.getElem?_eq_some_iff.1 j0).1
        have ln : ∀ u, w.heap.size < wr.heap.size + u := fun u => Nat.lt_of_lt_of_le l0 (Nat.le_add_right _ _)
        by_cases hlt : q < c.pl.length
        · have q2 : (q : Int) < (c.pl.length : Int) := by omega
          have q3 : ¬ (q : Int) < 0 := by omega
          obtain ⟨x, hx⟩ : ∃ x, c.pl[q]? = some x := ⟨_, List.getElem?_eq_getElem hlt⟩
          obtain ⟨b, off, cap', e1, lb, h0, h1, h2⟩ := at_Vl (H.out.p.below jb) hx
          simp only [Value.slice.injEq] at e1
          obtain ⟨rfl, _, rfl⟩ := e1
          have lbn : ∀ u, b < wr.heap.size + u := fun u => Nat.lt_of_lt_of_le lb (Nat.le_add_right _ _)
          have HX := Lib.hid hx
          obtain ⟨kp, hkp, ek1⟩ : ∃ kp : Nat, kp = q + 1 ∧ wrap64 ((q : Int) + 1) = (kp : Int) := ⟨q + 1, rfl, w64c rfl (by have := HL.out; omega)⟩
          have KP := Lib.hid hkp
          have LQ := Lib.hid hlt
          have J0 := Lib.hid j0
          have JB := Lib.hid jb
          clear hkp hlt hx j0 jb
          have FL := Lib.hid (fun hp => right_pl ⟨x, List.mem_of_getElem? HX.out, hp⟩ : constM x = false → rightC c = false)
          have NX := Lib.hid (fun hp => takeAll HQ.out.2 HX.out hp : constM x = true → ∀ y ∈ c.pl.take (q + 1), constM y = true)
          have CT := Lib.hid (fun W => rconstant_any x W)
          cases hp : constM x
          · rw [hp] at CT
            have RS := Lib.hid (FL.out hp)
            go_wp2_with (go_at_call 48; refine (callGr (CT.out _)).mono ?_; rintro e w' ⟨pp, rfl, rfl⟩)
            all_goals go_ret
            all_goals exact ⟨ret_bool RS.out.symm, bl_tr JB.out (by (repeat (with_reducible first | exact Below.refl _ _ | (refine bl_set ?_ (by first | omega | (simp; done) | (simp; omega)) _) | refine bl_gr ?_ _ | refine bl_al ?_ _ | refine below_setRow ?_ (by first | omega | (simp; done) | (simp; omega)) _ | refine bl_drewN ?_ _ | refine Below.drew ?_ | (refine bl_tr ?_ (by assumption)))))⟩
          · rw [hp] at CT
            go_wp2_with (go_at_call 48; refine (callGr (CT.out _)).mono ?_; rintro e w' ⟨pp, rfl, rfl⟩)
            go_roundw
            case rel => exact ⟨kp, by first | with_reducible rfl | (rw [ek1]; done) | (rw [KP.out]; go_num), Lib.hid ⟨by rw [KP.out]; exact LQ.out, by rw [KP.out]; exact NX.out hp⟩, ((below_gr _ _).block _ l0).trans J0.out, bl_tr JB.out (by (repeat (with_reducible first | exact Below.refl _ _ | (refine bl_set ?_ (by first | omega | (simp; done) | (simp; omega)) _) | refine bl_gr ?_ _ | refine bl_al ?_ _ | refine below_setRow ?_ (by first | omega | (simp; done) | (simp; omega)) _ | refine bl_drewN ?_ _ | refine Below.drew ?_ | (refine bl_tr ?_ (by assumption)))))⟩
            case measure => (first | ((try rw [ek1]); exact meas_c KP.out LQ.out) | (clear ek1; have := LQ.out; simp only [intOf]; omega))
        · have q2 : ¬ (q : Int) < (c.pl.length : Int) := by omega
          have ALpl := Lib.hid (show c.pl.all (constM) = true by rw [List.all_eq_true]; have h := HQ.out.2; rwa [List.take_of_length_le (by omega)] at h)
          clear hlt j0 jb l0 ln
          go_wp2
          go_loopw [5] (fun i X => ∃ q : Nat, i = .int .i64 q ∧ Hid (q ≤ c.ks.length ∧ ∀ y ∈ c.ks.take q, keyM y = true) ∧ X.heap[w.heap.size]? = some (codeO c.nm c.kd c.ln c.rg (.slice A1 c.ins.length c1) (.slice A2 c.pl.length c2) (.slice A3 c.ks.length c3) (.slice A4 c.gs.length c4)) ∧ Below w.heap.size w X) (fun i _ => c.ks.length - (intOf i).toNat)
          case atStart => exact ⟨0, rfl, Lib.hid ⟨Nat.zero_le _, by simp⟩, CX.out.1, CX.out.2⟩
          case round =>
            clear a0 a1 a2 a3 a4 a5 a6 a7 CX
            obtain ⟨q, rfl, HQ, j0, jb⟩ := hrel
            have CX := Lib.hid (And.intro j0 jb)
            obtain ⟨⟨a0, a1, a2, a3, a4, a5, a6, a7⟩, -⟩ := cells8 j0
            have l0 := (Array.getElem?_eq_some_iff.1 j0).1
            have ln : ∀ u, w.heap.size < wr.heap.size + u := fun u => Nat.lt_of_lt_of_le l0 (Nat.le_add_right _ _)
            by_cases hlt : q < c.ks.length
            · have q2 : (q : Int) < (c.ks.length : Int) := by omega
              have q3 : ¬ (q : Int) < 0 := by omega
              obtain ⟨x, hx⟩ : ∃ x, c.ks[q]? = some x := ⟨_, List.getElem?_eq_getElem hlt⟩
              obtain ⟨b, off, cap', e1, lb, h0, h1, h2⟩ := at_Ky (H.out.k.below jb) hx
              simp only [Value.slice.injEq] at e1
              obtain ⟨rfl, _, rfl⟩ := e1
              have lbn : ∀ u, b < wr.heap.size + u := fun u => Nat.lt_of_lt_of_le lb (Nat.le_add_right _ _)
              have HX := Lib.hid hx
              obtain ⟨kp, hkp, ek1⟩ : ∃ kp : Nat, kp = q + 1 ∧ wrap64 ((q : Int) + 1) = (kp : Int) := ⟨q + 1, rfl, w64c rfl (by have := HL.out; omega)⟩
              have KP := Lib.hid hkp
              have LQ := Lib.hid hlt
              have J0 := Lib.hid j0
              have JB := Lib.hid jb
              clear hkp hlt hx j0 jb
              have FL := Lib.hid (fun hp => right_ks ⟨x, List.mem_of_getElem? HX.out, hp⟩ : keyM x = false → rightC c = false)
              have NX := Lib.hid (fun hp => takeAll HQ.out.2 HX.out hp : keyM x = true → ∀ y ∈ c.ks.take (q + 1), keyM y = true)
              have CT := Lib.hid (fun W => krright_any x (HC.out.2.2.2.2.2.2.1 x (List.mem_of_getElem? HX.out)).2.2 W)
              cases hp : keyM x
              · rw [hp] at CT
                have RS := Lib.hid (FL.out hp)
                go_wp2_with (go_at_call 49; refine (callGr (CT.out _)).mono ?_; rintro e w' ⟨pp, rfl, rfl⟩)
                all_goals go_ret
                all_goals exact ⟨ret_bool RS.out.symm, bl_tr JB.out (by (repeat (with_reducible first | exact Below.refl _ _ | (refine bl_set ?_ (by first | omega | (simp; done) | (simp; omega)) _) | refine bl_gr ?_ _ | refine bl_al ?_ _ | refine below_setRow ?_ (by first | omega | (simp; done) | (simp; omega)) _ | refine bl_drewN ?_ _ | refine Below.drew ?_ | (refine bl_tr ?_ (by assumption)))))⟩
              · rw [hp] at CT
                go_wp2_with (go_at_call 49; refine (callGr (CT.out _)).mono ?_; rintro e w' ⟨pp, rfl, rfl⟩)
                go_roundw
                case rel => exact ⟨kp, by first | with_reducible rfl | (rw [ek1]; done) | (rw [KP.out]; go_num), Lib.hid ⟨by rw [KP.out]; exact LQ.out, by rw [KP.out]; exact NX.out hp⟩, ((below_gr _ _).block _ l0).trans J0.out, bl_tr JB.out (by (repeat (with_reducible first | exact Below.refl _ _ | (refine bl_set ?_ (by first | omega | (simp; done) | (simp; omega)) _) | refine bl_gr ?_ _ | refine bl_al ?_ _ | refine below_setRow ?_ (by first | omega | (simp; done) | (simp; omega)) _ | refine bl_drewN ?_ _ | refine Below.drew ?_ | (refine bl_tr ?_ (by assumption)))))⟩
                case measure => (first | ((try rw [ek1]); exact meas_c KP.out LQ.out) | (clear ek1; have := LQ.out; simp only [intOf]; omega))
            · have q2 : ¬ (q : Int) < (c.ks.length : Int) := by omega
              have ALks := Lib.hid (show c.ks.all (keyM) = true by rw [List.all_eq_true]; have h := HQ.out.2; rwa [List.take_of_length_le (by omega)] at h)
              clear hlt j0 jb l0 ln
              go_wp2
              go_loopw [6] (fun i X => ∃ q : Nat, i = .int .i64 q ∧ Hid (q ≤ c.gs.length ∧ ∀ y ∈ c.gs.take q, gdM c y = true) ∧ X.heap[w.heap.size]? = some (codeO c.nm c.kd c.ln c.rg (.slice A1 c.ins.length c1) (.slice A2 c.pl.length c2) (.slice A3 c.ks.length c3) (.slice A4 c.gs.length c4)) ∧ Below w.heap.size w X) (fun i _ => c.gs.length - (intOf i).toNat)
              case atStart => exact ⟨0, rfl, Lib.hid ⟨Nat.zero_le _, by simp⟩, CX.out.1, CX.out.2⟩
              case round =>
                clear a0 a1 a2 a3 a4 a5 a6 a7 CX
                obtain ⟨q, rfl, HQ, j0, jb⟩ := hrel
                have CX := Lib.hid (And.intro j0 jb)
                obtain ⟨⟨a0, a1, a2, a3, a4, a5, a6, a7⟩, -⟩ := cells8 j0
                have l0 := (Array.getElem?_eq_some_iff.1 j0).1
                have ln : ∀ u, w.heap.size < wr.heap.size + u := fun u => Nat.lt_of_lt_of_le l0 (Nat.le_add_right _ _)
                by_cases hlt : q < c.gs.length
                · have q2 : (q : Int) < (c.gs.length : Int) := by omega
                  have q3 : ¬ (q : Int) < 0 := by omega
                  obtain ⟨x, hx⟩ : ∃ x, c.gs[q]? = some x := ⟨_, List.getElem?_eq_getElem hlt⟩
                  obtain ⟨b, off, cap', e1, lb, h0, h1, h2, h3⟩ := at_Gd (H.out.g.below jb) hx
                  simp only [Value.slice.injEq] at e1
                  obtain ⟨rfl, _, rfl⟩ := e1
                  have lbn : ∀ u, b < wr.heap.size + u := fun u => Nat.lt_of_lt_of_le lb (Nat.le_add_right _ _)
                  have HX := Lib.hid hx
                  obtain ⟨kp, hkp, ek1⟩ : ∃ kp : Nat, kp = q + 1 ∧ wrap64 ((q : Int) + 1) = (kp : Int) := ⟨q + 1, rfl, w64c rfl (by have := HL.out; omega)⟩
                  have KP := Lib.hid hkp
                  have LQ := Lib.hid hlt
                  have J0 := Lib.hid j0
                  have JB := Lib.hid jb
                  clear hkp hlt hx j0 jb
                  have FL := Lib.hid (fun hp => right_gs ⟨x, List.mem_of_getElem? HX.out, hp⟩ : gdM c x = false → rightC c = false)
                  have NX := Lib.hid (fun hp => takeAll HQ.out.2 HX.out hp : gdM c x = true → ∀ y ∈ c.gs.take (q + 1), gdM c y = true)
                  have P0 := Lib.hid (fun W h => rpart_any c (.slice A1 c.ins.length c1) (.slice A2 c.pl.length c2) (.slice A3 c.ks.length c3) (.slice (some ⟨b, off, none⟩) c.gs.length c4) 106 rfl x.g HR.out (HC.out.2.2.2.2.2.2.2 x (List.mem_of_getElem? HX.out)).2.2.1 W h)
                  have P1 := Lib.hid (fun W h => rpart_any c (.slice A1 c.ins.length c1) (.slice A2 c.pl.length c2) (.slice A3 c.ks.length c3) (.slice (some ⟨b, off, none⟩) c.gs.length c4) 114 rfl x.r HR.out (HC.out.2.2.2.2.2.2.2 x (List.mem_of_getElem? HX.out)).2.2.2 W h)
                  have CD := Lib.hid (H.out.below JB.out)
                  have GM := Lib.hid (show gdM c x = (decide (0 ≤ x.f) && (decide (x.f < x.t) && (decide (x.t ≤ (c.ins.length : Int)) && (prtC c 106 x.g && prtC c 114 x.r)))) from rfl)
                  by_cases g0 : x.f < 0
                  · have RS := Lib.hid (FL.out (by rw [GM.out, decide_eq_false (show ¬ 0 ≤ x.f by omega)]; rfl))
                    go_wp2_with (first | (go_at_call_of 50 (Value.int IntKind.u8 106); refine (callGr (P0.out _ (CD.out.below (by (repeat (with_reducible first | exact Below.refl _ _ | (refine bl_set ?_ (by first | omega | (simp; done) | (simp; omega)) _) | refine bl_gr ?_ _ | refine bl_al ?_ _ | refine below_setRow ?_ (by first | omega | (simp; done) | (simp; omega)) _ | refine bl_drewN ?_ _ | refine Below.drew ?_ | (refine bl_tr ?_ (by assumption)))))))).mono ?_; rintro e w' ⟨pp, rfl, rfl⟩) | (go_at_call_of 50 (Value.int IntKind.u8 114); refine (callGr (P1.out _ (CD.out.below (by (repeat (with_reducible first | exact Below.refl _ _ | (refine bl_set ?_ (by first | omega | (simp; done) | (simp; omega)) _) | refine bl_gr ?_ _ | refine bl_al ?_ _ | refine below_setRow ?_ (by first | omega | (simp; done) | (simp; omega)) _ | refine bl_drewN ?_ _ | refine Below.drew ?_ | (refine bl_tr ?_ (by assumption)))))))).mono ?_; rintro e w' ⟨pp, rfl, rfl⟩))
                    all_goals go_ret
                    all_goals exact ⟨ret_bool RS.out.symm, bl_tr JB.out (by (repeat (with_reducible first | exact Below.refl _ _ | (refine bl_set ?_ (by first | omega | (simp; done) | (simp; omega)) _) | refine bl_gr ?_ _ | refine bl_al ?_ _ | refine below_setRow ?_ (by first | omega | (simp; done) | (simp; omega)) _ | refine bl_drewN ?_ _ | refine Below.drew ?_ | (refine bl_tr ?_ (by assumption)))))⟩
                  by_cases g1 : x.t ≤ x.f
                  · have RS := Lib.hid (FL.out (by rw [GM.out, decide_eq_false (show ¬ x.f < x.t by omega)]; simp))
                    go_wp2_with (first | (go_at_call_of 50 (Value.int IntKind.u8 106); refine (callGr (P0.out _ (CD.out.below (by (repeat (with_reducible first | exact Below.refl _ _ | (refine bl_set ?_ (by first | omega | (simp; done) | (simp; omega)) _) | refine bl_gr ?_ _ | refine bl_al ?_ _ | refine below_setRow ?_ (by first | omega | (simp; done) | (simp; omega)) _ | refine bl_drewN ?_ _ | refine Below.drew ?_ | (refine bl_tr ?_ (by assumption)))))))).mono ?_; rintro e w' ⟨pp, rfl, rfl⟩) | (go_at_call_of 50 (Value.int IntKind.u8 114); refine (callGr (P1.out _ (CD.out.below (by (repeat (with_reducible first | exact Below.refl _ _ | (refine bl_set ?_ (by first | omega | (simp; done) | (simp; omega)) _) | refine bl_gr ?_ _ | refine bl_al ?_ _ | refine below_setRow ?_ (by first | omega | (simp; done) | (simp; omega)) _ | refine bl_drewN ?_ _ | refine Below.drew ?_ | (refine bl_tr ?_ (by assumption)))))))).mono ?_; rintro e w' ⟨pp, rfl, rfl⟩))
                    all_goals go_ret
                    all_goals exact ⟨ret_bool RS.out.symm, bl_tr JB.out (by (repeat (with_reducible first | exact Below.refl _ _ | (refine bl_set ?_ (by first | omega | (simp; done) | (simp; omega)) _) | refine bl_gr ?_ _ | refine bl_al ?_ _ | refine below_setRow ?_ (by first | omega | (simp; done) | (simp; omega)) _ | refine bl_drewN ?_ _ | refine Below.drew ?_ | (refine bl_tr ?_ (by assumption)))))⟩
                  by_cases g2 : (c.ins.length : Int) < x.t
                  · have RS := Lib.hid (FL.out (by rw [GM.out, decide_eq_false (show ¬ x.t ≤ (c.ins.length : Int) by omega)]; simp))
                    go_wp2_with (first | (go_at_call_of 50 (Value.int IntKind.u8 106); refine (callGr (P0.out _ (CD.out.below (by (repeat (with_reducible first | exact Below.refl _ _ | (refine bl_set ?_ (by first | omega | (simp; done) | (simp; omega)) _) | refine bl_gr ?_ _ | refine bl_al ?_ _ | refine below_setRow ?_ (by first | omega | (simp; done) | (simp; omega)) _ | refine bl_drewN ?_ _ | refine Below.drew ?_ | (refine bl_tr ?_ (by assumption)))))))).mono ?_; rintro e w' ⟨pp, rfl, rfl⟩) | (go_at_call_of 50 (Value.int IntKind.u8 114); refine (callGr (P1.out _ (CD.out.below (by (repeat (with_reducible first | exact Below.refl _ _ | (refine bl_set ?_ (by first | omega | (simp; done) | (simp; omega)) _) | refine bl_gr ?_ _ | refine bl_al ?_ _ | refine below_setRow ?_ (by first | omega | (simp; done) | (simp; omega)) _ | refine bl_drewN ?_ _ | refine Below.drew ?_ | (refine bl_tr ?_ (by assumption)))))))).mono ?_; rintro e w' ⟨pp, rfl, rfl⟩))
                    all_goals go_ret
                    all_goals exact ⟨ret_bool RS.out.symm, bl_tr JB.out (by (repeat (with_reducible first | exact Below.refl _ _ | (refine bl_set ?_ (by first | omega | (simp; done) | (simp; omega)) _) | refine bl_gr ?_ _ | refine bl_al ?_ _ | refine below_setRow ?_ (by first | omega | (simp; done) | (simp; omega)) _ | refine bl_drewN ?_ _ | refine Below.drew ?_ | (refine bl_tr ?_ (by assumption)))))⟩
                  have GN := Lib.hid (show gdM c x = (prtC c 106 x.g && prtC c 114 x.r) by rw [GM.out, decide_eq_true (show 0 ≤ x.f by omega), decide_eq_true (show x.f < x.t by omega), decide_eq_true (show x.t ≤ (c.ins.length : Int) by omega)]; rfl)
                  clear GM
                  cases hr0 : prtC c 106 x.g
                  · rw [hr0] at P0
                    have RS := Lib.hid (FL.out (by rw [GN.out, hr0]; rfl))
                    clear hr0
                    go_wp2_with (first | (go_at_call_of 50 (Value.int IntKind.u8 106); refine (callGr (P0.out _ (CD.out.below (by (repeat (with_reducible first | exact Below.refl _ _ | (refine bl_set ?_ (by first | omega | (simp; done) | (simp; omega)) _) | refine bl_gr ?_ _ | refine bl_al ?_ _ | refine below_setRow ?_ (by first | omega | (simp; done) | (simp; omega)) _ | refine bl_drewN ?_ _ | refine Below.drew ?_ | (refine bl_tr ?_ (by assumption)))))))).mono ?_; rintro e w' ⟨pp, rfl, rfl⟩) | (go_at_call_of 50 (Value.int IntKind.u8 114); refine (callGr (P1.out _ (CD.out.below (by (repeat (with_reducible first | exact Below.refl _ _ | (refine bl_set ?_ (by first | omega | (simp; done) | (simp; omega)) _) | refine bl_gr ?_ _ | refine bl_al ?_ _ | refine below_setRow ?_ (by first | omega | (simp; done) | (simp; omega)) _ | refine bl_drewN ?_ _ | refine Below.drew ?_ | (refine bl_tr ?_ (by assumption)))))))).mono ?_; rintro e w' ⟨pp, rfl, rfl⟩))
                    all_goals go_ret
                    all_goals exact ⟨ret_bool RS.out.symm, bl_tr JB.out (by (repeat (with_reducible first | exact Below.refl _ _ | (refine bl_set ?_ (by first | omega | (simp; done) | (simp; omega)) _) | refine bl_gr ?_ _ | refine bl_al ?_ _ | refine below_setRow ?_ (by first | omega | (simp; done) | (simp; omega)) _ | refine bl_drewN ?_ _ | refine Below.drew ?_ | (refine bl_tr ?_ (by assumption)))))⟩
                  cases hr1 : prtC c 114 x.r
                  · rw [hr0] at P0
                    rw [hr1] at P1
                    have RS := Lib.hid (FL.out (by rw [GN.out, hr0, hr1]; rfl))
                    clear hr0 hr1
                    go_wp2_with (first | (go_at_call_of 50 (Value.int IntKind.u8 106); refine (callGr (P0.out _ (CD.out.below (by (repeat (with_reducible first | exact Below.refl _ _ | (refine bl_set ?_ (by first | omega | (simp; done) | (simp; omega)) _) | refine bl_gr ?_ _ | refine bl_al ?_ _ | refine below_setRow ?_ (by first | omega | (simp; done) | (simp; omega)) _ | refine bl_drewN ?_ _ | refine Below.drew ?_ | (refine bl_tr ?_ (by assumption)))))))).mono ?_; rintro e w' ⟨pp, rfl, rfl⟩) | (go_at_call_of 50 (Value.int IntKind.u8 114); refine (callGr (P1.out _ (CD.out.below (by (repeat (with_reducible first | exact Below.refl _ _ | (refine bl_set ?_ (by first | omega | (simp; done) | (simp; omega)) _) | refine bl_gr ?_ _ | refine bl_al ?_ _ | refine below_setRow ?_ (by first | omega | (simp; done) | (simp; omega)) _ | refine bl_drewN ?_ _ | refine Below.drew ?_ | (refine bl_tr ?_ (by assumption)))))))).mono ?_; rintro e w' ⟨pp, rfl, rfl⟩))
                    all_goals go_ret
                    all_goals exact ⟨ret_bool RS.out.symm, bl_tr JB.out (by (repeat (with_reducible first | exact Below.refl _ _ | (refine bl_set ?_ (by first | omega | (simp; done) | (simp; omega)) _) | refine bl_gr ?_ _ | refine bl_al ?_ _ | refine below_setRow ?_ (by first | omega | (simp; done) | (simp; omega)) _ | refine bl_drewN ?_ _ | refine Below.drew ?_ | (refine bl_tr ?_ (by assumption)))))⟩
                  rw [hr0] at P0
                  rw [hr1] at P1
                  have hp := Lib.hid (show gdM c x = true by rw [GN.out, hr0, hr1]; rfl)
                  clear hr0 hr1
                  go_wp2_with (first | (go_at_call_of 50 (Value.int IntKind.u8 106); refine (callGr (P0.out _ (CD.out.below (by (repeat (with_reducible first | exact Below.refl _ _ | (refine bl_set ?_ (by first | omega | (simp; done) | (simp; omega)) _) | refine bl_gr ?_ _ | refine bl_al ?_ _ | refine below_setRow ?_ (by first | omega | (simp; done) | (simp; omega)) _ | refine bl_drewN ?_ _ | refine Below.drew ?_ | (refine bl_tr ?_ (by assumption)))))))).mono ?_; rintro e w' ⟨pp, rfl, rfl⟩) | (go_at_call_of 50 (Value.int IntKind.u8 114); refine (callGr (P1.out _ (CD.out.below (by (repeat (with_reducible first | exact Below.refl _ _ | (refine bl_set ?_ (by first | omega | (simp; done) | (simp; omega)) _) | refine bl_gr ?_ _ | refine bl_al ?_ _ | refine below_setRow ?_ (by first | omega | (simp; done) | (simp; omega)) _ | refine bl_drewN ?_ _ | refine Below.drew ?_ | (refine bl_tr ?_ (by assumption)))))))).mono ?_; rintro e w' ⟨pp, rfl, rfl⟩))
                  go_roundw
                  case rel => exact ⟨kp, by first | with_reducible rfl | (rw [ek1]; done) | (rw [KP.out]; go_num), Lib.hid ⟨by rw [KP.out]; exact LQ.out, by rw [KP.out]; exact NX.out hp.out⟩, ((show Below wr.heap.size wr _ by (repeat (with_reducible first | exact Below.refl _ _ | (refine bl_set ?_ (by first | omega | (simp; done) | (simp; omega)) _) | refine bl_gr ?_ _ | refine bl_al ?_ _ | refine below_setRow ?_ (by first | omega | (simp; done) | (simp; omega)) _ | refine bl_drewN ?_ _ | refine Below.drew ?_ | (refine bl_tr ?_ (by assumption))))).block _ l0).trans J0.out, bl_tr JB.out (by (repeat (with_reducible first | exact Below.refl _ _ | (refine bl_set ?_ (by first | omega | (simp; done) | (simp; omega)) _) | refine bl_gr ?_ _ | refine bl_al ?_ _ | refine below_setRow ?_ (by first | omega | (simp; done) | (simp; omega)) _ | refine bl_drewN ?_ _ | refine Below.drew ?_ | (refine bl_tr ?_ (by assumption)))))⟩
                  case measure => (first | ((try rw [ek1]); exact meas_c KP.out LQ.out) | (clear ek1; have := LQ.out; simp only [intOf]; omega))
                · have q2 : ¬ (q : Int) < (c.gs.length : Int) := by omega
                  have ALgs := Lib.hid (show c.gs.all (gdM c) = true by rw [List.all_eq_true]; have h := HQ.out.2; rwa [List.take_of_length_le (by omega)] at h)
                  clear hlt j0 jb l0 ln
                  go_wp2
                  have RS := Lib.hid (show rightC c = true by unfold rightC; have h := HL.out; rw [HD.out, ALpl.out, ALks.out, ALins.out, ALgs.out]; simp; omega)
                  go_ret
                  exact ⟨ret_bool RS.out.symm, CX.out.2⟩
theorem rrightC_any (c : CodeD) (i p k g : Value) (hc : c.ok) (w : World) (h : Cd4 w i p k g c) :
    Calls Try.prog 22 #[codeV c.nm c.kd c.ln c.rg i p k g] w fun e w' => e = .returned (.bool (rightC c)) ∧ Below w.heap.size w w' := by
  by_cases hy : HYES c
  · exact rrightC_yes c i p k g hc w h hy
  · exact rrightC_no c i p k g hc w h hy
end Go.Proofs.Ytcmpgohpncnagaa
