/- Cells: Right of the reference, walked. -/
import Derived.Test.YtdikdkllbhanfaaWkA
import Derived.Test.YtdikdkllbhanfaaCelF
import Derived.Test.YtdikdkllbhanfaaCelK
namespace Go.Proofs.Ytdikdkllbhanfaa
set_option linter.all false
open Go.RowKit Go.Sort Go.Deep

theorem all_take {l : List Val} {p : Val → Bool} (h : ∀ i, (hi : i < l.length) → p l[i] = true) : l.all p = true := by
  rw [List.all_eq_true]
  intro x hx
  obtain ⟨i, hi, rfl⟩ := List.getElem_of_mem hx
  exact h i hi
theorem all_not {l : List Val} {p : Val → Bool} (k : Nat) (hk : k < l.length) (h : p l[k] = false) : l.all p = false := by
  rw [List.all_eq_false]
  exact ⟨_, List.getElem_mem hk, by simp [h]⟩

set_option maxRecDepth 100000 in
set_option maxHeartbeats 4000000 in
theorem rright_any (sv mv : Value) (c : CellD) (hc : c.ok) (w : World) (h1 : IsV w sv c.sl) (h2 : IsV w mv c.mo) :
    Calls Try.prog 24 #[cellV c.k c.sh c.fl c.ag sv mv] w fun e w' => e = .returned (.bool (rightB c)) ∧ Below w.heap.size w w' := by
  have H1 := Lib.hid h1
  have H2 := Lib.hid h2
  obtain ⟨A1, n1, rfl, _, hm1⟩ := h1.form
  obtain ⟨A2, n2, rfl, _, hm2⟩ := h2.form
  have OK1 := Lib.hid hc.2.2.2.2.1
  have OK2 := Lib.hid hc.2.2.2.2.2
  clear h1 h2 hc
  unfold maxLen at hm1 hm2
  rcases head_cases c with hh | hh | ⟨q1, hh⟩ | ⟨q1, q2, hh⟩ | ⟨q1, q2, q3, hh⟩ | ⟨q1, q2, q3, q4, hh⟩ | ⟨q1, q2, q3, q4, q5, hh, hh2⟩
  case inr.inr.inr.inr.inr.inr =>
    have HR := Lib.hid (rightB_head (headB_false (c := c) (by omega)))
    rcases (show c.ag < 0 ∨ 0 ≤ c.ag by omega) with b1 | b1
    · go_enter Try.func24, Try.ntmps24
      go_wp2
      go_ret
      exact ⟨ret_bool HR.out.symm, by (repeat (with_reducible first | exact Below.refl _ _ | (refine bl_set ?_ (by first | omega | (simp; done) | (simp; omega)) _) | refine bl_gr ?_ _ | refine bl_al ?_ _ | refine below_setRow ?_ (by first | omega | (simp; done) | (simp; omega)) _ | refine bl_drewN ?_ _ | refine Below.drew ?_ | (refine bl_tr ?_ (by assumption))))⟩
    · have b2 : ¬ c.ag < 0 := by omega
      have b3 : 1 < c.ag := by omega
      clear b1 hh hh2
      go_enter Try.func24, Try.ntmps24
      go_wp2
      go_ret
      exact ⟨ret_bool HR.out.symm, by (repeat (with_reducible first | exact Below.refl _ _ | (refine bl_set ?_ (by first | omega | (simp; done) | (simp; omega)) _) | refine bl_gr ?_ _ | refine bl_al ?_ _ | refine below_setRow ?_ (by first | omega | (simp; done) | (simp; omega)) _ | refine bl_drewN ?_ _ | refine Below.drew ?_ | (refine bl_tr ?_ (by assumption))))⟩
  case inl =>
    have hp := of_decide_eq_true hh
    have p1 : ¬ c.k < 1 := by omega
    have p2 : ¬ 11 < c.k := by omega
    have p3 : ¬ c.sh < 0 := by omega
    have p4 : ¬ c.fl < 0 := by omega
    have p5 : ¬ 63 < c.fl := by omega
    have p6 : ¬ c.ag < 0 := by omega
    have p7 : ¬ 1 < c.ag := by omega
    have HH := Lib.hid hh
    clear hh hp
    go_enter Try.func24, Try.ntmps24
    go_wp2
    clear p1 p2 p3 p4 p5 p6 p7
    go_loopw [3] (fun i wr => ∃ k : Nat, k ≤ c.sl.length ∧ i = .int .i64 k ∧ (∀ i, (hi : i < c.sl.length) → i < k → mayB c.sl[i] = true) ∧
      wr.heap[w.heap.size]? = some (cellO c.k c.sh c.fl c.ag (.slice A1 c.sl.length n1) (.slice A2 c.mo.length n2)) ∧ Below w.heap.size w wr) (fun i _ => c.sl.length - (intOf i).toNat)
    case atStart => exact ⟨0, by omega, rfl, fun _ _ h => absurd h (Nat.not_lt_zero _), heap_alloc_new _ _, by (repeat (with_reducible first | exact Below.refl _ _ | (refine bl_set ?_ (by first | omega | (simp; done) | (simp; omega)) _) | refine bl_gr ?_ _ | refine bl_al ?_ _ | refine below_setRow ?_ (by first | omega | (simp; done) | (simp; omega)) _ | refine bl_drewN ?_ _ | refine Below.drew ?_ | (refine bl_tr ?_ (by assumption))))⟩
    case round =>
      obtain ⟨k, hk, rfl, hall, hx, hB⟩ := hrel
      have HA := Lib.hid hall
      clear hall
      obtain ⟨⟨b0, b1, b2, b3, b4, b5⟩, _⟩ := cells6 hx
      have hlw : w.heap.size < wr.heap.size := (List.getElem?_eq_some_iff.1 (by simpa using hx)).1
      have INV := Lib.hid (And.intro hx hB)
      by_cases hlt : k < c.sl.length
      · have HV := H1.out.below hB
        obtain ⟨b, off, rfl⟩ := isV_addr HV (by omega)
        obtain ⟨hb, c00, c01, c02⟩ := HV.v3 k hlt
        have hs : (vAt c.sl k).s.size ≤ maxLen := (ok_at OK1.out k hlt).2.2
        have EV := Lib.hid (show c.sl[k] = vAt c.sl k by unfold vAt; rw [List.getElem?_eq_getElem hlt]; rfl)
        have q0 : ¬ (k : Int) < 0 := by omega
        have q1 : (k : Int) < c.sl.length := by omega
        generalize vAt c.sl k = v at *
        have HS := Lib.hid hs
        clear hx hB HV hs
        cases hmay : mayB v
        · have HM := Lib.hid hmay
          have RF := Lib.hid (show rightB c = false by
            have e := all_not (p := mayB) k hlt (by rw [EV.out]; exact HM.out)
            simp [rightB, e])
          have MY := Lib.hid (fun (W : World) => by have := May_any v W HS.out; rw [HM.out] at this; exact this : ∀ W : World, Calls Try.prog 40 #[v.agg] W fun e w' => e = .returned (.bool false) ∧ Below W.heap.size W w')
          clear hmay
          go_wp2_with (go_at_call 40; refine (callGr (MY.out _)).mono ?_; rintro e w' ⟨pp, rfl, rfl⟩)
          go_ret
          exact ⟨ret_bool RF.out.symm, bl_gr INV.out.2 _⟩
        · have HM := Lib.hid hmay
          have MY := Lib.hid (fun (W : World) => by have := May_any v W HS.out; rw [HM.out] at this; exact this : ∀ W : World, Calls Try.prog 40 #[v.agg] W fun e w' => e = .returned (.bool true) ∧ Below W.heap.size W w')
          clear hmay
          go_wp2_with (go_at_call 40; refine (callGr (MY.out _)).mono ?_; rintro e w' ⟨pp, rfl, rfl⟩)
          go_roundw
          case rel =>
            refine ⟨k + 1, by omega, by go_num, ?_, (below_gr _ _).block _ hlw ▸ INV.out.1, bl_gr INV.out.2 _⟩
            intro i hi hik
            rcases Nat.lt_or_ge i k with h | h
            · exact HA.out i hi h
            · obtain rfl : i = k := by omega
              rw [EV.out]; exact HM.out
          case measure => simp [intOf]; omega
      · have q1 : ¬ (k : Int) < c.sl.length := by omega
        have HSL := Lib.hid (all_take (p := mayB) (l := c.sl) (fun i hi => HA.out i hi (by omega)))
        clear hx hB HA
        go_wp2
        clear b0 b1 b2 b3 b4 b5
        obtain ⟨wo, rfl⟩ : ∃ wo : World, wo = wr := ⟨_, rfl⟩
        go_loopw [4] (fun i wr => ∃ m : Nat, m ≤ c.mo.length ∧ i = .int .i64 m ∧ (∀ i, (hi : i < c.mo.length) → i < m → mayB c.mo[i] = true) ∧
          wr.heap[w.heap.size]? = some (cellO c.k c.sh c.fl c.ag (.slice A1 c.sl.length n1) (.slice A2 c.mo.length n2)) ∧ Below w.heap.size w wr) (fun i _ => c.mo.length - (intOf i).toNat)
        case atStart => exact ⟨0, by omega, rfl, fun _ _ h => absurd h (Nat.not_lt_zero _), INV.out.1, INV.out.2⟩
        case round =>
          clear INV q1 hlt hk hlw
          obtain ⟨m, hk, rfl, hall, hx, hB⟩ := hrel
          have HA := Lib.hid hall
          clear hall
          obtain ⟨⟨b0, b1, b2, b3, b4, b5⟩, _⟩ := cells6 hx
          have hlw : w.heap.size < wr.heap.size := (List.getElem?_eq_some_iff.1 (by simpa using hx)).1
          have INV := Lib.hid (And.intro hx hB)
          by_cases hlt : m < c.mo.length
          · have HV := H2.out.below hB
            obtain ⟨b, off, rfl⟩ := isV_addr HV (by omega)
            obtain ⟨hb, c00, c01, c02⟩ := HV.v3 m hlt
            have hs : (vAt c.mo m).s.size ≤ maxLen := (ok_at OK2.out m hlt).2.2
            have EV := Lib.hid (show c.mo[m] = vAt c.mo m by unfold vAt; rw [List.getElem?_eq_getElem hlt]; rfl)
            have q0 : ¬ (m : Int) < 0 := by omega
            have q1 : (m : Int) < c.mo.length := by omega
            generalize vAt c.mo m = v at *
            have HS := Lib.hid hs
            clear hx hB HV hs
            cases hmay : mayB v
            · have HM := Lib.hid hmay
              have RF := Lib.hid (show rightB c = false by
                have e := all_not (p := mayB) m hlt (by rw [EV.out]; exact HM.out)
                simp [rightB, e])
              have MY := Lib.hid (fun (W : World) => by have := May_any v W HS.out; rw [HM.out] at this; exact this : ∀ W : World, Calls Try.prog 40 #[v.agg] W fun e w' => e = .returned (.bool false) ∧ Below W.heap.size W w')
              clear hmay
              go_wp2_with (go_at_call 40; refine (callGr (MY.out _)).mono ?_; rintro e w' ⟨pp, rfl, rfl⟩)
              go_ret
              exact ⟨ret_bool RF.out.symm, bl_gr INV.out.2 _⟩
            · have HM := Lib.hid hmay
              have MY := Lib.hid (fun (W : World) => by have := May_any v W HS.out; rw [HM.out] at this; exact this : ∀ W : World, Calls Try.prog 40 #[v.agg] W fun e w' => e = .returned (.bool true) ∧ Below W.heap.size W w')
              clear hmay
              go_wp2_with (go_at_call 40; refine (callGr (MY.out _)).mono ?_; rintro e w' ⟨pp, rfl, rfl⟩)
              go_roundw
              case rel =>
                refine ⟨m + 1, by omega, by go_num, ?_, (below_gr _ _).block _ hlw ▸ INV.out.1, bl_gr INV.out.2 _⟩
                intro i hi hik
                rcases Nat.lt_or_ge i m with h | h
                · exact HA.out i hi h
                · obtain rfl : i = m := by omega
                  rw [EV.out]; exact HM.out
              case measure => simp [intOf]; omega
          · have q1 : ¬ (m : Int) < c.mo.length := by omega
            have HMO := Lib.hid (all_take (p := mayB) (l := c.mo) (fun i hi => HA.out i hi (by omega)))
            have EA := Lib.hid (show rightB c = (slotsB c && moreB c.k c.mo) by rw [rightB, HH.out, HSL.out, HMO.out]; rfl)
            have J1 := Lib.hid (H1.out.below hB)
            have J2 := Lib.hid (H2.out.below hB)
            clear hx hB HA
            go_wp2_with (first | (go_at_call 41; refine (callGr (rslots_any _ _ c _ (J1.out.below (by (repeat (with_reducible first | exact Below.refl _ _ | (refine bl_set ?_ (by first | omega | (simp; done) | (simp; omega)) _) | refine bl_gr ?_ _ | refine bl_al ?_ _ | refine below_setRow ?_ (by first | omega | (simp; done) | (simp; omega)) _ | refine bl_drewN ?_ _ | refine Below.drew ?_ | (refine bl_tr ?_ (by assumption)))))) (J2.out.below (by (repeat (with_reducible first | exact Below.refl _ _ | (refine bl_set ?_ (by first | omega | (simp; done) | (simp; omega)) _) | refine bl_gr ?_ _ | refine bl_al ?_ _ | refine below_setRow ?_ (by first | omega | (simp; done) | (simp; omega)) _ | refine bl_drewN ?_ _ | refine Below.drew ?_ | (refine bl_tr ?_ (by assumption)))))))).mono ?_; rintro e w' ⟨pp, rfl, rfl⟩) | (go_at_call 42; refine (callGr (rmore_any _ _ _ _ _ _ _ _ c.mo _ (J2.out.below (by (repeat (with_reducible first | exact Below.refl _ _ | (refine bl_set ?_ (by first | omega | (simp; done) | (simp; omega)) _) | refine bl_gr ?_ _ | refine bl_al ?_ _ | refine below_setRow ?_ (by first | omega | (simp; done) | (simp; omega)) _ | refine bl_drewN ?_ _ | refine Below.drew ?_ | (refine bl_tr ?_ (by assumption)))))))).mono ?_; rintro e w' ⟨pp, rfl, rfl⟩))
            all_goals go_ret
            all_goals exact ⟨ret_bool (by rw [EA.out]; simp [*]), bl_tr INV.out.2 (by (repeat (with_reducible first | exact Below.refl _ _ | (refine bl_set ?_ (by first | omega | (simp; done) | (simp; omega)) _) | refine bl_gr ?_ _ | refine bl_al ?_ _ | refine below_setRow ?_ (by first | omega | (simp; done) | (simp; omega)) _ | refine bl_drewN ?_ _ | refine Below.drew ?_ | (refine bl_tr ?_ (by assumption)))))⟩
  all_goals
    have HR := Lib.hid (rightB_head (headB_false (c := c) (by omega)))
    go_enter Try.func24, Try.ntmps24
    go_wp2
    go_ret
    exact ⟨ret_bool HR.out.symm, by (repeat (with_reducible first | exact Below.refl _ _ | (refine bl_set ?_ (by first | omega | (simp; done) | (simp; omega)) _) | refine bl_gr ?_ _ | refine bl_al ?_ _ | refine below_setRow ?_ (by first | omega | (simp; done) | (simp; omega)) _ | refine bl_drewN ?_ _ | refine Below.drew ?_ | (refine bl_tr ?_ (by assumption))))⟩
end Go.Proofs.Ytdikdkllbhanfaa
