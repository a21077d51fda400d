/- The reference's SameInts. -/
import Derived.Test.YtcmpgohpncnagaaWzE
namespace Go.Proofs.Ytcmpgohpncnagaa
set_option linter.all false
open Go.ChangeShapes Go.WideShapes Go.ChangeAt Go.RowKit Go.Sort Go.Deep

abbrev intCs (n : Int) : List Value := [.int .i64 n]
/-- a slice of integers that reads as xs -/
abbrev IsI (w : World) (v : Value) (xs : List Int) : Prop := SlOf w 1 intCs v xs
set_option maxHeartbeats 1000000 in
theorem sameInts_any (a b : Value) (xs ys : List Int) (w : World) (ha : IsI w a xs) (hb : IsI w b ys) :
    Calls Try.prog 14 #[a, b] w fun e w' => e = .returned (.bool (decide (xs = ys))) ∧ Below w.heap.size w w' := by
  obtain ⟨A, ca, rfl, hca, hma⟩ := ha.form
  obtain ⟨B, cb, rfl, hcb, hmb⟩ := hb.form
  unfold maxLen at hma hmb
  by_cases hl : xs.length = ys.length
  case neg =>
    have hne : ((xs.length : Int) != (ys.length : Int)) = true := bne_iff_ne.2 (by omega)
    go_enter Try.func14, Try.ntmps14
    go_wp2
    go_ret
    exact ⟨ret_bool (by symm; simp; intro h; exact hl (by rw [h])), by (repeat (with_reducible first | exact Below.refl _ _ | (refine bl_set ?_ (by first | omega | (simp; done) | (simp; omega)) _) | refine bl_gr ?_ _ | refine bl_al ?_ _ | refine below_setRow ?_ (by first | omega | (simp; done) | (simp; omega)) _ | refine bl_drewN ?_ _ | refine Below.drew ?_ | (refine bl_tr ?_ (by assumption))))⟩
  have HL := Lib.hid hl
  have hle1 : xs.length ≤ ys.length := by omega
  have hle2 : ys.length ≤ xs.length := by omega
  have hne : ((xs.length : Int) != (ys.length : Int)) = false := by simp [hl]
  clear hl
  go_enter Try.func14, Try.ntmps14
  go_wp2
  go_loopw [5] (fun i wr => ∃ k : Nat, k ≤ xs.length ∧ i = .int .i64 k ∧ xs.take k = ys.take k ∧ Below w.heap.size w wr) (fun i _ => xs.length - (intOf i).toNat)
  case atStart => exact ⟨0, by omega, rfl, rfl, Below.refl _ _⟩
  case round =>
    obtain ⟨k, hk, rfl, htk, hbw⟩ := hrel
    have HT := Lib.hid htk
    clear htk
    by_cases hlt : k < xs.length
    · obtain ⟨b1, o1, _, e1, _, hb1, hx⟩ := (ha.below hbw).at_ (by omega)
      obtain ⟨b2, o2, _, e2, _, hb2, hy⟩ := (hb.below hbw).at_ (by omega)
      simp only [Value.slice.injEq] at e1 e2
      obtain ⟨rfl, _, rfl⟩ := e1
      obtain ⟨rfl, _, rfl⟩ := e2
      have hlt2 : k < ys.length := by omega
      obtain ⟨x, ex⟩ : ∃ x, xs[k]? = some x := ⟨_, List.getElem?_eq_getElem hlt⟩
      obtain ⟨y, ey⟩ : ∃ y, ys[k]? = some y := ⟨_, List.getElem?_eq_getElem hlt2⟩
      have cx0 : wr.cell? ⟨b1, o1 + k, none⟩ = some (.int .i64 x) := by have := hx k x ex 0 _ rfl; simpa using this
      have cy0 : wr.cell? ⟨b2, o2 + k, none⟩ = some (.int .i64 y) := by have := hy k y ey 0 _ rfl; simpa using this
      have EX := Lib.hid ex
      have EY := Lib.hid ey
      clear hx hy ex ey ha hb
      go_wp2
      ((first | (with_reducible refine wp_quiet_gr Try.mixed ?_ ?_) | (with_reducible refine wp_quiet_any Try.mixed ?_ ?_)); (next => kernel_rfl); (repeat (with_reducible refine wpQuiet_step (fun K hK => ?_); go_simp; first | (refine hK _ ?_; clear hK K) | (apply Exists.intro; refine ⟨fun _ => ?_, hK _ ?_⟩; (fail); clear hK K))); refine wpQuiet_nil ?_; intro pq)
      go_wp2
      · have hq : (x != y) = true := by assumption
        go_ret
        refine ⟨ret_bool ?_, by (repeat (with_reducible first | exact Below.refl _ _ | (refine bl_set ?_ (by first | omega | (simp; done) | (simp; omega)) _) | refine bl_gr ?_ _ | refine bl_al ?_ _ | refine below_setRow ?_ (by first | omega | (simp; done) | (simp; omega)) _ | refine bl_drewN ?_ _ | refine Below.drew ?_ | (refine bl_tr ?_ (by assumption))))⟩
        symm
        rw [decide_eq_false_iff_not]
        rintro rfl
        have := EX.out.symm.trans EY.out
        simp only [Option.some.injEq] at this
        subst this
        simp at hq
      · have hq : (x != y) = false := by assumption
        have hxy : x = y := by simpa using hq
        have HXY := Lib.hid hxy
        clear hxy
        go_roundw
        case rel =>
          refine ⟨k + 1, by omega, by go_num, ?_, by (repeat (with_reducible first | exact Below.refl _ _ | (refine bl_set ?_ (by first | omega | (simp; done) | (simp; omega)) _) | refine bl_gr ?_ _ | refine bl_al ?_ _ | refine below_setRow ?_ (by first | omega | (simp; done) | (simp; omega)) _ | refine bl_drewN ?_ _ | refine Below.drew ?_ | (refine bl_tr ?_ (by assumption))))⟩
          rw [List.take_add_one, List.take_add_one, HT.out, EX.out, EY.out, HXY.out]
        case measure => simp [intOf]; omega
    · go_wp2
      go_ret
      refine ⟨ret_bool ?_, by (repeat (with_reducible first | exact Below.refl _ _ | (refine bl_set ?_ (by first | omega | (simp; done) | (simp; omega)) _) | refine bl_gr ?_ _ | refine bl_al ?_ _ | refine below_setRow ?_ (by first | omega | (simp; done) | (simp; omega)) _ | refine bl_drewN ?_ _ | refine Below.drew ?_ | (refine bl_tr ?_ (by assumption))))⟩
      symm
      rw [decide_eq_true_iff]
      have := HT.out
      have e := HL.out
      rwa [List.take_of_length_le (by omega), List.take_of_length_le (by omega)] at this

/-! the reference's weak -/
end Go.Proofs.Ytcmpgohpncnagaa
