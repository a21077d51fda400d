/- Walks of the reference: Cells. -/
import Derived.Test.YtgajmhklinolmaaSpA
namespace Go.Proofs.Ytgajmhklinolmaa
set_option linter.all false
open Go.RowKit Go.Sort

/-- the k-th cell of a slice of cells -/
theorem IsC.at_ {w : World} {v : Value} {l : List CellD} (h : IsC w v l) (h0 : 0 < l.length) : ∃ b off cap, v = .slice (some ⟨b, off, none⟩) l.length cap ∧ l.length ≤ cap ∧ b < w.heap.size ∧ ∀ (i : Nat) (c : CellD), l[i]? = some c → ∃ sv mv,
    w.cell? ⟨b, off + i * 6, none⟩ = some (.int .i64 c.k) ∧ w.cell? ⟨b, off + i * 6 + 1, none⟩ = some (.int .i64 c.sh) ∧ w.cell? ⟨b, off + i * 6 + 2, none⟩ = some (.int .i64 c.fl) ∧ w.cell? ⟨b, off + i * 6 + 3, none⟩ = some (.int .i64 c.ag) ∧
    w.cell? ⟨b, off + i * 6 + 4, none⟩ = some sv ∧ w.cell? ⟨b, off + i * 6 + 5, none⟩ = some mv ∧ IsV w sv c.sl ∧ IsV w mv c.mo := by
  obtain ⟨rs, hs, hl, hh⟩ := h
  obtain ⟨b, off, cap, e, hc, hb, hx⟩ := hs.at_ (by omega)
  refine ⟨b, off, cap, by rw [e, hl], by omega, hb, fun i c hi => ?_⟩
  have hil : i < rs.length := by
    have := (List.getElem?_eq_some_iff.1 hi).1
    omega
  have hr := List.getElem?_eq_getElem hil
  obtain ⟨e1, e2, e3, e4, e5, e6⟩ := hh i _ c hr hi
  have := hx i _ hr
  refine ⟨rs[i].sv, rs[i].mv, ?_, ?_, ?_, ?_, ?_, ?_, e5, e6⟩
  · rw [← e1]; exact this 0 _ rfl
  · rw [← e2]; exact this 1 _ rfl
  · rw [← e3]; exact this 2 _ rfl
  · rw [← e4]; exact this 3 _ rfl
  · exact this 4 _ rfl
  · exact this 5 _ rfl
theorem IsC.form {w : World} {v : Value} {l : List CellD} (h : IsC w v l) : ∃ A cap, v = .slice A l.length cap ∧ l.length ≤ cap ∧ l.length ≤ maxLen := by
  obtain ⟨rs, hs, hl, _⟩ := h
  obtain ⟨A, cap, e, h1, h2⟩ := hs.form
  exact ⟨A, cap, by rw [e, hl], by omega, by omega⟩

set_option maxHeartbeats 1000000 in
theorem cells_any (a b : Value) (xs ys : List CellD) (w : World) (ha : IsC w a xs) (hb : IsC w b ys) :
    Calls Try.prog 15 #[a, b] w fun e w' => e = .returned (.bool (decide (xs = ys))) ∧ Below w.heap.size w w' := by
  obtain ⟨A, ca, rfl, hca, hma⟩ := ha.form
  obtain ⟨B, cb, rfl, hcb, hmb⟩ := hb.form
  unfold maxLen at hma hmb
  by_cases hl : xs.length = ys.length
  case neg =>
    go_enter Try.func15, Try.ntmps15
    go_wp2
    go_ret
    exact ⟨ret_bool (by symm; simp; intro h; exact hl (by rw [h])), by (repeat (with_reducible first | exact Below.refl _ _ | (refine bl_set ?_ (by first | omega | (simp; done) | (simp; omega)) _) | refine bl_gr ?_ _ | refine bl_al ?_ _ | refine below_setRow ?_ (by first | omega | (simp; done) | (simp; omega)) _ | refine bl_drewN ?_ _ | refine Below.drew ?_ | (refine bl_tr ?_ (by assumption))))⟩
  have HL := Lib.hid hl
  have hle1 : xs.length ≤ ys.length := by omega
  have hle2 : ys.length ≤ xs.length := by omega
  have hne : ((xs.length : Int) != (ys.length : Int)) = false := by simp [hl]
  clear hl
  go_enter Try.func15, Try.ntmps15
  go_wp2
  go_loopw [5] (fun i wr => ∃ k : Nat, k ≤ xs.length ∧ i = .int .i64 k ∧ xs.take k = ys.take k ∧ Below w.heap.size w wr) (fun i _ => xs.length - (intOf i).toNat)
  case atStart => exact ⟨0, by omega, rfl, rfl, Below.refl _ _⟩
  case round =>
    obtain ⟨k, hk, rfl, htk, hbw⟩ := hrel
    have HT := Lib.hid htk
    clear htk
    by_cases hlt : k < xs.length
    · obtain ⟨b1, o1, _, e1, _, hb1, hx⟩ := (ha.below hbw).at_ (by omega)
      obtain ⟨b2, o2, _, e2, _, hb2, hy⟩ := (hb.below hbw).at_ (by omega)
      simp only [Value.slice.injEq] at e1 e2
      obtain ⟨rfl, _, rfl⟩ := e1
      obtain ⟨rfl, _, rfl⟩ := e2
      have hlt2 : k < ys.length := by omega
      obtain ⟨x, ex⟩ : ∃ x, xs[k]? = some x := ⟨_, List.getElem?_eq_getElem hlt⟩
      obtain ⟨y, ey⟩ : ∃ y, ys[k]? = some y := ⟨_, List.getElem?_eq_getElem hlt2⟩
      obtain ⟨sv, mv, cx0, cx1, cx2, cx3, cx4, cx5, vx1, vx2⟩ := hx k x ex
      obtain ⟨tv, nv, cy0, cy1, cy2, cy3, cy4, cy5, vy1, vy2⟩ := hy k y ey
      have EX := Lib.hid ex
      have EY := Lib.hid ey
      have VX := Lib.hid (And.intro vx1 vx2)
      have VY := Lib.hid (And.intro vy1 vy2)
      clear hx hy ex ey ha hb vx1 vx2 vy1 vy2
      go_wp2
      ((first | (with_reducible refine wp_quiet_gr Try.mixed ?_ ?_) | (with_reducible refine wp_quiet_any Try.mixed ?_ ?_)); (next => kernel_rfl); (repeat (quiet_step ((go_at_call 19; exact callQ (cell_any sv mv tv nv x y _ (VX.out.1.gr _) (VX.out.2.gr _) (VY.out.1.gr _) (VY.out.2.gr _)))))); refine wpQuiet_nil ?_; intro pq)
      go_wp2
      · have hq : (!decide (x = y)) = true := by assumption
        go_ret
        refine ⟨ret_bool ?_, by (repeat (with_reducible first | exact Below.refl _ _ | (refine bl_set ?_ (by first | omega | (simp; done) | (simp; omega)) _) | refine bl_gr ?_ _ | refine bl_al ?_ _ | refine below_setRow ?_ (by first | omega | (simp; done) | (simp; omega)) _ | refine bl_drewN ?_ _ | refine Below.drew ?_ | (refine bl_tr ?_ (by assumption))))⟩
        symm
        rw [decide_eq_false_iff_not]
        rintro rfl
        have := EX.out.symm.trans EY.out
        simp only [Option.some.injEq] at this
        subst this
        simp at hq
      · have hq : (!decide (x = y)) = false := by assumption
        have hxy : x = y := by simpa using hq
        go_roundw
        case rel =>
          refine ⟨k + 1, by omega, by go_num, ?_, by (repeat (with_reducible first | exact Below.refl _ _ | (refine bl_set ?_ (by first | omega | (simp; done) | (simp; omega)) _) | refine bl_gr ?_ _ | refine bl_al ?_ _ | refine below_setRow ?_ (by first | omega | (simp; done) | (simp; omega)) _ | refine bl_drewN ?_ _ | refine Below.drew ?_ | (refine bl_tr ?_ (by assumption))))⟩
          rw [List.take_add_one, List.take_add_one, HT.out, EX.out, EY.out, hxy]
        case measure => simp [intOf]; omega
    · go_wp2
      go_ret
      refine ⟨ret_bool ?_, by (repeat (with_reducible first | exact Below.refl _ _ | (refine bl_set ?_ (by first | omega | (simp; done) | (simp; omega)) _) | refine bl_gr ?_ _ | refine bl_al ?_ _ | refine below_setRow ?_ (by first | omega | (simp; done) | (simp; omega)) _ | refine bl_drewN ?_ _ | refine Below.drew ?_ | (refine bl_tr ?_ (by assumption))))⟩
      symm
      rw [decide_eq_true_iff]
      have := HT.out
      have e := HL.out
      rwa [List.take_of_length_le (by omega), List.take_of_length_le (by omega)] at this
end Go.Proofs.Ytgajmhklinolmaa
