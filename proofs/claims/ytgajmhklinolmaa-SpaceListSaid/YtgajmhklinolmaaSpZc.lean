/- The reference's At, with where the slices lie. -/
import Derived.Test.YtgajmhklinolmaaSpZb
namespace Go.Proofs.Ytgajmhklinolmaa
set_option linter.all false
open Go.RowKit Go.Sort Go.Deep

set_option maxRecDepth 100000 in
set_option maxHeartbeats 1000000 in
theorem rat_new_in (w0 : World) (room : Int) (lv : Value) (l : List CellD) (i : Nat) (c : CellD) (w : World) (hw : Below w0.heap.size w0 w) (h : IsC w0 lv l) (hi : l[i]? = some c) :
    Calls Try.prog 28 #[spV room lv, .int .i64 i] w fun e w' => ∃ sv mv, e = .returned (.tuple #[cellV c.k c.sh c.fl c.ag sv mv, .bool true]) ∧ IsV w0 sv c.sl ∧ IsV w0 mv c.mo ∧ Below w.heap.size w w' := by
  have hlt : i < l.length := (List.getElem?_eq_some_iff.1 hi).1
  obtain ⟨_, _, _, _, hm⟩ := h.form
  obtain ⟨b, o, cap, rfl, hcap, hb0, hx⟩ := h.at_ (by omega)
  have hb : b < w.heap.size := Nat.lt_of_lt_of_le hb0 hw.size
  obtain ⟨sv, mv, c0, c1, c2, c3, c4, c5, v1, v2⟩ := hx i c hi
  obtain ⟨A1, n1, rfl, _, _⟩ := v1.form
  obtain ⟨A2, n2, rfl, _, _⟩ := v2.form
  have V1 := Lib.hid v1
  have V2 := Lib.hid v2
  rw [← hw.cell (p := ⟨b, _, none⟩) hb0] at c0 c1 c2 c3 c4 c5
  have h0 : ¬ (i : Int) < 0 := by omega
  have h1 : ¬ (l.length : Int) ≤ i := by omega
  have h2 : ¬ (i : Int) ≥ l.length := by omega
  unfold maxLen at hm
  clear hx h v1 v2 hw hb0
  go_enter Try.func28, Try.ntmps28
  go_wp2
  refine bodyPost_ret (v := .tuple #[cellV c.k c.sh c.fl c.ag (.slice A1 c.sl.length n1) (.slice A2 c.mo.length n2), .bool true]) (by simp [results, Try.results28, go_sem, gr_size]) rfl ⟨_, _, rfl, V1.out, V2.out, by (repeat (with_reducible first | exact Below.refl _ _ | (refine bl_set ?_ (by first | omega | (simp; done) | (simp; omega)) _) | refine bl_gr ?_ _ | refine bl_al ?_ _ | refine below_setRow ?_ (by first | omega | (simp; done) | (simp; omega)) _ | refine bl_drewN ?_ _ | refine Below.drew ?_ | (refine bl_tr ?_ (by assumption))))⟩
theorem rat_new (w0 : World) (room : Int) (lv : Value) (l : List CellD) (i : Int) (w : World) (hw : Below w0.heap.size w0 w) (h : IsC w0 lv l) :
    Calls Try.prog 28 #[spV room lv, .int .i64 i] w fun e w' => ∃ sv mv, e = .returned (.tuple #[cellV (atD l i).1.k (atD l i).1.sh (atD l i).1.fl (atD l i).1.ag sv mv, .bool (atD l i).2]) ∧ IsV w0 sv (atD l i).1.sl ∧ IsV w0 mv (atD l i).1.mo ∧ Below w.heap.size w w' := by
  rcases atD_cases l i with ⟨n, c, rfl, hc, e⟩ | ⟨hi, e⟩
  · rw [e]
    exact rat_new_in w0 room lv l n c w hw h hc
  · rw [e]
    exact (rat_out room lv l i w (h.below hw) hi).mono fun _ _ ⟨a, b⟩ => ⟨_, _, a, .nil_, .nil_, b⟩
end Go.Proofs.Ytgajmhklinolmaa
