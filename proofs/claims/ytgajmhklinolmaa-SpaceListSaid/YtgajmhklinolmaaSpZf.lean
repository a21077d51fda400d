/- Walk of the law's few. -/
import Derived.Test.YtgajmhklinolmaaSpZe
namespace Go.Proofs.Ytgajmhklinolmaa
set_option linter.all false
open Go.RowKit Go.Sort Go.Deep

theorem IsA.at_ {w : World} {v : Value} {l : List ActD} (h : IsA w v l) (h0 : 0 < l.length) : ∃ b off cap, v = .slice (some ⟨b, off, none⟩) l.length cap ∧ l.length ≤ cap ∧ b < w.heap.size ∧ ∀ (i : Nat) (a : ActD), l[i]? = some a → ∃ A ca B cb,
    w.cell? ⟨b, off + i * 8, none⟩ = some (.int .i64 a.kd) ∧ w.cell? ⟨b, off + i * 8 + 1, none⟩ = some (.int .i64 a.n) ∧ w.cell? ⟨b, off + i * 8 + 2, none⟩ = some (.int .i64 a.c.k) ∧ w.cell? ⟨b, off + i * 8 + 3, none⟩ = some (.int .i64 a.c.sh) ∧
    w.cell? ⟨b, off + i * 8 + 4, none⟩ = some (.int .i64 a.c.fl) ∧ w.cell? ⟨b, off + i * 8 + 5, none⟩ = some (.int .i64 a.c.ag) ∧ w.cell? ⟨b, off + i * 8 + 6, none⟩ = some (.slice A a.c.sl.length ca) ∧ w.cell? ⟨b, off + i * 8 + 7, none⟩ = some (.slice B a.c.mo.length cb) ∧
    IsV w (.slice A a.c.sl.length ca) a.c.sl ∧ IsV w (.slice B a.c.mo.length cb) a.c.mo ∧ a.c.sl.length ≤ maxLen ∧ a.c.mo.length ≤ maxLen := by
  obtain ⟨rs, hs, hl, hh⟩ := h
  obtain ⟨b, off, cap, e, hc, hb, hx⟩ := hs.at_ (by omega)
  refine ⟨b, off, cap, by rw [e, hl], by omega, hb, fun i a hi => ?_⟩
  have hil : i < rs.length := by
    have := (List.getElem?_eq_some_iff.1 hi).1
    omega
  have hr := List.getElem?_eq_getElem hil
  obtain ⟨e1, e2, e3, e4, e5, e6, v1, v2⟩ := hh i _ a hr hi
  obtain ⟨A, ca, f1, _, m1⟩ := v1.form
  obtain ⟨B, cb, f2, _, m2⟩ := v2.form
  have := hx i _ hr
  refine ⟨A, ca, B, cb, ?_, ?_, ?_, ?_, ?_, ?_, ?_, ?_, f1 ▸ v1, f2 ▸ v2, m1, m2⟩
  · rw [← e1]; exact this 0 _ rfl
  · rw [← e2]; exact this 1 _ rfl
  · rw [← e3]; exact this 2 _ rfl
  · rw [← e4]; exact this 3 _ rfl
  · rw [← e5]; exact this 4 _ rfl
  · rw [← e6]; exact this 5 _ rfl
  · rw [← f1]; exact this 6 _ rfl
  · rw [← f2]; exact this 7 _ rfl

def SomeB (e : Ending) : Prop := ∃ b, e = .returned (.bool b)

set_option maxRecDepth 100000 in
set_option maxHeartbeats 2000000 in
theorem few_any (v : Value) (l : List ActD) (w : World) (h : IsA w v l) :
    Calls Try.prog 7 #[v] w fun e w' => SomeB e ∧ Below w.heap.size w w' := by
  obtain ⟨A, cap, rfl, hca, hm⟩ := h.form
  have H := Lib.hid h
  unfold maxLen at hm
  clear h
  go_enter Try.func7, Try.ntmps7
  go_wp2
  go_loopw [3, 4] (fun n j wr => ∃ (r : Nat) (m : Int), r ≤ l.length ∧ j = .int .i64 r ∧ n = .int .i64 m ∧ Below w.heap.size w wr) (fun _ j _ => l.length - (intOf j).toNat)
  case atStart => exact ⟨0, 0, by omega, rfl, rfl, by (repeat (with_reducible first | exact Below.refl _ _ | (refine bl_set ?_ (by first | omega | (simp; done) | (simp; omega)) _) | refine bl_gr ?_ _ | refine bl_al ?_ _ | refine below_setRow ?_ (by first | omega | (simp; done) | (simp; omega)) _ | refine bl_drewN ?_ _ | refine Below.drew ?_ | (refine bl_tr ?_ (by assumption))))⟩
  case round =>
    obtain ⟨r, m, hr, rfl, rfl, hB⟩ := hrel
    by_cases hlt : r < l.length ∧ r < 60
    · obtain ⟨b, off, cap', e, _, hb, hx⟩ := H.out.at_ (by omega)
      simp only [Value.slice.injEq, true_and] at e
      obtain ⟨rfl, rfl⟩ := e
      obtain ⟨A, ca, B, cb, c0, c1, c2, c3, c4, c5, c6, c7, v1, v2, m1, m2⟩ := hx r _ (List.getElem?_eq_getElem hlt.1)
      generalize l[r] = a at *
      have h0 : ¬ (r : Int) < 0 := by omega
      have h1 : (r : Int) < l.length := by omega
      have h2 : (r : Int) < 60 := by omega
      have HB := Lib.hid hB
      have hbr : b < wr.heap.size := Nat.lt_of_lt_of_le hb hB.size
      rw [← hB.cell (p := ⟨b, _, none⟩) hb] at c6 c7
      replace c6 : wr.cell? ⟨b, off + r * 8 + 2 + 4, none⟩ = _ := c6
      replace c7 : wr.cell? ⟨b, off + r * 8 + 2 + 5, none⟩ = _ := c7
      unfold maxLen at m1 m2
      clear c0 c1 c2 c3 c4 c5 v1 v2 hx hB
      go_upto_region 5 with fail
      ((first | (with_reducible refine wp_quiet_gr Try.mixed ?_ ?_) | (with_reducible refine wp_quiet_any Try.mixed ?_ ?_)); (next => kernel_rfl); (repeat (quiet_step (fail))); refine wpQuiet_nil ?_; intro pq)
      go_wp2
      go_roundw
      case rel => exact ⟨r + 1, _, by omega, by go_num, rfl, bl_gr HB.out _⟩
      case measure => simp [intOf]; omega

    · have HB := Lib.hid hB
      clear hB
      by_cases h1 : (r : Int) < l.length
      · have h2 : ¬ (r : Int) < 60 := by omega
        go_wp2
        go_ret
        exact ⟨⟨_, rfl⟩, HB.out⟩
      · go_wp2
        go_ret
        exact ⟨⟨_, rfl⟩, HB.out⟩
end Go.Proofs.Ytgajmhklinolmaa
