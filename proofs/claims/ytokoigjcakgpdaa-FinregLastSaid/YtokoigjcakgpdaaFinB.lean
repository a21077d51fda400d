/- Registries: is, may, bare, Len, object, empty. -/
import Derived.Test.YtokoigjcakgpdaaCelV
import Derived.Test.YtokoigjcakgpdaaCelT
import Derived.Test.YtokoigjcakgpdaaCelX
namespace Go.Proofs.Ytokoigjcakgpdaa
set_option linter.all false
open Go.RowKit Go.Sort Go.Deep

theorem callGrV {P : Program} {f : FuncId} {args : Array Value} {W : World} {xs : List Int} (h : Calls P f args W fun e w' => ∃ v, e = .returned v ∧ IsI w' v xs ∧ Below W.heap.size W w') :
    Calls P f args W fun e w' => ∃ v pp, e = .returned v ∧ Hid (IsI (gr W pp) v xs) ∧ w' = gr W pp := by
  refine h.mono ?_
  rintro e w' ⟨v, rfl, hI, hB⟩
  obtain ⟨q, rfl⟩ := gr_of_below hB
  exact ⟨v, q, rfl, Lib.hid hI, rfl⟩
theorem bl_rapp {a W : World} {p q : Regrown} (h : Below a.heap.size a (gr W p)) : Below a.heap.size a (gr W (rapp p q)) := by
  rw [← gr_gr]; exact bl_gr h q
theorem wp_world {P : Program} {c : Code} {Q : Exit → Act → World → Prop} {a : Act} {w : World} (C : World → Prop) (hC : C w) (h : ∀ w', C w' → c.wp P Q a w') : c.wp P Q a w := h w hC

def isB (c : CellD) : Bool := c.k == 10 && rightB c
set_option maxRecDepth 100000 in
set_option maxHeartbeats 2000000 in
theorem is_any (sv mv : Value) (c : CellD) (hc : c.ok) (w : World) (h1 : IsV w sv c.sl) (h2 : IsV w mv c.mo) :
    Calls Try.prog 25 #[cellV c.k c.sh c.fl c.ag sv mv] w fun e w' => e = .returned (.bool (isB c)) ∧ Below w.heap.size w w' := by
  have H1 := Lib.hid h1
  have H2 := Lib.hid h2
  have OK := Lib.hid hc
  clear h1 h2 hc
  cases hk : (c.k == 10)
  · have HR := Lib.hid (show isB c = false by simp [isB, hk])
    go_enter Try.func25, Try.ntmps25
    go_wp2
    go_ret
    exact ⟨ret_bool HR.out.symm, by (repeat (with_reducible first | exact Below.refl _ _ | (refine bl_set ?_ (by first | omega | (simp; done) | (simp; omega)) _) | refine bl_gr ?_ _ | refine bl_al ?_ _ | refine below_setRow ?_ (by first | omega | (simp; done) | (simp; omega)) _ | refine bl_drewN ?_ _ | refine Below.drew ?_ | (refine bl_tr ?_ (by assumption))))⟩
  · have HR := Lib.hid (show isB c = rightB c by simp [isB, hk])
    go_enter Try.func25, Try.ntmps25
    go_wp2_with (go_at_call 17; refine (callGr (right_any _ _ c OK.out _ (H1.out.below (by (repeat (with_reducible first | exact Below.refl _ _ | (refine bl_set ?_ (by first | omega | (simp; done) | (simp; omega)) _) | refine bl_gr ?_ _ | refine bl_al ?_ _ | refine below_setRow ?_ (by first | omega | (simp; done) | (simp; omega)) _ | refine bl_drewN ?_ _ | refine Below.drew ?_ | (refine bl_tr ?_ (by assumption)))))) (H2.out.below (by (repeat (with_reducible first | exact Below.refl _ _ | (refine bl_set ?_ (by first | omega | (simp; done) | (simp; omega)) _) | refine bl_gr ?_ _ | refine bl_al ?_ _ | refine below_setRow ?_ (by first | omega | (simp; done) | (simp; omega)) _ | refine bl_drewN ?_ _ | refine Below.drew ?_ | (refine bl_tr ?_ (by assumption)))))))).mono ?_; rintro e w' ⟨pp, rfl, rfl⟩)
    all_goals go_ret
    all_goals exact ⟨ret_bool HR.out.symm, by (repeat (with_reducible first | exact Below.refl _ _ | (refine bl_set ?_ (by first | omega | (simp; done) | (simp; omega)) _) | refine bl_gr ?_ _ | refine bl_al ?_ _ | refine below_setRow ?_ (by first | omega | (simp; done) | (simp; omega)) _ | refine bl_drewN ?_ _ | refine Below.drew ?_ | (refine bl_tr ?_ (by assumption))))⟩
set_option maxRecDepth 100000 in
set_option maxHeartbeats 2000000 in
theorem ris_any (sv mv : Value) (c : CellD) (hc : c.ok) (w : World) (h1 : IsV w sv c.sl) (h2 : IsV w mv c.mo) :
    Calls Try.prog 28 #[cellV c.k c.sh c.fl c.ag sv mv] w fun e w' => e = .returned (.bool (isB c)) ∧ Below w.heap.size w w' := by
  have H1 := Lib.hid h1
  have H2 := Lib.hid h2
  have OK := Lib.hid hc
  clear h1 h2 hc
  cases hk : (c.k == 10)
  · have HR := Lib.hid (show isB c = false by simp [isB, hk])
    go_enter Try.func28, Try.ntmps28
    go_wp2
    go_ret
    exact ⟨ret_bool HR.out.symm, by (repeat (with_reducible first | exact Below.refl _ _ | (refine bl_set ?_ (by first | omega | (simp; done) | (simp; omega)) _) | refine bl_gr ?_ _ | refine bl_al ?_ _ | refine below_setRow ?_ (by first | omega | (simp; done) | (simp; omega)) _ | refine bl_drewN ?_ _ | refine Below.drew ?_ | (refine bl_tr ?_ (by assumption))))⟩
  · have HR := Lib.hid (show isB c = rightB c by simp [isB, hk])
    go_enter Try.func28, Try.ntmps28
    go_wp2_with (go_at_call 41; refine (callGr (rright_any _ _ c OK.out _ (H1.out.below (by (repeat (with_reducible first | exact Below.refl _ _ | (refine bl_set ?_ (by first | omega | (simp; done) | (simp; omega)) _) | refine bl_gr ?_ _ | refine bl_al ?_ _ | refine below_setRow ?_ (by first | omega | (simp; done) | (simp; omega)) _ | refine bl_drewN ?_ _ | refine Below.drew ?_ | (refine bl_tr ?_ (by assumption)))))) (H2.out.below (by (repeat (with_reducible first | exact Below.refl _ _ | (refine bl_set ?_ (by first | omega | (simp; done) | (simp; omega)) _) | refine bl_gr ?_ _ | refine bl_al ?_ _ | refine below_setRow ?_ (by first | omega | (simp; done) | (simp; omega)) _ | refine bl_drewN ?_ _ | refine Below.drew ?_ | (refine bl_tr ?_ (by assumption)))))))).mono ?_; rintro e w' ⟨pp, rfl, rfl⟩)
    all_goals go_ret
    all_goals exact ⟨ret_bool HR.out.symm, by (repeat (with_reducible first | exact Below.refl _ _ | (refine bl_set ?_ (by first | omega | (simp; done) | (simp; omega)) _) | refine bl_gr ?_ _ | refine bl_al ?_ _ | refine below_setRow ?_ (by first | omega | (simp; done) | (simp; omega)) _ | refine bl_drewN ?_ _ | refine Below.drew ?_ | (refine bl_tr ?_ (by assumption))))⟩
/-- a box that holds these values -/
abbrev boxD (l : List Val) : CellD := ⟨11, 0, 0, 0, [], l⟩
theorem boxD_ok {l : List Val} (h : ∀ x ∈ l, x.ok) : (boxD l).ok := ⟨(⟨by decide, by decide⟩ : i64ok 11), (⟨by decide, by decide⟩ : i64ok 0), (⟨by decide, by decide⟩ : i64ok 0), (⟨by decide, by decide⟩ : i64ok 0), fun x hx => (by cases hx), h⟩
theorem right_box {l : List Val} (h : l.length ≤ 1000) : rightB (boxD l) = l.all mayB := by
  have e : headB (boxD l) = true := rfl
  have e2 : slotsB (boxD l) = true := rfl
  have e3 : moreB 11 l = true := by
    have : decide ((1048576 : Int) < l.length) = false := decide_eq_false (by omega)
    simp [moreB, this]
  unfold rightB
  rw [e, e2]
  show (true && (([].all mayB && l.all mayB) && (true && moreB 11 l))) = _
  rw [e3]
  simp
set_option maxRecDepth 100000 in
set_option maxHeartbeats 2000000 in
theorem fmay_any (mv : Value) (l : List Val) (hl : ∀ x ∈ l, x.ok) (hn : l.length ≤ 1000) (w : World) (h : IsV w mv l) :
    Calls Try.prog 31 #[mv] w fun e w' => e = .returned (.bool (l.all mayB)) ∧ Below w.heap.size w w' := by
  obtain ⟨A, n, rfl, _, _⟩ := h.form
  have H := Lib.hid h
  have RB := Lib.hid (fun W h => by have := right_any (.slice none 0 0) (.slice A l.length n) (boxD l) (boxD_ok hl) W .nil_ h; rw [right_box hn] at this; exact this : ∀ (W : World), IsV W (.slice A l.length n) l → Calls Try.prog 17 #[cellV 11 0 0 0 (.slice none 0 0) (.slice A l.length n)] W fun e w' => e = .returned (.bool (l.all mayB)) ∧ Below W.heap.size W w')
  clear h hl hn
  go_enter Try.func31, Try.ntmps31
  go_wp2_with (go_at_call 17; refine (callGr (RB.out _ (H.out.below (by (repeat (with_reducible first | exact Below.refl _ _ | (refine bl_set ?_ (by first | omega | (simp; done) | (simp; omega)) _) | refine bl_gr ?_ _ | refine bl_al ?_ _ | refine below_setRow ?_ (by first | omega | (simp; done) | (simp; omega)) _ | refine bl_drewN ?_ _ | refine Below.drew ?_ | (refine bl_tr ?_ (by assumption)))))))).mono ?_; rintro e w' ⟨pp, rfl, rfl⟩)
  all_goals go_ret
  all_goals exact ⟨rfl, by (repeat (with_reducible first | exact Below.refl _ _ | (refine bl_set ?_ (by first | omega | (simp; done) | (simp; omega)) _) | refine bl_gr ?_ _ | refine bl_al ?_ _ | refine below_setRow ?_ (by first | omega | (simp; done) | (simp; omega)) _ | refine bl_drewN ?_ _ | refine Below.drew ?_ | (refine bl_tr ?_ (by assumption))))⟩
set_option maxRecDepth 100000 in
set_option maxHeartbeats 2000000 in
theorem object_any (n : Int) (w : World) : Calls Try.prog 15 #[.int .i64 n] w fun e w' => e = .returned (⟨7, n, ⟨#[]⟩⟩ : Val).agg ∧ Below w.heap.size w w' := by
  go_enter Try.func15, Try.ntmps15
  go_wp2
  refine bodyPost_ret (v := (⟨7, n, ⟨#[]⟩⟩ : Val).agg) (by simp [results, Try.results15, go_sem]) rfl ⟨rfl, by (repeat (with_reducible first | exact Below.refl _ _ | (refine bl_set ?_ (by first | omega | (simp; done) | (simp; omega)) _) | refine bl_gr ?_ _ | refine bl_al ?_ _ | refine below_setRow ?_ (by first | omega | (simp; done) | (simp; omega)) _ | refine bl_drewN ?_ _ | refine Below.drew ?_ | (refine bl_tr ?_ (by assumption))))⟩
/-- how many entries -/
def lenF (c : CellD) : Nat := if isB c then (c.mo.length - 1) / 4 else 0
set_option maxRecDepth 100000 in
set_option maxHeartbeats 2000000 in
theorem len_any (sv mv : Value) (c : CellD) (hc : c.ok) (w : World) (h1 : IsV w sv c.sl) (h2 : IsV w mv c.mo) (hn : isB c = true → 1 ≤ c.mo.length) (hm : c.mo.length ≤ 1000000) :
    Calls Try.prog 16 #[cellV c.k c.sh c.fl c.ag sv mv] w fun e w' => e = .returned (.int .i64 (lenF c : Nat)) ∧ Below w.heap.size w w' := by
  have H1 := Lib.hid h1
  have H2 := Lib.hid h2
  obtain ⟨A1, n1, rfl, _, _⟩ := h1.form
  obtain ⟨A2, n2, rfl, _, _⟩ := h2.form
  cases hb : isB c
  · have HR := Lib.hid (show lenF c = 0 by simp [lenF, hb])
    have IS := Lib.hid (fun W a b => by have := is_any _ _ c hc W a b; rw [hb] at this; exact this : ∀ (W : World), IsV W (.slice A1 c.sl.length n1) c.sl → IsV W (.slice A2 c.mo.length n2) c.mo → Calls Try.prog 25 #[cellV c.k c.sh c.fl c.ag (.slice A1 c.sl.length n1) (.slice A2 c.mo.length n2)] W fun e w' => e = .returned (.bool false) ∧ Below W.heap.size W w')
    clear hb hc h1 h2
    go_enter Try.func16, Try.ntmps16
    go_wp2_with (go_at_call 25; refine (callGr (IS.out _ (H1.out.below (by (repeat (with_reducible first | exact Below.refl _ _ | (refine bl_set ?_ (by first | omega | (simp; done) | (simp; omega)) _) | refine bl_gr ?_ _ | refine bl_al ?_ _ | refine below_setRow ?_ (by first | omega | (simp; done) | (simp; omega)) _ | refine bl_drewN ?_ _ | refine Below.drew ?_ | (refine bl_tr ?_ (by assumption)))))) (H2.out.below (by (repeat (with_reducible first | exact Below.refl _ _ | (refine bl_set ?_ (by first | omega | (simp; done) | (simp; omega)) _) | refine bl_gr ?_ _ | refine bl_al ?_ _ | refine below_setRow ?_ (by first | omega | (simp; done) | (simp; omega)) _ | refine bl_drewN ?_ _ | refine Below.drew ?_ | (refine bl_tr ?_ (by assumption)))))))).mono ?_; rintro e w' ⟨pp, rfl, rfl⟩)
    go_ret
    exact ⟨by rw [HR.out]; rfl, by (repeat (with_reducible first | exact Below.refl _ _ | (refine bl_set ?_ (by first | omega | (simp; done) | (simp; omega)) _) | refine bl_gr ?_ _ | refine bl_al ?_ _ | refine below_setRow ?_ (by first | omega | (simp; done) | (simp; omega)) _ | refine bl_drewN ?_ _ | refine Below.drew ?_ | (refine bl_tr ?_ (by assumption))))⟩
  · have h0 := hn hb
    have HR := Lib.hid (show (lenF c : Int) = ((c.mo.length : Int) - 1) / 4 by
      simp only [lenF, hb, if_true]
      omega)
    have IS := Lib.hid (fun W a b => by have := is_any _ _ c hc W a b; rw [hb] at this; exact this : ∀ (W : World), IsV W (.slice A1 c.sl.length n1) c.sl → IsV W (.slice A2 c.mo.length n2) c.mo → Calls Try.prog 25 #[cellV c.k c.sh c.fl c.ag (.slice A1 c.sl.length n1) (.slice A2 c.mo.length n2)] W fun e w' => e = .returned (.bool true) ∧ Below W.heap.size W w')
    clear hb hc h1 h2 hn
    go_enter Try.func16, Try.ntmps16
    go_wp2_with (go_at_call 25; refine (callGr (IS.out _ (H1.out.below (by (repeat (with_reducible first | exact Below.refl _ _ | (refine bl_set ?_ (by first | omega | (simp; done) | (simp; omega)) _) | refine bl_gr ?_ _ | refine bl_al ?_ _ | refine below_setRow ?_ (by first | omega | (simp; done) | (simp; omega)) _ | refine bl_drewN ?_ _ | refine Below.drew ?_ | (refine bl_tr ?_ (by assumption)))))) (H2.out.below (by (repeat (with_reducible first | exact Below.refl _ _ | (refine bl_set ?_ (by first | omega | (simp; done) | (simp; omega)) _) | refine bl_gr ?_ _ | refine bl_al ?_ _ | refine below_setRow ?_ (by first | omega | (simp; done) | (simp; omega)) _ | refine bl_drewN ?_ _ | refine Below.drew ?_ | (refine bl_tr ?_ (by assumption)))))))).mono ?_; rintro e w' ⟨pp, rfl, rfl⟩)
    go_ret
    exact ⟨by rw [HR.out]; rfl, by (repeat (with_reducible first | exact Below.refl _ _ | (refine bl_set ?_ (by first | omega | (simp; done) | (simp; omega)) _) | refine bl_gr ?_ _ | refine bl_al ?_ _ | refine below_setRow ?_ (by first | omega | (simp; done) | (simp; omega)) _ | refine bl_drewN ?_ _ | refine Below.drew ?_ | (refine bl_tr ?_ (by assumption))))⟩
end Go.Proofs.Ytokoigjcakgpdaa
