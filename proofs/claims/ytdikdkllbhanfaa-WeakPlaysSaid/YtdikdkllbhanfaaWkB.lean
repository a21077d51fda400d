/- Weak maps: is, may, Len, object. -/
import Derived.Test.YtdikdkllbhanfaaCelV
import Derived.Test.YtdikdkllbhanfaaCelT
import Derived.Test.YtdikdkllbhanfaaCelX
namespace Go.Proofs.Ytdikdkllbhanfaa
set_option linter.all false
open Go.RowKit Go.Sort Go.Deep

theorem callGrV {P : Program} {f : FuncId} {args : Array Value} {W : World} {xs : List Int} (h : Calls P f args W fun e w' => ∃ v, e = .returned v ∧ IsI w' v xs ∧ Below W.heap.size W w') :
    Calls P f args W fun e w' => ∃ v pp, e = .returned v ∧ Hid (IsI (gr W pp) v xs) ∧ w' = gr W pp := by
  refine h.mono ?_
  rintro e w' ⟨v, rfl, hI, hB⟩
  obtain ⟨q, rfl⟩ := gr_of_below hB
  exact ⟨v, q, rfl, Lib.hid hI, rfl⟩
theorem bl_rapp {a W : World} {p q : Regrown} (h : Below a.heap.size a (gr W p)) : Below a.heap.size a (gr W (rapp p q)) := by
  rw [← gr_gr]; exact bl_gr h q
theorem wp_world {P : Program} {c : Code} {Q : Exit → Act → World → Prop} {a : Act} {w : World} (C : World → Prop) (hC : C w) (h : ∀ w', C w' → c.wp P Q a w') : c.wp P Q a w := h w hC

def isW (c : CellD) : Bool := c.k == 8 && rightB c
set_option maxRecDepth 100000 in
set_option maxHeartbeats 2000000 in
theorem is_any (sv mv : Value) (c : CellD) (hc : c.ok) (w : World) (h1 : IsV w sv c.sl) (h2 : IsV w mv c.mo) :
    Calls Try.prog 26 #[cellV c.k c.sh c.fl c.ag sv mv] w fun e w' => e = .returned (.bool (isW c)) ∧ Below w.heap.size w w' := by
  have H1 := Lib.hid h1
  have H2 := Lib.hid h2
  have OK := Lib.hid hc
  clear h1 h2 hc
  cases hk : (c.k == 8)
  · have HR := Lib.hid (show isW c = false by simp [isW, hk])
    go_enter Try.func26, Try.ntmps26
    go_wp2
    go_ret
    exact ⟨ret_bool HR.out.symm, by (repeat (with_reducible first | exact Below.refl _ _ | (refine bl_set ?_ (by first | omega | (simp; done) | (simp; omega)) _) | refine bl_gr ?_ _ | refine bl_al ?_ _ | refine below_setRow ?_ (by first | omega | (simp; done) | (simp; omega)) _ | refine bl_drewN ?_ _ | refine Below.drew ?_ | (refine bl_tr ?_ (by assumption))))⟩
  · have HR := Lib.hid (show isW c = rightB c by simp [isW, hk])
    go_enter Try.func26, Try.ntmps26
    go_wp2_with (go_at_call 43; refine (callGr (right_any _ _ c OK.out _ (H1.out.below (by (repeat (with_reducible first | exact Below.refl _ _ | (refine bl_set ?_ (by first | omega | (simp; done) | (simp; omega)) _) | refine bl_gr ?_ _ | refine bl_al ?_ _ | refine below_setRow ?_ (by first | omega | (simp; done) | (simp; omega)) _ | refine bl_drewN ?_ _ | refine Below.drew ?_ | (refine bl_tr ?_ (by assumption)))))) (H2.out.below (by (repeat (with_reducible first | exact Below.refl _ _ | (refine bl_set ?_ (by first | omega | (simp; done) | (simp; omega)) _) | refine bl_gr ?_ _ | refine bl_al ?_ _ | refine below_setRow ?_ (by first | omega | (simp; done) | (simp; omega)) _ | refine bl_drewN ?_ _ | refine Below.drew ?_ | (refine bl_tr ?_ (by assumption)))))))).mono ?_; rintro e w' ⟨pp, rfl, rfl⟩)
    all_goals go_ret
    all_goals exact ⟨ret_bool HR.out.symm, by (repeat (with_reducible first | exact Below.refl _ _ | (refine bl_set ?_ (by first | omega | (simp; done) | (simp; omega)) _) | refine bl_gr ?_ _ | refine bl_al ?_ _ | refine below_setRow ?_ (by first | omega | (simp; done) | (simp; omega)) _ | refine bl_drewN ?_ _ | refine Below.drew ?_ | (refine bl_tr ?_ (by assumption))))⟩
set_option maxRecDepth 100000 in
set_option maxHeartbeats 2000000 in
theorem ris_any (sv mv : Value) (c : CellD) (hc : c.ok) (w : World) (h1 : IsV w sv c.sl) (h2 : IsV w mv c.mo) :
    Calls Try.prog 32 #[cellV c.k c.sh c.fl c.ag sv mv] w fun e w' => e = .returned (.bool (isW c)) ∧ Below w.heap.size w w' := by
  have H1 := Lib.hid h1
  have H2 := Lib.hid h2
  have OK := Lib.hid hc
  clear h1 h2 hc
  cases hk : (c.k == 8)
  · have HR := Lib.hid (show isW c = false by simp [isW, hk])
    go_enter Try.func32, Try.ntmps32
    go_wp2
    go_ret
    exact ⟨ret_bool HR.out.symm, by (repeat (with_reducible first | exact Below.refl _ _ | (refine bl_set ?_ (by first | omega | (simp; done) | (simp; omega)) _) | refine bl_gr ?_ _ | refine bl_al ?_ _ | refine below_setRow ?_ (by first | omega | (simp; done) | (simp; omega)) _ | refine bl_drewN ?_ _ | refine Below.drew ?_ | (refine bl_tr ?_ (by assumption))))⟩
  · have HR := Lib.hid (show isW c = rightB c by simp [isW, hk])
    go_enter Try.func32, Try.ntmps32
    go_wp2_with (go_at_call 24; refine (callGr (rright_any _ _ c OK.out _ (H1.out.below (by (repeat (with_reducible first | exact Below.refl _ _ | (refine bl_set ?_ (by first | omega | (simp; done) | (simp; omega)) _) | refine bl_gr ?_ _ | refine bl_al ?_ _ | refine below_setRow ?_ (by first | omega | (simp; done) | (simp; omega)) _ | refine bl_drewN ?_ _ | refine Below.drew ?_ | (refine bl_tr ?_ (by assumption)))))) (H2.out.below (by (repeat (with_reducible first | exact Below.refl _ _ | (refine bl_set ?_ (by first | omega | (simp; done) | (simp; omega)) _) | refine bl_gr ?_ _ | refine bl_al ?_ _ | refine below_setRow ?_ (by first | omega | (simp; done) | (simp; omega)) _ | refine bl_drewN ?_ _ | refine Below.drew ?_ | (refine bl_tr ?_ (by assumption)))))))).mono ?_; rintro e w' ⟨pp, rfl, rfl⟩)
    all_goals go_ret
    all_goals exact ⟨ret_bool HR.out.symm, by (repeat (with_reducible first | exact Below.refl _ _ | (refine bl_set ?_ (by first | omega | (simp; done) | (simp; omega)) _) | refine bl_gr ?_ _ | refine bl_al ?_ _ | refine below_setRow ?_ (by first | omega | (simp; done) | (simp; omega)) _ | refine bl_drewN ?_ _ | refine Below.drew ?_ | (refine bl_tr ?_ (by assumption))))⟩
/-- a box that holds these values -/
abbrev boxD (l : List Val) : CellD := ⟨11, 0, 0, 0, [], l⟩
theorem boxD_ok {l : List Val} (h : ∀ x ∈ l, x.ok) : (boxD l).ok := ⟨(⟨by decide, by decide⟩ : i64ok 11), (⟨by decide, by decide⟩ : i64ok 0), (⟨by decide, by decide⟩ : i64ok 0), (⟨by decide, by decide⟩ : i64ok 0), fun x hx => (by cases hx), h⟩
theorem right_box {l : List Val} (h : l.length ≤ 1000) : rightB (boxD l) = l.all mayB := by
  have e : headB (boxD l) = true := rfl
  have e2 : slotsB (boxD l) = true := rfl
  have e3 : moreB 11 l = true := by
    have : decide ((1048576 : Int) < l.length) = false := decide_eq_false (by omega)
    simp [moreB, this]
  unfold rightB
  rw [e, e2]
  show (true && (([].all mayB && l.all mayB) && (true && moreB 11 l))) = _
  rw [e3]
  simp
theorem lit_valsB {W : World} {l : List Val} {o : Array Value} {k B : Nat} (hB : B = W.heap.size) (hk : l.length = k) (ho : o.toList = flat Val.cs l) (hm : k ≤ 10) : IsV (W.alloc (.cells o 34)) (.slice (some ⟨B, 0, none⟩) k k) l := by
  subst hk hB
  refine ownsRow_slOf (base := 0) (e := 34) (fun _ => rfl) ?_
  rw [← ho]
  exact World.ownsRow_lit W o l.length (Nat.zero_le _) (by unfold maxLen; omega) (by rw [← Array.length_toList, ho, flat_len cs_len])
set_option maxRecDepth 100000 in
set_option maxHeartbeats 2000000 in
theorem wmay_any (v : Val) (hv : v.ok) (w : World) :
    Calls Try.prog 35 #[v.agg] w fun e w' => e = .returned (.bool (mayB v)) ∧ Below w.heap.size w w' := by
  have RB := Lib.hid (fun W mv h => by have := right_any (.slice none 0 0) mv (boxD [v]) (boxD_ok (by intro x hx; rw [List.mem_singleton.1 hx]; exact hv)) W .nil_ h; rw [right_box (by simp)] at this; simpa using this : ∀ (W : World) (mv : Value), IsV W mv [v] → Calls Try.prog 43 #[cellV 11 0 0 0 (.slice none 0 0) mv] W fun e w' => e = .returned (.bool (mayB v)) ∧ Below W.heap.size W w')
  clear hv
  go_enter Try.func35, Try.ntmps35
  go_wp2_with (go_at_call 43; refine (callGr (RB.out _ _ (lit_valsB (l := [v]) (k := 1) ?_ rfl rfl (by omega)))).mono ?_; (next => simp [gr_size]); rintro e w' ⟨pp, rfl, rfl⟩)
  all_goals go_ret
  all_goals exact ⟨rfl, by (repeat (with_reducible first | exact Below.refl _ _ | (refine bl_set ?_ (by first | omega | (simp; done) | (simp; omega)) _) | refine bl_gr ?_ _ | refine bl_al ?_ _ | refine below_setRow ?_ (by first | omega | (simp; done) | (simp; omega)) _ | refine bl_drewN ?_ _ | refine Below.drew ?_ | (refine bl_tr ?_ (by assumption))))⟩
set_option maxRecDepth 100000 in
set_option maxHeartbeats 2000000 in
theorem rwmay_any (v : Val) (hv : v.s.size ≤ maxLen) (w : World) :
    Calls Try.prog 37 #[v.agg] w fun e w' => e = .returned (.bool (mayB v)) ∧ Below w.heap.size w w' := by
  have MB := Lib.hid (fun W => May_any v W hv)
  clear hv
  go_enter Try.func37, Try.ntmps37
  go_wp2_with (go_at_call 40; refine (callGr (MB.out _)).mono ?_; rintro e w' ⟨pp, rfl, rfl⟩)
  all_goals go_ret
  all_goals exact ⟨rfl, by (repeat (with_reducible first | exact Below.refl _ _ | (refine bl_set ?_ (by first | omega | (simp; done) | (simp; omega)) _) | refine bl_gr ?_ _ | refine bl_al ?_ _ | refine below_setRow ?_ (by first | omega | (simp; done) | (simp; omega)) _ | refine bl_drewN ?_ _ | refine Below.drew ?_ | (refine bl_tr ?_ (by assumption))))⟩
set_option maxRecDepth 100000 in
set_option maxHeartbeats 2000000 in
theorem object_any (n : Int) (w : World) : Calls Try.prog 25 #[.int .i64 n] w fun e w' => e = .returned (⟨7, n, ⟨#[]⟩⟩ : Val).agg ∧ Below w.heap.size w w' := by
  go_enter Try.func25, Try.ntmps25
  go_wp2
  refine bodyPost_ret (v := (⟨7, n, ⟨#[]⟩⟩ : Val).agg) (by simp [results, Try.results25, go_sem]) rfl ⟨rfl, by (repeat (with_reducible first | exact Below.refl _ _ | (refine bl_set ?_ (by first | omega | (simp; done) | (simp; omega)) _) | refine bl_gr ?_ _ | refine bl_al ?_ _ | refine below_setRow ?_ (by first | omega | (simp; done) | (simp; omega)) _ | refine bl_drewN ?_ _ | refine Below.drew ?_ | (refine bl_tr ?_ (by assumption))))⟩
/-- how many entries -/
def lenW (c : CellD) : Nat := if isW c then c.mo.length / 2 else 0
set_option maxRecDepth 100000 in
set_option maxHeartbeats 2000000 in
theorem len_any (sv mv : Value) (c : CellD) (hc : c.ok) (w : World) (h1 : IsV w sv c.sl) (h2 : IsV w mv c.mo) :
    Calls Try.prog 22 #[cellV c.k c.sh c.fl c.ag sv mv] w fun e w' => e = .returned (.int .i64 (lenW c : Nat)) ∧ Below w.heap.size w w' := by
  have H1 := Lib.hid h1
  have H2 := Lib.hid h2
  obtain ⟨A1, n1, rfl, _, _⟩ := h1.form
  obtain ⟨A2, n2, rfl, _, hm2⟩ := h2.form
  unfold maxLen at hm2
  cases hb : isW c
  · have HR := Lib.hid (show lenW c = 0 by simp [lenW, hb])
    have IS := Lib.hid (fun W a b => by have := is_any _ _ c hc W a b; rw [hb] at this; exact this : ∀ (W : World), IsV W (.slice A1 c.sl.length n1) c.sl → IsV W (.slice A2 c.mo.length n2) c.mo → Calls Try.prog 26 #[cellV c.k c.sh c.fl c.ag (.slice A1 c.sl.length n1) (.slice A2 c.mo.length n2)] W fun e w' => e = .returned (.bool false) ∧ Below W.heap.size W w')
    clear hb hc h1 h2
    go_enter Try.func22, Try.ntmps22
    go_wp2_with (go_at_call 26; refine (callGr (IS.out _ (H1.out.below (by (repeat (with_reducible first | exact Below.refl _ _ | (refine bl_set ?_ (by first | omega | (simp; done) | (simp; omega)) _) | refine bl_gr ?_ _ | refine bl_al ?_ _ | refine below_setRow ?_ (by first | omega | (simp; done) | (simp; omega)) _ | refine bl_drewN ?_ _ | refine Below.drew ?_ | (refine bl_tr ?_ (by assumption)))))) (H2.out.below (by (repeat (with_reducible first | exact Below.refl _ _ | (refine bl_set ?_ (by first | omega | (simp; done) | (simp; omega)) _) | refine bl_gr ?_ _ | refine bl_al ?_ _ | refine below_setRow ?_ (by first | omega | (simp; done) | (simp; omega)) _ | refine bl_drewN ?_ _ | refine Below.drew ?_ | (refine bl_tr ?_ (by assumption)))))))).mono ?_; rintro e w' ⟨pp, rfl, rfl⟩)
    go_ret
    exact ⟨by rw [HR.out]; rfl, by (repeat (with_reducible first | exact Below.refl _ _ | (refine bl_set ?_ (by first | omega | (simp; done) | (simp; omega)) _) | refine bl_gr ?_ _ | refine bl_al ?_ _ | refine below_setRow ?_ (by first | omega | (simp; done) | (simp; omega)) _ | refine bl_drewN ?_ _ | refine Below.drew ?_ | (refine bl_tr ?_ (by assumption))))⟩
  · have HR := Lib.hid (show (lenW c : Int) = (c.mo.length : Int) / 2 by
      simp only [lenW, hb, if_true]
      omega)
    have IS := Lib.hid (fun W a b => by have := is_any _ _ c hc W a b; rw [hb] at this; exact this : ∀ (W : World), IsV W (.slice A1 c.sl.length n1) c.sl → IsV W (.slice A2 c.mo.length n2) c.mo → Calls Try.prog 26 #[cellV c.k c.sh c.fl c.ag (.slice A1 c.sl.length n1) (.slice A2 c.mo.length n2)] W fun e w' => e = .returned (.bool true) ∧ Below W.heap.size W w')
    clear hb hc h1 h2
    go_enter Try.func22, Try.ntmps22
    go_wp2_with (go_at_call 26; refine (callGr (IS.out _ (H1.out.below (by (repeat (with_reducible first | exact Below.refl _ _ | (refine bl_set ?_ (by first | omega | (simp; done) | (simp; omega)) _) | refine bl_gr ?_ _ | refine bl_al ?_ _ | refine below_setRow ?_ (by first | omega | (simp; done) | (simp; omega)) _ | refine bl_drewN ?_ _ | refine Below.drew ?_ | (refine bl_tr ?_ (by assumption)))))) (H2.out.below (by (repeat (with_reducible first | exact Below.refl _ _ | (refine bl_set ?_ (by first | omega | (simp; done) | (simp; omega)) _) | refine bl_gr ?_ _ | refine bl_al ?_ _ | refine below_setRow ?_ (by first | omega | (simp; done) | (simp; omega)) _ | refine bl_drewN ?_ _ | refine Below.drew ?_ | (refine bl_tr ?_ (by assumption)))))))).mono ?_; rintro e w' ⟨pp, rfl, rfl⟩)
    go_ret
    exact ⟨by rw [HR.out]; rfl, by (repeat (with_reducible first | exact Below.refl _ _ | (refine bl_set ?_ (by first | omega | (simp; done) | (simp; omega)) _) | refine bl_gr ?_ _ | refine bl_al ?_ _ | refine below_setRow ?_ (by first | omega | (simp; done) | (simp; omega)) _ | refine bl_drewN ?_ _ | refine Below.drew ?_ | (refine bl_tr ?_ (by assumption))))⟩
set_option maxRecDepth 100000 in
set_option maxHeartbeats 2000000 in
theorem rlen_any (sv mv : Value) (c : CellD) (hc : c.ok) (w : World) (h1 : IsV w sv c.sl) (h2 : IsV w mv c.mo) :
    Calls Try.prog 23 #[cellV c.k c.sh c.fl c.ag sv mv] w fun e w' => e = .returned (.int .i64 (lenW c : Nat)) ∧ Below w.heap.size w w' := by
  have H1 := Lib.hid h1
  have H2 := Lib.hid h2
  obtain ⟨A1, n1, rfl, _, _⟩ := h1.form
  obtain ⟨A2, n2, rfl, _, hm2⟩ := h2.form
  unfold maxLen at hm2
  cases hb : isW c
  · have HR := Lib.hid (show lenW c = 0 by simp [lenW, hb])
    have IS := Lib.hid (fun W a b => by have := ris_any _ _ c hc W a b; rw [hb] at this; exact this : ∀ (W : World), IsV W (.slice A1 c.sl.length n1) c.sl → IsV W (.slice A2 c.mo.length n2) c.mo → Calls Try.prog 32 #[cellV c.k c.sh c.fl c.ag (.slice A1 c.sl.length n1) (.slice A2 c.mo.length n2)] W fun e w' => e = .returned (.bool false) ∧ Below W.heap.size W w')
    clear hb hc h1 h2
    go_enter Try.func23, Try.ntmps23
    go_wp2_with (go_at_call 32; refine (callGr (IS.out _ (H1.out.below (by (repeat (with_reducible first | exact Below.refl _ _ | (refine bl_set ?_ (by first | omega | (simp; done) | (simp; omega)) _) | refine bl_gr ?_ _ | refine bl_al ?_ _ | refine below_setRow ?_ (by first | omega | (simp; done) | (simp; omega)) _ | refine bl_drewN ?_ _ | refine Below.drew ?_ | (refine bl_tr ?_ (by assumption)))))) (H2.out.below (by (repeat (with_reducible first | exact Below.refl _ _ | (refine bl_set ?_ (by first | omega | (simp; done) | (simp; omega)) _) | refine bl_gr ?_ _ | refine bl_al ?_ _ | refine below_setRow ?_ (by first | omega | (simp; done) | (simp; omega)) _ | refine bl_drewN ?_ _ | refine Below.drew ?_ | (refine bl_tr ?_ (by assumption)))))))).mono ?_; rintro e w' ⟨pp, rfl, rfl⟩)
    go_ret
    exact ⟨by rw [HR.out]; rfl, by (repeat (with_reducible first | exact Below.refl _ _ | (refine bl_set ?_ (by first | omega | (simp; done) | (simp; omega)) _) | refine bl_gr ?_ _ | refine bl_al ?_ _ | refine below_setRow ?_ (by first | omega | (simp; done) | (simp; omega)) _ | refine bl_drewN ?_ _ | refine Below.drew ?_ | (refine bl_tr ?_ (by assumption))))⟩
  · have HR := Lib.hid (show (lenW c : Int) = (c.mo.length : Int) / 2 by
      simp only [lenW, hb, if_true]
      omega)
    have IS := Lib.hid (fun W a b => by have := ris_any _ _ c hc W a b; rw [hb] at this; exact this : ∀ (W : World), IsV W (.slice A1 c.sl.length n1) c.sl → IsV W (.slice A2 c.mo.length n2) c.mo → Calls Try.prog 32 #[cellV c.k c.sh c.fl c.ag (.slice A1 c.sl.length n1) (.slice A2 c.mo.length n2)] W fun e w' => e = .returned (.bool true) ∧ Below W.heap.size W w')
    clear hb hc h1 h2
    go_enter Try.func23, Try.ntmps23
    go_wp2_with (go_at_call 32; refine (callGr (IS.out _ (H1.out.below (by (repeat (with_reducible first | exact Below.refl _ _ | (refine bl_set ?_ (by first | omega | (simp; done) | (simp; omega)) _) | refine bl_gr ?_ _ | refine bl_al ?_ _ | refine below_setRow ?_ (by first | omega | (simp; done) | (simp; omega)) _ | refine bl_drewN ?_ _ | refine Below.drew ?_ | (refine bl_tr ?_ (by assumption)))))) (H2.out.below (by (repeat (with_reducible first | exact Below.refl _ _ | (refine bl_set ?_ (by first | omega | (simp; done) | (simp; omega)) _) | refine bl_gr ?_ _ | refine bl_al ?_ _ | refine below_setRow ?_ (by first | omega | (simp; done) | (simp; omega)) _ | refine bl_drewN ?_ _ | refine Below.drew ?_ | (refine bl_tr ?_ (by assumption)))))))).mono ?_; rintro e w' ⟨pp, rfl, rfl⟩)
    go_ret
    exact ⟨by rw [HR.out]; rfl, by (repeat (with_reducible first | exact Below.refl _ _ | (refine bl_set ?_ (by first | omega | (simp; done) | (simp; omega)) _) | refine bl_gr ?_ _ | refine bl_al ?_ _ | refine below_setRow ?_ (by first | omega | (simp; done) | (simp; omega)) _ | refine bl_drewN ?_ _ | refine Below.drew ?_ | (refine bl_tr ?_ (by assumption))))⟩
end Go.Proofs.Ytdikdkllbhanfaa
