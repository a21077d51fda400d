/- Registries: Remove, Clean and their references where they refuse; what they are. -/
import Derived.Test.YtokoigjcakgpdaaFinP
import Derived.Test.YtokoigjcakgpdaaFinN
namespace Go.Proofs.Ytokoigjcakgpdaa
set_option linter.all false
open Go.RowKit Go.Sort Go.Deep Go.Shelf
attribute [local go_sem] Oper.semAt_some

set_option maxRecDepth 100000 in
set_option maxHeartbeats 4000000 in
theorem rem_no (sv mv : Value) (c : CellD) (tk : Val) (hc : c.ok) (w : World) (h1 : IsV w sv c.sl) (h2 : IsV w mv c.mo) (hb : isB c = false) :
    Calls Try.prog 21 #[cellV c.k c.sh c.fl c.ag sv mv, tk.agg] w fun e w' => e = .returned (.tuple #[cellV 0 0 0 0 (.slice none 0 0) (.slice none 0 0), .bool false]) ∧ Below w.heap.size w w' := by
  obtain ⟨A0, n0, rfl, _, _⟩ := h1.form
  obtain ⟨A2, n2, rfl, _, _⟩ := h2.form
  have H1 := Lib.hid h1
  have H2 := Lib.hid h2
  have IS := Lib.hid (fun W a b => by have := is_any _ _ c hc W a b; rw [hb] at this; exact this : ∀ (W : World), IsV W (.slice A0 c.sl.length n0) c.sl → IsV W (.slice A2 c.mo.length n2) c.mo → Calls Try.prog 25 #[cellV c.k c.sh c.fl c.ag (.slice A0 c.sl.length n0) (.slice A2 c.mo.length n2)] W fun e w' => e = .returned (.bool false) ∧ Below W.heap.size W w')
  clear h1 h2 hc hb
  refine callsIn_wide.1 (callsIn_of_wp_marks (n := 9) Try.func21 rfl trivial ?_ rfl)
  refine wpIn_wide.2 ?_
  simp only [Try.ntmps21, List.size_toArray, List.length_cons, List.length_nil, Nat.reduceAdd, Nat.reduceSub, Array.replicate_succ, Array.replicate_zero, List.push_toArray, List.append_toArray, List.nil_append, List.cons_append]
  go_upto_region 1 with fail
  refine wp_world (fun W => W.heap[w.heap.size]? = some (cellO c.k c.sh c.fl c.ag (.slice A0 c.sl.length n0) (.slice A2 c.mo.length n2)) ∧ W.heap[w.heap.size + 1]? = some (valB tk) ∧ W.heap[w.heap.size + 1 + 1]? = some (cellO 0 0 0 0 (.slice none 0 0) (.slice none 0 0)) ∧ Below w.heap.size w W) (heap3 w _ _ _) ?_
  rintro W ⟨j1, j2, j3, jb⟩
  have l0 : w.heap.size < W.heap.size := (Array.getElem?_eq_some_iff.1 j1).1
  have l2 : w.heap.size + 1 + 1 < W.heap.size := (Array.getElem?_eq_some_iff.1 j3).1
  have J := Lib.hid (And.intro j3 jb)
  have I1 := Lib.hid (H1.out.below jb)
  have I2 := Lib.hid (H2.out.below jb)
  obtain ⟨⟨a0, a1, a2, a3, a4, a5⟩, _⟩ := cells6 j1
  clear j1 j2 j3 jb H1 H2
  go_upto_region 2 with (go_at_call 25; refine (callGr (IS.out _ (I1.out.below (by (repeat (with_reducible first | exact Below.refl _ _ | (refine bl_set ?_ (by first | omega | (simp; done) | (simp; omega)) _) | refine bl_gr ?_ _ | refine bl_al ?_ _ | refine below_setRow ?_ (by first | omega | (simp; done) | (simp; omega)) _ | refine bl_drewN ?_ _ | refine Below.drew ?_ | (refine bl_tr ?_ (by assumption)))))) (I2.out.below (by (repeat (with_reducible first | exact Below.refl _ _ | (refine bl_set ?_ (by first | omega | (simp; done) | (simp; omega)) _) | refine bl_gr ?_ _ | refine bl_al ?_ _ | refine below_setRow ?_ (by first | omega | (simp; done) | (simp; omega)) _ | refine bl_drewN ?_ _ | refine Below.drew ?_ | (refine bl_tr ?_ (by assumption)))))))).mono ?_; rintro e w' ⟨pp, rfl, rfl⟩)
  refine wp_world (fun X => Below W.heap.size W X) (by (repeat (with_reducible first | exact Below.refl _ _ | (refine bl_set ?_ (by first | omega | (simp; done) | (simp; omega)) _) | refine bl_gr ?_ _ | refine bl_al ?_ _ | refine below_setRow ?_ (by first | omega | (simp; done) | (simp; omega)) _ | refine bl_drewN ?_ _ | refine Below.drew ?_ | (refine bl_tr ?_ (by assumption))))) ?_
  intro X hX
  have X4 := Lib.hid ((hX.block _ l2).trans J.out.1)
  have XB := Lib.hid (J.out.2.trans (hX.mono J.out.2.size))
  clear hX a0 a1 a2 a3 a4 a5
  obtain ⟨⟨x0, x1, x2, x3, x4, x5⟩, y0, y1, y2, y3, y4, y5⟩ := cells6 X4.out
  go_wp2_with fail
  refine post_world (fun Y => Y.heap[w.heap.size + 1 + 1]? = some (cellO 0 0 0 0 (.slice none 0 0) (.slice none 0 0)) ∧ Below w.heap.size w Y) (set6 XB.out X4.out (by omega)) ?_
  rintro Y ⟨z0, zb⟩
  have ZB := Lib.hid zb
  clear x0 x1 x2 x3 x4 x5 y0 y1 y2 y3 y4 y5 zb
  obtain ⟨⟨b0, b1, b2, b3, b4, b5⟩, _⟩ := cells6 z0
  refine marks_ret0 (v := .tuple #[cellV 0 0 0 0 (.slice none 0 0) (.slice none 0 0), .bool false]) (by clear z0; simp [results, Try.results21, go_sem, *]) rfl ⟨rfl, ZB.out⟩
set_option maxRecDepth 100000 in
set_option maxHeartbeats 4000000 in
theorem rrem_no (sv mv : Value) (c : CellD) (tk : Val) (hc : c.ok) (w : World) (h1 : IsV w sv c.sl) (h2 : IsV w mv c.mo) (hb : isB c = false) :
    Calls Try.prog 22 #[cellV c.k c.sh c.fl c.ag sv mv, tk.agg] w fun e w' => e = .returned (.tuple #[cellV 0 0 0 0 (.slice none 0 0) (.slice none 0 0), .bool false]) ∧ Below w.heap.size w w' := by
  obtain ⟨A0, n0, rfl, _, _⟩ := h1.form
  obtain ⟨A2, n2, rfl, _, _⟩ := h2.form
  have H1 := Lib.hid h1
  have H2 := Lib.hid h2
  have IS := Lib.hid (fun W a b => by have := ris_any _ _ c hc W a b; rw [hb] at this; exact this : ∀ (W : World), IsV W (.slice A0 c.sl.length n0) c.sl → IsV W (.slice A2 c.mo.length n2) c.mo → Calls Try.prog 28 #[cellV c.k c.sh c.fl c.ag (.slice A0 c.sl.length n0) (.slice A2 c.mo.length n2)] W fun e w' => e = .returned (.bool false) ∧ Below W.heap.size W w')
  clear h1 h2 hc hb
  go_enter Try.func22, Try.ntmps22
  go_upto_region 1 with fail
  refine wp_world (fun W => W.heap[w.heap.size]? = some (cellO c.k c.sh c.fl c.ag (.slice A0 c.sl.length n0) (.slice A2 c.mo.length n2)) ∧ W.heap[w.heap.size + 1]? = some (valB tk) ∧ W.heap[w.heap.size + 1 + 1]? = some (cellO 0 0 0 0 (.slice none 0 0) (.slice none 0 0)) ∧ Below w.heap.size w W) (heap3 w _ _ _) ?_
  rintro W ⟨j1, j2, j3, jb⟩
  have l0 : w.heap.size < W.heap.size := (Array.getElem?_eq_some_iff.1 j1).1
  have l2 : w.heap.size + 1 + 1 < W.heap.size := (Array.getElem?_eq_some_iff.1 j3).1
  have J := Lib.hid (And.intro j3 jb)
  have I1 := Lib.hid (H1.out.below jb)
  have I2 := Lib.hid (H2.out.below jb)
  obtain ⟨⟨a0, a1, a2, a3, a4, a5⟩, _⟩ := cells6 j1
  clear j1 j2 j3 jb H1 H2
  go_upto_region 2 with (go_at_call 28; refine (callGr (IS.out _ (I1.out.below (by (repeat (with_reducible first | exact Below.refl _ _ | (refine bl_set ?_ (by first | omega | (simp; done) | (simp; omega)) _) | refine bl_gr ?_ _ | refine bl_al ?_ _ | refine below_setRow ?_ (by first | omega | (simp; done) | (simp; omega)) _ | refine bl_drewN ?_ _ | refine Below.drew ?_ | (refine bl_tr ?_ (by assumption)))))) (I2.out.below (by (repeat (with_reducible first | exact Below.refl _ _ | (refine bl_set ?_ (by first | omega | (simp; done) | (simp; omega)) _) | refine bl_gr ?_ _ | refine bl_al ?_ _ | refine below_setRow ?_ (by first | omega | (simp; done) | (simp; omega)) _ | refine bl_drewN ?_ _ | refine Below.drew ?_ | (refine bl_tr ?_ (by assumption)))))))).mono ?_; rintro e w' ⟨pp, rfl, rfl⟩)
  refine wp_world (fun X => Below W.heap.size W X) (by (repeat (with_reducible first | exact Below.refl _ _ | (refine bl_set ?_ (by first | omega | (simp; done) | (simp; omega)) _) | refine bl_gr ?_ _ | refine bl_al ?_ _ | refine below_setRow ?_ (by first | omega | (simp; done) | (simp; omega)) _ | refine bl_drewN ?_ _ | refine Below.drew ?_ | (refine bl_tr ?_ (by assumption))))) ?_
  intro X hX
  have X4 := Lib.hid ((hX.block _ l2).trans J.out.1)
  have XB := Lib.hid (J.out.2.trans (hX.mono J.out.2.size))
  clear hX a0 a1 a2 a3 a4 a5
  obtain ⟨⟨x0, x1, x2, x3, x4, x5⟩, y0, y1, y2, y3, y4, y5⟩ := cells6 X4.out
  go_wp2_with fail
  refine bp_world (fun Y => Y.heap[w.heap.size + 1 + 1]? = some (cellO 0 0 0 0 (.slice none 0 0) (.slice none 0 0)) ∧ Below w.heap.size w Y) (set6 XB.out X4.out (by omega)) ?_
  rintro Y ⟨z0, zb⟩
  have ZB := Lib.hid zb
  clear x0 x1 x2 x3 x4 x5 y0 y1 y2 y3 y4 y5 zb
  obtain ⟨⟨b0, b1, b2, b3, b4, b5⟩, _⟩ := cells6 z0
  refine bodyPost_ret (v := .tuple #[cellV 0 0 0 0 (.slice none 0 0) (.slice none 0 0), .bool false]) (by clear z0; simp [results, Try.results22, go_sem, *]) rfl ⟨rfl, ZB.out⟩

/-- what Remove is -/
def remC (c : CellD) (tk : Val) : CellD := if isB c then ⟨c.k, c.sh, c.fl, c.ag, c.sl, remD tk c.mo (List.finRange ((c.mo.length - 1) / 4))⟩ else zeroC
def remG (c : CellD) (tk : Val) : Bool := if isB c then goneD tk c.mo (List.finRange ((c.mo.length - 1) / 4)) else false
theorem rem_any (sv mv : Value) (c : CellD) (tk : Val) (hc : c.ok) (hf : c.fit) (hm : c.mo.length ≤ 4001) (w : World) (h1 : IsV w sv c.sl) (h2 : IsV w mv c.mo) :
    Calls Try.prog 21 #[cellV c.k c.sh c.fl c.ag sv mv, tk.agg] w (RetC w (remC c tk) (.bool (remG c tk))) := by
  cases hb : isB c
  · refine (rem_no sv mv c tk hc w h1 h2 hb).mono ?_
    rintro e w' ⟨rfl, hB⟩
    rw [show remC c tk = zeroC by simp [remC, hb], show remG c tk = false by simp [remG, hb]]
    exact ⟨_, _, rfl, .nil_, .nil_, hB⟩
  · obtain ⟨m, hl, _⟩ := reg_len hb
    have hm2 : m ≤ 1000 := by omega
    refine (rem_yes sv mv c tk hc hf m hl hm2 w h1 h2 hb).mono ?_
    rintro e w' ⟨s, mm, rfl, e1, e2, hB⟩
    have em : m = (c.mo.length - 1) / 4 := by omega
    subst em
    rw [show remC c tk = ⟨c.k, c.sh, c.fl, c.ag, c.sl, remD tk c.mo (List.finRange ((c.mo.length - 1) / 4))⟩ by simp only [remC, hb, if_true], show remG c tk = goneD tk c.mo (List.finRange ((c.mo.length - 1) / 4)) by simp only [remG, hb, if_true]]
    exact ⟨_, _, rfl, e1, e2, hB⟩
theorem rrem_any (sv mv : Value) (c : CellD) (tk : Val) (hc : c.ok) (hf : c.fit) (hm : c.mo.length ≤ 4001) (w : World) (h1 : IsV w sv c.sl) (h2 : IsV w mv c.mo) :
    Calls Try.prog 22 #[cellV c.k c.sh c.fl c.ag sv mv, tk.agg] w (RetC w (remC c tk) (.bool (remG c tk))) := by
  cases hb : isB c
  · refine (rrem_no sv mv c tk hc w h1 h2 hb).mono ?_
    rintro e w' ⟨rfl, hB⟩
    rw [show remC c tk = zeroC by simp [remC, hb], show remG c tk = false by simp [remG, hb]]
    exact ⟨_, _, rfl, .nil_, .nil_, hB⟩
  · obtain ⟨m, hl, _⟩ := reg_len hb
    have hm2 : m ≤ 1000 := by omega
    refine (rrem_yes sv mv c tk hc hf m hl hm2 w h1 h2 hb).mono ?_
    rintro e w' ⟨s, mm, rfl, e1, e2, hB⟩
    have em : m = (c.mo.length - 1) / 4 := by omega
    subst em
    rw [show remC c tk = ⟨c.k, c.sh, c.fl, c.ag, c.sl, remD tk c.mo (List.finRange ((c.mo.length - 1) / 4))⟩ by simp only [remC, hb, if_true], show remG c tk = goneD tk c.mo (List.finRange ((c.mo.length - 1) / 4)) by simp only [remG, hb, if_true]]
    exact ⟨_, _, rfl, e1, e2, hB⟩
set_option maxRecDepth 100000 in
set_option maxHeartbeats 2000000 in
theorem rlen_any (sv mv : Value) (c : CellD) (hc : c.ok) (w : World) (h1 : IsV w sv c.sl) (h2 : IsV w mv c.mo) (hn : isB c = true → 1 ≤ c.mo.length) (hm : c.mo.length ≤ 1000000) :
    Calls Try.prog 23 #[cellV c.k c.sh c.fl c.ag sv mv] w fun e w' => e = .returned (.int .i64 (lenF c : Nat)) ∧ Below w.heap.size w w' := by
  have H1 := Lib.hid h1
  have H2 := Lib.hid h2
  obtain ⟨A1, n1, rfl, _, _⟩ := h1.form
  obtain ⟨A2, n2, rfl, _, _⟩ := h2.form
  cases hb : isB c
  · have HR := Lib.hid (show lenF c = 0 by simp [lenF, hb])
    have IS := Lib.hid (fun W a b => by have := ris_any _ _ c hc W a b; rw [hb] at this; exact this : ∀ (W : World), IsV W (.slice A1 c.sl.length n1) c.sl → IsV W (.slice A2 c.mo.length n2) c.mo → Calls Try.prog 28 #[cellV c.k c.sh c.fl c.ag (.slice A1 c.sl.length n1) (.slice A2 c.mo.length n2)] W fun e w' => e = .returned (.bool false) ∧ Below W.heap.size W w')
    clear hb hc h1 h2
    go_enter Try.func23, Try.ntmps23
    go_wp2_with (go_at_call 28; refine (callGr (IS.out _ (H1.out.below (by (repeat (with_reducible first | exact Below.refl _ _ | (refine bl_set ?_ (by first | omega | (simp; done) | (simp; omega)) _) | refine bl_gr ?_ _ | refine bl_al ?_ _ | refine below_setRow ?_ (by first | omega | (simp; done) | (simp; omega)) _ | refine bl_drewN ?_ _ | refine Below.drew ?_ | (refine bl_tr ?_ (by assumption)))))) (H2.out.below (by (repeat (with_reducible first | exact Below.refl _ _ | (refine bl_set ?_ (by first | omega | (simp; done) | (simp; omega)) _) | refine bl_gr ?_ _ | refine bl_al ?_ _ | refine below_setRow ?_ (by first | omega | (simp; done) | (simp; omega)) _ | refine bl_drewN ?_ _ | refine Below.drew ?_ | (refine bl_tr ?_ (by assumption)))))))).mono ?_; rintro e w' ⟨pp, rfl, rfl⟩)
    go_ret
    exact ⟨by rw [HR.out]; rfl, by (repeat (with_reducible first | exact Below.refl _ _ | (refine bl_set ?_ (by first | omega | (simp; done) | (simp; omega)) _) | refine bl_gr ?_ _ | refine bl_al ?_ _ | refine below_setRow ?_ (by first | omega | (simp; done) | (simp; omega)) _ | refine bl_drewN ?_ _ | refine Below.drew ?_ | (refine bl_tr ?_ (by assumption))))⟩
  · have h0 := hn hb
    have HR := Lib.hid (show (lenF c : Int) = ((c.mo.length : Int) - 1) / 4 by
      simp only [lenF, hb, if_true]
      omega)
    have IS := Lib.hid (fun W a b => by have := ris_any _ _ c hc W a b; rw [hb] at this; exact this : ∀ (W : World), IsV W (.slice A1 c.sl.length n1) c.sl → IsV W (.slice A2 c.mo.length n2) c.mo → Calls Try.prog 28 #[cellV c.k c.sh c.fl c.ag (.slice A1 c.sl.length n1) (.slice A2 c.mo.length n2)] W fun e w' => e = .returned (.bool true) ∧ Below W.heap.size W w')
    clear hb hc h1 h2 hn
    go_enter Try.func23, Try.ntmps23
    go_wp2_with (go_at_call 28; refine (callGr (IS.out _ (H1.out.below (by (repeat (with_reducible first | exact Below.refl _ _ | (refine bl_set ?_ (by first | omega | (simp; done) | (simp; omega)) _) | refine bl_gr ?_ _ | refine bl_al ?_ _ | refine below_setRow ?_ (by first | omega | (simp; done) | (simp; omega)) _ | refine bl_drewN ?_ _ | refine Below.drew ?_ | (refine bl_tr ?_ (by assumption)))))) (H2.out.below (by (repeat (with_reducible first | exact Below.refl _ _ | (refine bl_set ?_ (by first | omega | (simp; done) | (simp; omega)) _) | refine bl_gr ?_ _ | refine bl_al ?_ _ | refine below_setRow ?_ (by first | omega | (simp; done) | (simp; omega)) _ | refine bl_drewN ?_ _ | refine Below.drew ?_ | (refine bl_tr ?_ (by assumption)))))))).mono ?_; rintro e w' ⟨pp, rfl, rfl⟩)
    go_ret
    exact ⟨by rw [HR.out]; rfl, by (repeat (with_reducible first | exact Below.refl _ _ | (refine bl_set ?_ (by first | omega | (simp; done) | (simp; omega)) _) | refine bl_gr ?_ _ | refine bl_al ?_ _ | refine below_setRow ?_ (by first | omega | (simp; done) | (simp; omega)) _ | refine bl_drewN ?_ _ | refine Below.drew ?_ | (refine bl_tr ?_ (by assumption))))⟩
end Go.Proofs.Ytokoigjcakgpdaa
