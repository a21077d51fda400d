/- Registries: Clean where it refuses; what it is. -/
import Derived.Test.YtokoigjcakgpdaaFinS
namespace Go.Proofs.Ytokoigjcakgpdaa
set_option linter.all false
open Go.RowKit Go.Sort Go.Deep Go.Shelf
attribute [local go_sem] Oper.semAt_some

set_option maxRecDepth 100000 in
set_option maxHeartbeats 4000000 in
theorem clean_no (sv mv lv : Value) (c : CellD) (live : List Int) (hc : c.ok) (w : World) (h1 : IsV w sv c.sl) (h2 : IsV w mv c.mo) (h3 : IsI w lv live) (hb : isB c = false) :
    Calls Try.prog 10 #[cellV c.k c.sh c.fl c.ag sv mv, lv] w fun e w' => e = .returned (.tuple #[cellV 0 0 0 0 (.slice none 0 0) (.slice none 0 0), .slice none 0 0]) ∧ Below w.heap.size w w' := by
  obtain ⟨A0, n0, rfl, _, _⟩ := h1.form
  obtain ⟨A2, n2, rfl, _, _⟩ := h2.form
  obtain ⟨A3, n3, rfl, _, _⟩ := h3.form
  have H1 := Lib.hid h1
  have H2 := Lib.hid h2
  have IS := Lib.hid (fun W a b => by have := is_any _ _ c hc W a b; rw [hb] at this; exact this : ∀ (W : World), IsV W (.slice A0 c.sl.length n0) c.sl → IsV W (.slice A2 c.mo.length n2) c.mo → Calls Try.prog 25 #[cellV c.k c.sh c.fl c.ag (.slice A0 c.sl.length n0) (.slice A2 c.mo.length n2)] W fun e w' => e = .returned (.bool false) ∧ Below W.heap.size W w')
  clear h1 h2 h3 hc hb
  refine callsIn_wide.1 (callsIn_of_wp_marks (n := 9) Try.func10 rfl trivial ?_ rfl)
  refine wpIn_wide.2 ?_
  simp only [Try.ntmps10, List.size_toArray, List.length_cons, List.length_nil, Nat.reduceAdd, Nat.reduceSub, Array.replicate_succ, Array.replicate_zero, List.push_toArray, List.append_toArray, List.nil_append, List.cons_append]
  go_upto_region 1 with fail
  refine wp_world (fun W => W.heap[w.heap.size]? = some (cellO c.k c.sh c.fl c.ag (.slice A0 c.sl.length n0) (.slice A2 c.mo.length n2)) ∧ W.heap[w.heap.size + 1]? = some (cellO 0 0 0 0 (.slice none 0 0) (.slice none 0 0)) ∧ Below w.heap.size w W) (heap2 w _ _) ?_
  rintro W ⟨j1, j3, jb⟩
  have l0 : w.heap.size < W.heap.size := (Array.getElem?_eq_some_iff.1 j1).1
  have l2 : w.heap.size + 1 < W.heap.size := (Array.getElem?_eq_some_iff.1 j3).1
  have J := Lib.hid (And.intro j3 jb)
  have I1 := Lib.hid (H1.out.below jb)
  have I2 := Lib.hid (H2.out.below jb)
  obtain ⟨⟨a0, a1, a2, a3, a4, a5⟩, _⟩ := cells6 j1
  clear j1 j3 jb H1 H2
  go_upto_region 2 with (go_at_call 25; refine (callGr (IS.out _ (I1.out.below (by (repeat (with_reducible first | exact Below.refl _ _ | (refine bl_set ?_ (by first | omega | (simp; done) | (simp; omega)) _) | refine bl_gr ?_ _ | refine bl_al ?_ _ | refine below_setRow ?_ (by first | omega | (simp; done) | (simp; omega)) _ | refine bl_drewN ?_ _ | refine Below.drew ?_ | (refine bl_tr ?_ (by assumption)))))) (I2.out.below (by (repeat (with_reducible first | exact Below.refl _ _ | (refine bl_set ?_ (by first | omega | (simp; done) | (simp; omega)) _) | refine bl_gr ?_ _ | refine bl_al ?_ _ | refine below_setRow ?_ (by first | omega | (simp; done) | (simp; omega)) _ | refine bl_drewN ?_ _ | refine Below.drew ?_ | (refine bl_tr ?_ (by assumption)))))))).mono ?_; rintro e w' ⟨pp, rfl, rfl⟩)
  refine wp_world (fun X => Below W.heap.size W X) (by (repeat (with_reducible first | exact Below.refl _ _ | (refine bl_set ?_ (by first | omega | (simp; done) | (simp; omega)) _) | refine bl_gr ?_ _ | refine bl_al ?_ _ | refine below_setRow ?_ (by first | omega | (simp; done) | (simp; omega)) _ | refine bl_drewN ?_ _ | refine Below.drew ?_ | (refine bl_tr ?_ (by assumption))))) ?_
  intro X hX
  have X4 := Lib.hid ((hX.block _ l2).trans J.out.1)
  have XB := Lib.hid (J.out.2.trans (hX.mono J.out.2.size))
  clear hX a0 a1 a2 a3 a4 a5
  obtain ⟨⟨x0, x1, x2, x3, x4, x5⟩, y0, y1, y2, y3, y4, y5⟩ := cells6 X4.out
  go_wp2_with fail
  refine post_world (fun Y => Y.heap[w.heap.size + 1]? = some (cellO 0 0 0 0 (.slice none 0 0) (.slice none 0 0)) ∧ Below w.heap.size w Y) (set6 XB.out X4.out (by omega)) ?_
  rintro Y ⟨z0, zb⟩
  have ZB := Lib.hid zb
  clear x0 x1 x2 x3 x4 x5 y0 y1 y2 y3 y4 y5 zb
  obtain ⟨⟨b0, b1, b2, b3, b4, b5⟩, _⟩ := cells6 z0
  refine marks_ret0 (v := .tuple #[cellV 0 0 0 0 (.slice none 0 0) (.slice none 0 0), .slice none 0 0]) (by clear z0; simp [results, Try.results10, go_sem, *]) rfl ⟨rfl, ZB.out⟩
set_option maxRecDepth 100000 in
set_option maxHeartbeats 4000000 in
theorem rclean_no (sv mv lv : Value) (c : CellD) (live : List Int) (hc : c.ok) (w : World) (h1 : IsV w sv c.sl) (h2 : IsV w mv c.mo) (h3 : IsI w lv live) (hb : isB c = false) :
    Calls Try.prog 11 #[cellV c.k c.sh c.fl c.ag sv mv, lv] w fun e w' => e = .returned (.tuple #[cellV 0 0 0 0 (.slice none 0 0) (.slice none 0 0), .slice none 0 0]) ∧ Below w.heap.size w w' := by
  obtain ⟨A0, n0, rfl, _, _⟩ := h1.form
  obtain ⟨A2, n2, rfl, _, _⟩ := h2.form
  obtain ⟨A3, n3, rfl, _, _⟩ := h3.form
  have H1 := Lib.hid h1
  have H2 := Lib.hid h2
  have IS := Lib.hid (fun W a b => by have := ris_any _ _ c hc W a b; rw [hb] at this; exact this : ∀ (W : World), IsV W (.slice A0 c.sl.length n0) c.sl → IsV W (.slice A2 c.mo.length n2) c.mo → Calls Try.prog 28 #[cellV c.k c.sh c.fl c.ag (.slice A0 c.sl.length n0) (.slice A2 c.mo.length n2)] W fun e w' => e = .returned (.bool false) ∧ Below W.heap.size W w')
  clear h1 h2 h3 hc hb
  go_enter Try.func11, Try.ntmps11
  go_upto_region 1 with fail
  refine wp_world (fun W => W.heap[w.heap.size]? = some (cellO c.k c.sh c.fl c.ag (.slice A0 c.sl.length n0) (.slice A2 c.mo.length n2)) ∧ W.heap[w.heap.size + 1]? = some (cellO 0 0 0 0 (.slice none 0 0) (.slice none 0 0)) ∧ Below w.heap.size w W) (heap2 w _ _) ?_
  rintro W ⟨j1, j3, jb⟩
  have l0 : w.heap.size < W.heap.size := (Array.getElem?_eq_some_iff.1 j1).1
  have l2 : w.heap.size + 1 < W.heap.size := (Array.getElem?_eq_some_iff.1 j3).1
  have J := Lib.hid (And.intro j3 jb)
  have I1 := Lib.hid (H1.out.below jb)
  have I2 := Lib.hid (H2.out.below jb)
  obtain ⟨⟨a0, a1, a2, a3, a4, a5⟩, _⟩ := cells6 j1
  clear j1 j3 jb H1 H2
  go_upto_region 2 with (go_at_call 28; refine (callGr (IS.out _ (I1.out.below (by (repeat (with_reducible first | exact Below.refl _ _ | (refine bl_set ?_ (by first | omega | (simp; done) | (simp; omega)) _) | refine bl_gr ?_ _ | refine bl_al ?_ _ | refine below_setRow ?_ (by first | omega | (simp; done) | (simp; omega)) _ | refine bl_drewN ?_ _ | refine Below.drew ?_ | (refine bl_tr ?_ (by assumption)))))) (I2.out.below (by (repeat (with_reducible first | exact Below.refl _ _ | (refine bl_set ?_ (by first | omega | (simp; done) | (simp; omega)) _) | refine bl_gr ?_ _ | refine bl_al ?_ _ | refine below_setRow ?_ (by first | omega | (simp; done) | (simp; omega)) _ | refine bl_drewN ?_ _ | refine Below.drew ?_ | (refine bl_tr ?_ (by assumption)))))))).mono ?_; rintro e w' ⟨pp, rfl, rfl⟩)
  refine wp_world (fun X => Below W.heap.size W X) (by (repeat (with_reducible first | exact Below.refl _ _ | (refine bl_set ?_ (by first | omega | (simp; done) | (simp; omega)) _) | refine bl_gr ?_ _ | refine bl_al ?_ _ | refine below_setRow ?_ (by first | omega | (simp; done) | (simp; omega)) _ | refine bl_drewN ?_ _ | refine Below.drew ?_ | (refine bl_tr ?_ (by assumption))))) ?_
  intro X hX
  have X4 := Lib.hid ((hX.block _ l2).trans J.out.1)
  have XB := Lib.hid (J.out.2.trans (hX.mono J.out.2.size))
  clear hX a0 a1 a2 a3 a4 a5
  obtain ⟨⟨x0, x1, x2, x3, x4, x5⟩, y0, y1, y2, y3, y4, y5⟩ := cells6 X4.out
  go_wp2_with fail
  refine bp_world (fun Y => Y.heap[w.heap.size + 1]? = some (cellO 0 0 0 0 (.slice none 0 0) (.slice none 0 0)) ∧ Below w.heap.size w Y) (set6 XB.out X4.out (by omega)) ?_
  rintro Y ⟨z0, zb⟩
  have ZB := Lib.hid zb
  clear x0 x1 x2 x3 x4 x5 y0 y1 y2 y3 y4 y5 zb
  obtain ⟨⟨b0, b1, b2, b3, b4, b5⟩, _⟩ := cells6 z0
  refine bodyPost_ret (v := .tuple #[cellV 0 0 0 0 (.slice none 0 0) (.slice none 0 0), .slice none 0 0]) (by clear z0; simp [results, Try.results11, go_sem, *]) rfl ⟨rfl, ZB.out⟩

/-- what Clean is -/
def cleanC (c : CellD) (live : List Int) : CellD := if isB c then ⟨c.k, c.sh, c.fl, c.ag, c.sl, keptD (inB live) c.mo (List.finRange ((c.mo.length - 1) / 4))⟩ else zeroC
def cleanT (c : CellD) (live : List Int) : List Val := if isB c then toldsD (inB live) c.mo (List.finRange ((c.mo.length - 1) / 4)) else []
def RetT (w : World) (D : CellD) (xs : List Val) (e : Ending) (w' : World) : Prop := ∃ A n A' n' A'' n'', e = .returned (.tuple #[cellV D.k D.sh D.fl D.ag (.slice A D.sl.length n) (.slice A' D.mo.length n'), .slice A'' xs.length n'']) ∧ IsV w' (.slice A D.sl.length n) D.sl ∧ IsV w' (.slice A' D.mo.length n') D.mo ∧ IsV w' (.slice A'' xs.length n'') xs ∧ Below w.heap.size w w'
theorem retT_of {w w' : World} {s m t : Value} {D : CellD} {xs : List Val} (h1 : IsV w' s D.sl) (h2 : IsV w' m D.mo) (h3 : IsV w' t xs) (hB : Below w.heap.size w w') : RetT w D xs (.returned (.tuple #[cellV D.k D.sh D.fl D.ag s m, t])) w' := by
  obtain ⟨A5, n5, rfl, _, _⟩ := h1.form
  obtain ⟨A6, n6, rfl, _, _⟩ := h2.form
  obtain ⟨A7, n7, rfl, _, _⟩ := h3.form
  exact ⟨_, _, _, _, _, _, rfl, h1, h2, h3, hB⟩
theorem clean_all (sv mv lv : Value) (c : CellD) (live : List Int) (hc : c.ok) (hf : c.fit) (hm : c.mo.length ≤ 4001) (hll : live.length ≤ 100000) (hlo : ∀ x ∈ live, i64ok x) (w : World) (h1 : IsV w sv c.sl) (h2 : IsV w mv c.mo) (h3 : IsI w lv live) :
    Calls Try.prog 10 #[cellV c.k c.sh c.fl c.ag sv mv, lv] w (RetT w (cleanC c live) (cleanT c live)) := by
  cases hb : isB c
  · refine (clean_no sv mv lv c live hc w h1 h2 h3 hb).mono ?_
    rintro e w' ⟨rfl, hB⟩
    rw [show cleanC c live = zeroC by simp [cleanC, hb], show cleanT c live = [] by simp [cleanT, hb]]
    exact retT_of (D := zeroC) (xs := []) .nil_ .nil_ .nil_ hB
  · obtain ⟨m, hl, _⟩ := reg_len hb
    have hm2 : m ≤ 1000 := by omega
    refine (clean_any sv mv lv c live (inB live) (fun _ => rfl) hc hf hll hlo m hl hm2 w h1 h2 h3 hb).mono ?_
    rintro e w' ⟨s, mm, t, rfl, e1, e2, e3, hB⟩
    have em : m = (c.mo.length - 1) / 4 := by omega
    subst em
    rw [show cleanC c live = ⟨c.k, c.sh, c.fl, c.ag, c.sl, keptD (inB live) c.mo (List.finRange ((c.mo.length - 1) / 4))⟩ by simp only [cleanC, hb, if_true], show cleanT c live = toldsD (inB live) c.mo (List.finRange ((c.mo.length - 1) / 4)) by simp only [cleanT, hb, if_true]]
    exact retT_of (D := ⟨c.k, c.sh, c.fl, c.ag, c.sl, keptD (inB live) c.mo (List.finRange ((c.mo.length - 1) / 4))⟩) e1 e2 e3 hB
theorem rclean_all (sv mv lv : Value) (c : CellD) (live : List Int) (hc : c.ok) (hf : c.fit) (hm : c.mo.length ≤ 4001) (w : World) (h1 : IsV w sv c.sl) (h2 : IsV w mv c.mo) (h3 : IsI w lv live) :
    Calls Try.prog 11 #[cellV c.k c.sh c.fl c.ag sv mv, lv] w (RetT w (cleanC c live) (cleanT c live)) := by
  cases hb : isB c
  · refine (rclean_no sv mv lv c live hc w h1 h2 h3 hb).mono ?_
    rintro e w' ⟨rfl, hB⟩
    rw [show cleanC c live = zeroC by simp [cleanC, hb], show cleanT c live = [] by simp [cleanT, hb]]
    exact retT_of (D := zeroC) (xs := []) .nil_ .nil_ .nil_ hB
  · obtain ⟨m, hl, _⟩ := reg_len hb
    have hm2 : m ≤ 1000 := by omega
    refine (rclean_yes sv mv lv c live hc hf m hl hm2 w h1 h2 h3 hb).mono ?_
    rintro e w' ⟨s, mm, t, rfl, e1, e2, e3, hB⟩
    have em : m = (c.mo.length - 1) / 4 := by omega
    subst em
    rw [show cleanC c live = ⟨c.k, c.sh, c.fl, c.ag, c.sl, keptD (inB live) c.mo (List.finRange ((c.mo.length - 1) / 4))⟩ by simp only [cleanC, hb, if_true], show cleanT c live = toldsD (inB live) c.mo (List.finRange ((c.mo.length - 1) / 4)) by simp only [cleanT, hb, if_true]]
    exact retT_of (D := ⟨c.k, c.sh, c.fl, c.ag, c.sl, keptD (inB live) c.mo (List.finRange ((c.mo.length - 1) / 4))⟩) e1 e2 e3 hB
end Go.Proofs.Ytokoigjcakgpdaa
