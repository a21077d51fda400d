/- Registries: the reference's Add where it refuses. -/
import Derived.Test.YtokoigjcakgpdaaFinJ
namespace Go.Proofs.Ytokoigjcakgpdaa
set_option linter.all false
open Go.RowKit Go.Sort Go.Deep

/-- the reference's refusals, in their order -/
def refR (t h k : Val) (s : Int) : Prop :=
  (t.k != 7) = true ∨ ((t.k != 7) = false ∧ (k.k != 7) = true ∧ (k.k != 0) = true) ∨
  ((t.k != 7) = false ∧ ((k.k != 7) = false ∨ (k.k != 7) = true ∧ (k.k != 0) = false) ∧ (mayB t = false ∨ (mayB t = true ∧ mayB h = false) ∨ (mayB t = true ∧ mayB h = true ∧ mayB k = false) ∨
    (mayB t = true ∧ mayB h = true ∧ mayB k = true ∧ ((h.k == 8) = true ∨ ((h.k == 8) = false ∧ (h.k == 9) = true) ∨ ((h.k == 8) = false ∧ (h.k == 9) = false ∧ s < 0) ∨ ((h.k == 8) = false ∧ (h.k == 9) = false ∧ ¬ s < 0 ∧ 9007199254740992 < s)))))
set_option maxRecDepth 100000 in
set_option maxHeartbeats 8000000 in
theorem radd_err (sv mv : Value) (c : CellD) (t h k : Val) (s : Int) (E : Int) (hc : c.ok) (ht : t.ok) (hh : h.ok) (hk : k.ok) (w : World) (h1 : IsV w sv c.sl) (h2 : IsV w mv c.mo)
    (hE : isB c = false ∧ E = 51 ∨ isB c = true ∧ E = 1 ∧ refR t h k s) :
    Calls Try.prog 20 #[cellV c.k c.sh c.fl c.ag sv mv, t.agg, h.agg, k.agg, .int .i64 s] w fun e w' => e = .returned (.tuple #[cellV 0 0 0 0 (.slice none 0 0) (.slice none 0 0), .int .i64 E]) ∧ Below w.heap.size w w' := by
  obtain ⟨A0, n0, rfl, _, _⟩ := h1.form
  obtain ⟨A2, n2, rfl, _, _⟩ := h2.form
  have H1 := Lib.hid h1
  have H2 := Lib.hid h2
  obtain ⟨BC, hBC⟩ : ∃ B, B = isB c := ⟨_, rfl⟩
  obtain ⟨MT, hMT⟩ : ∃ B, B = mayB t := ⟨_, rfl⟩
  obtain ⟨MH, hMH⟩ : ∃ B, B = mayB h := ⟨_, rfl⟩
  obtain ⟨MK, hMK⟩ : ∃ B, B = mayB k := ⟨_, rfl⟩
  have IS := Lib.hid (fun W a b => by have := ris_any _ _ c hc W a b; rw [← hBC] at this; exact this : ∀ (W : World), IsV W (.slice A0 c.sl.length n0) c.sl → IsV W (.slice A2 c.mo.length n2) c.mo → Calls Try.prog 28 #[cellV c.k c.sh c.fl c.ag (.slice A0 c.sl.length n0) (.slice A2 c.mo.length n2)] W fun e w' => e = .returned (.bool BC) ∧ Below W.heap.size W w')
  have YT := Lib.hid (fun W => by have := May_any t W ht.2.2; rw [← hMT] at this; exact this : ∀ (W : World), Calls Try.prog 38 #[t.agg] W fun e w' => e = .returned (.bool MT) ∧ Below W.heap.size W w')
  have YH := Lib.hid (fun W => by have := May_any h W hh.2.2; rw [← hMH] at this; exact this : ∀ (W : World), Calls Try.prog 38 #[h.agg] W fun e w' => e = .returned (.bool MH) ∧ Below W.heap.size W w')
  have YK := Lib.hid (fun W => by have := May_any k W hk.2.2; rw [← hMK] at this; exact this : ∀ (W : World), Calls Try.prog 38 #[k.agg] W fun e w' => e = .returned (.bool MK) ∧ Below W.heap.size W w')
  rw [← hBC] at hE
  unfold refR at hE
  rw [← hMT, ← hMH, ← hMK] at hE
  clear h1 h2 hc ht hh hk hBC hMT hMH hMK
  go_enter Try.func20, Try.ntmps20
  go_upto_region 1 with fail
  refine wp_world (fun W => W.heap[w.heap.size]? = some (cellO c.k c.sh c.fl c.ag (.slice A0 c.sl.length n0) (.slice A2 c.mo.length n2)) ∧ W.heap[w.heap.size + 1]? = some (valB t) ∧ W.heap[w.heap.size + 1 + 1]? = some (valB h) ∧ W.heap[w.heap.size + 1 + 1 + 1]? = some (valB k) ∧ W.heap[w.heap.size + 1 + 1 + 1 + 1]? = some (cellO 0 0 0 0 (.slice none 0 0) (.slice none 0 0)) ∧ Below w.heap.size w W) (heap5 w _ _ _ _ _) ?_
  rintro W ⟨j0, j1, j2, j3, j4, jb⟩
  have JJ := Lib.hid (And.intro j0 (And.intro j4 jb))
  have l0 : w.heap.size < W.heap.size := (Array.getElem?_eq_some_iff.1 j0).1
  have l1 : w.heap.size + 1 < W.heap.size := (Array.getElem?_eq_some_iff.1 j1).1
  have l2 : w.heap.size + 1 + 1 < W.heap.size := (Array.getElem?_eq_some_iff.1 j2).1
  have l3 : w.heap.size + 1 + 1 + 1 < W.heap.size := (Array.getElem?_eq_some_iff.1 j3).1
  have l4 : w.heap.size + 1 + 1 + 1 + 1 < W.heap.size := (Array.getElem?_eq_some_iff.1 j4).1
  obtain ⟨⟨b0, b1, b2, b3, b4, b5⟩, f0, f1, f2, f3, f4, f5⟩ := cells6 j0
  obtain ⟨t0, t1, t2⟩ := cells3 j1
  obtain ⟨h0, h1, h2⟩ := cells3 j2
  obtain ⟨k0, k1, k2⟩ := cells3 j3
  clear j0 j1 j2 j3 j4 jb
  rcases hE with ⟨rfl, rfl⟩ | ⟨rfl, rfl, hE⟩
  · go_upto_region 2 with (go_at_call 28; refine (callGr (IS.out _ (H1.out.below (JJ.out.2.2.trans (by (repeat (with_reducible first | exact Below.refl _ _ | (refine bl_set ?_ (by first | omega | (simp; done) | (simp; omega)) _) | refine bl_gr ?_ _ | refine bl_al ?_ _ | refine below_setRow ?_ (by first | omega | (simp; done) | (simp; omega)) _ | refine bl_drewN ?_ _ | refine Below.drew ?_ | (refine bl_tr ?_ (by assumption))))))) (H2.out.below (JJ.out.2.2.trans (by (repeat (with_reducible first | exact Below.refl _ _ | (refine bl_set ?_ (by first | omega | (simp; done) | (simp; omega)) _) | refine bl_gr ?_ _ | refine bl_al ?_ _ | refine below_setRow ?_ (by first | omega | (simp; done) | (simp; omega)) _ | refine bl_drewN ?_ _ | refine Below.drew ?_ | (refine bl_tr ?_ (by assumption))))))))).mono ?_; rintro e w' ⟨pp, rfl, rfl⟩)
    refine wp_world (fun X => Below W.heap.size W X) (by (repeat (with_reducible first | exact Below.refl _ _ | (refine bl_set ?_ (by first | omega | (simp; done) | (simp; omega)) _) | refine bl_gr ?_ _ | refine bl_al ?_ _ | refine below_setRow ?_ (by first | omega | (simp; done) | (simp; omega)) _ | refine bl_drewN ?_ _ | refine Below.drew ?_ | (refine bl_tr ?_ (by assumption))))) ?_
    intro X hX
    have X4 := Lib.hid ((hX.block _ l4).trans JJ.out.2.1)
    have XB := Lib.hid (JJ.out.2.2.trans (hX.mono JJ.out.2.2.size))
    clear b0 b1 b2 b3 b4 b5 f0 f1 f2 f3 f4 f5 t0 t1 t2 h0 h1 h2 k0 k1 k2 hX
    obtain ⟨⟨x0, x1, x2, x3, x4, x5⟩, y0, y1, y2, y3, y4, y5⟩ := cells6 X4.out
    go_wp2_with fail
    refine bp_world (fun Y => Y.heap[w.heap.size + 1 + 1 + 1 + 1]? = some (cellO 0 0 0 0 (.slice none 0 0) (.slice none 0 0)) ∧ Below w.heap.size w Y) (set6 XB.out X4.out (by omega)) ?_
    rintro Y ⟨z0, zb⟩
    clear x0 x1 x2 x3 x4 x5 y0 y1 y2 y3 y4 y5
    obtain ⟨⟨b0, b1, b2, b3, b4, b5⟩, _⟩ := cells6 z0
    refine bodyPost_ret (v := .tuple #[cellV 0 0 0 0 (.slice none 0 0) (.slice none 0 0), .int .i64 51]) (by clear zb z0; simp [results, Try.results20, go_sem, *]) rfl ⟨rfl, zb⟩
  rcases hE with a1 | ⟨a1, a2, a3⟩ | ⟨a1, a2 | ⟨a2, a3⟩, hE⟩
  rotate_left 2
  all_goals try rcases hE with rfl | ⟨rfl, rfl⟩ | ⟨rfl, rfl, rfl⟩ | ⟨rfl, rfl, rfl, a4 | ⟨a4, a5⟩ | ⟨a4, a5, a6⟩ | ⟨a4, a5, a6, a7⟩⟩
  all_goals
    go_upto_region 4 with (first
      | (go_at_call 28; refine (callGr (IS.out _ (H1.out.below (JJ.out.2.2.trans (by (repeat (with_reducible first | exact Below.refl _ _ | (refine bl_set ?_ (by first | omega | (simp; done) | (simp; omega)) _) | refine bl_gr ?_ _ | refine bl_al ?_ _ | refine below_setRow ?_ (by first | omega | (simp; done) | (simp; omega)) _ | refine bl_drewN ?_ _ | refine Below.drew ?_ | (refine bl_tr ?_ (by assumption))))))) (H2.out.below (JJ.out.2.2.trans (by (repeat (with_reducible first | exact Below.refl _ _ | (refine bl_set ?_ (by first | omega | (simp; done) | (simp; omega)) _) | refine bl_gr ?_ _ | refine bl_al ?_ _ | refine below_setRow ?_ (by first | omega | (simp; done) | (simp; omega)) _ | refine bl_drewN ?_ _ | refine Below.drew ?_ | (refine bl_tr ?_ (by assumption))))))))).mono ?_; rintro e w' ⟨pp, rfl, rfl⟩)
      | (go_at_call_of 38 (t.n); refine (callGr (YT.out _)).mono ?_; rintro e w' ⟨pp, rfl, rfl⟩)
      | (go_at_call_of 38 (h.n); refine (callGr (YH.out _)).mono ?_; rintro e w' ⟨pp, rfl, rfl⟩)
      | (go_at_call_of 38 (k.n); refine (callGr (YK.out _)).mono ?_; rintro e w' ⟨pp, rfl, rfl⟩))
    refine wp_world (fun X => Below W.heap.size W X) (by (repeat (with_reducible first | exact Below.refl _ _ | (refine bl_set ?_ (by first | omega | (simp; done) | (simp; omega)) _) | refine bl_gr ?_ _ | refine bl_al ?_ _ | refine below_setRow ?_ (by first | omega | (simp; done) | (simp; omega)) _ | refine bl_drewN ?_ _ | refine Below.drew ?_ | (refine bl_tr ?_ (by assumption))))) ?_
    intro X hX
    have X4 := Lib.hid ((hX.block _ l4).trans JJ.out.2.1)
    have XB := Lib.hid (JJ.out.2.2.trans (hX.mono JJ.out.2.2.size))
    clear b0 b1 b2 b3 b4 b5 f0 f1 f2 f3 f4 f5 t0 t1 t2 h0 h1 h2 k0 k1 k2 hX
    obtain ⟨⟨x0, x1, x2, x3, x4, x5⟩, y0, y1, y2, y3, y4, y5⟩ := cells6 X4.out
    go_wp2_with fail
    refine bp_world (fun Y => Y.heap[w.heap.size + 1 + 1 + 1 + 1]? = some (cellO 0 0 0 0 (.slice none 0 0) (.slice none 0 0)) ∧ Below w.heap.size w Y) (set6 XB.out X4.out (by omega)) ?_
    rintro Y ⟨z0, zb⟩
    clear x0 x1 x2 x3 x4 x5 y0 y1 y2 y3 y4 y5
    obtain ⟨⟨b0, b1, b2, b3, b4, b5⟩, _⟩ := cells6 z0
    refine bodyPost_ret (v := .tuple #[cellV 0 0 0 0 (.slice none 0 0) (.slice none 0 0), .int .i64 1]) (by clear zb z0; simp [results, Try.results20, go_sem, *]) rfl ⟨rfl, zb⟩
end Go.Proofs.Ytokoigjcakgpdaa
