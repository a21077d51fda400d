/- Weak maps: the reference's Delete and Clean of any cell. -/
import Derived.Test.YtdikdkllbhanfaaWkO
namespace Go.Proofs.Ytdikdkllbhanfaa
set_option linter.all false
open Go.RowKit Go.Sort Go.Deep Go.Shelf

set_option maxRecDepth 100000 in
set_option maxHeartbeats 8000000 in
theorem rdelete_no (sv mv : Value) (c : CellD) (key : Val) (hc : c.ok) (w : World) (h1 : IsV w sv c.sl) (h2 : IsV w mv c.mo) (hb : isW c = false) :
    Calls Try.prog 19 #[cellV c.k c.sh c.fl c.ag sv mv, key.agg] w (RetP w zeroC (.bool false)) := by
  obtain ⟨A0, n0, rfl, _, _⟩ := h1.form
  obtain ⟨A2, n2, rfl, _, _⟩ := h2.form
  have H1 := Lib.hid h1
  have H2 := Lib.hid h2
  have IS := Lib.hid (fun W a b => by have := ris_any _ _ c hc W a b; rw [hb] at this; exact this : ∀ (W : World), IsV W (.slice A0 c.sl.length n0) c.sl → IsV W (.slice A2 c.mo.length n2) c.mo → Calls Try.prog 32 #[cellV c.k c.sh c.fl c.ag (.slice A0 c.sl.length n0) (.slice A2 c.mo.length n2)] W fun e w' => e = .returned (.bool false) ∧ Below W.heap.size W w')
  clear h1 h2 hc hb
  go_enter Try.func19, Try.ntmps19
  go_upto_region 1 with fail
  refine wp_world (fun W => W.heap[w.heap.size]? = some (cellO c.k c.sh c.fl c.ag (.slice A0 c.sl.length n0) (.slice A2 c.mo.length n2)) ∧ W.heap[w.heap.size + 1]? = some (valB key) ∧ W.heap[w.heap.size + 1 + 1]? = some (cellO 0 0 0 0 (.slice none 0 0) (.slice none 0 0)) ∧ Below w.heap.size w W) (heap3 w _ _ _) ?_
  rintro W ⟨j1, j2, j3, jb⟩
  have l0 : w.heap.size < W.heap.size := (Array.getElem?_eq_some_iff.1 j1).1
  have l1 : w.heap.size + 1 < W.heap.size := (Array.getElem?_eq_some_iff.1 j2).1
  have l2 : w.heap.size + 1 + 1 < W.heap.size := (Array.getElem?_eq_some_iff.1 j3).1
  have KR := Lib.hid (show ∀ X, Below W.heap.size W X → X.heap[w.heap.size + 1 + 1]? = some (cellO 0 0 0 0 (.slice none 0 0) (.slice none 0 0)) from fun X h => (h.block _ l2).trans j3)
  have BW := Lib.hid jb
  have I1 := Lib.hid (H1.out.below jb)
  have I2 := Lib.hid (H2.out.below jb)
  obtain ⟨⟨a0, a1, a2, a3, a4, a5⟩, _⟩ := cells6 j1
  clear j1 j2 j3 jb H1 H2
  go_upto_region 2 with (go_at_call 32; refine (callGr (IS.out _ (I1.out.below (by (repeat (with_reducible first | exact Below.refl _ _ | (refine bl_set ?_ (by first | omega | (simp; done) | (simp; omega)) _) | refine bl_gr ?_ _ | refine bl_al ?_ _ | refine below_setRow ?_ (by first | omega | (simp; done) | (simp; omega)) _ | refine bl_drewN ?_ _ | refine Below.drew ?_ | (refine bl_tr ?_ (by assumption)))))) (I2.out.below (by (repeat (with_reducible first | exact Below.refl _ _ | (refine bl_set ?_ (by first | omega | (simp; done) | (simp; omega)) _) | refine bl_gr ?_ _ | refine bl_al ?_ _ | refine below_setRow ?_ (by first | omega | (simp; done) | (simp; omega)) _ | refine bl_drewN ?_ _ | refine Below.drew ?_ | (refine bl_tr ?_ (by assumption)))))))).mono ?_; rintro e w' ⟨pp, rfl, rfl⟩)
  refine wp_world (fun X => Below W.heap.size W X) (by (repeat (with_reducible first | exact Below.refl _ _ | (refine bl_set ?_ (by first | omega | (simp; done) | (simp; omega)) _) | refine bl_gr ?_ _ | refine bl_al ?_ _ | refine below_setRow ?_ (by first | omega | (simp; done) | (simp; omega)) _ | refine bl_drewN ?_ _ | refine Below.drew ?_ | (refine bl_tr ?_ (by assumption))))) ?_
  intro X hX
  have X4 := Lib.hid (KR.out X hX)
  have XB := Lib.hid (bl_tr BW.out hX)
  have lX := hX.size
  clear hX a0 a1 a2 a3 a4 a5
  obtain ⟨⟨x0, x1, x2, x3, x4, x5⟩, y0, y1, y2, y3, y4, y5⟩ := cells6 X4.out
  go_wp2_with fail
  refine wp_post (fun Y => Y.heap[w.heap.size + 1 + 1]? = some (cellO 0 0 0 0 (.slice none 0 0) (.slice none 0 0)) ∧ Touch (fun b => b = w.heap.size + 1 + 1) X Y ∧ Below w.heap.size w Y) (put6 XB.out (by omega) X4.out) ?_
  rintro Y ⟨z0, _, zb⟩
  have ZB := Lib.hid zb
  clear x0 x1 x2 x3 x4 x5 y0 y1 y2 y3 y4 y5 zb
  obtain ⟨⟨b0, b1, b2, b3, b4, b5⟩, _⟩ := cells6 z0
  refine bodyPost_ret (v := .tuple #[cellV 0 0 0 0 (.slice none 0 0) (.slice none 0 0), .bool false]) (by clear z0; simp [results, Try.results19, go_sem, *]) rfl (retP_zero ZB.out)
theorem rdelete_any (sv mv : Value) (c : CellD) (key : Val) (hc : c.ok) (hf : c.fit) (w : World) (h1 : IsV w sv c.sl) (h2 : IsV w mv c.mo) :
    Calls Try.prog 19 #[cellV c.k c.sh c.fl c.ag sv mv, key.agg] w (RetP w (delC c key) (.bool (getB c key))) := by
  cases hb : isW c
  · rw [show delC c key = zeroC by simp [delC, hb], show getB c key = false by simp [getB, hb]]
    exact rdelete_no sv mv c key hc w h1 h2 hb
  · exact rdelete_yes sv mv c key hc hf w h1 h2 hb
set_option maxRecDepth 100000 in
set_option maxHeartbeats 8000000 in
theorem rclean_no (sv mv lv : Value) (c : CellD) (live : List Int) (hc : c.ok) (w : World) (h1 : IsV w sv c.sl) (h2 : IsV w mv c.mo) (h3 : IsI w lv live) (hb : isW c = false) :
    Calls Try.prog 13 #[cellV c.k c.sh c.fl c.ag sv mv, lv] w (RetD w zeroC) := by
  obtain ⟨A0, n0, rfl, _, _⟩ := h1.form
  obtain ⟨A2, n2, rfl, _, _⟩ := h2.form
  have H1 := Lib.hid h1
  have H2 := Lib.hid h2
  obtain ⟨A3, n3, rfl, _, _⟩ := h3.form
  have IS := Lib.hid (fun W a b => by have := ris_any _ _ c hc W a b; rw [hb] at this; exact this : ∀ (W : World), IsV W (.slice A0 c.sl.length n0) c.sl → IsV W (.slice A2 c.mo.length n2) c.mo → Calls Try.prog 32 #[cellV c.k c.sh c.fl c.ag (.slice A0 c.sl.length n0) (.slice A2 c.mo.length n2)] W fun e w' => e = .returned (.bool false) ∧ Below W.heap.size W w')
  clear h1 h2 h3 hc hb
  go_enter Try.func13, Try.ntmps13
  go_upto_region 1 with fail
  refine wp_world (fun W => W.heap[w.heap.size]? = some (cellO c.k c.sh c.fl c.ag (.slice A0 c.sl.length n0) (.slice A2 c.mo.length n2)) ∧ W.heap[w.heap.size + 1]? = some (cellO 0 0 0 0 (.slice none 0 0) (.slice none 0 0)) ∧ Below w.heap.size w W) (heap2 w _ _) ?_
  rintro W ⟨j1, j2, jb⟩
  have l0 : w.heap.size < W.heap.size := (Array.getElem?_eq_some_iff.1 j1).1
  have l1 : w.heap.size + 1 < W.heap.size := (Array.getElem?_eq_some_iff.1 j2).1
  have KK := Lib.hid (show ∀ X, Below W.heap.size W X → X.heap[w.heap.size]? = some (cellO c.k c.sh c.fl c.ag (.slice A0 c.sl.length n0) (.slice A2 c.mo.length n2)) ∧ X.heap[w.heap.size + 1]? = some (cellO 0 0 0 0 (.slice none 0 0) (.slice none 0 0)) from fun X h => ⟨(h.block _ l0).trans j1, (h.block _ l1).trans j2⟩)
  have BW := Lib.hid jb
  have I1 := Lib.hid (H1.out.below jb)
  have I2 := Lib.hid (H2.out.below jb)
  obtain ⟨⟨a0, a1, a2, a3, a4, a5⟩, _⟩ := cells6 j1
  clear j1 j2 jb H1 H2
  go_upto_region 2 with (go_at_call 32; refine (callGr (IS.out _ (I1.out.below (by (repeat (with_reducible first | exact Below.refl _ _ | (refine bl_set ?_ (by first | omega | (simp; done) | (simp; omega)) _) | refine bl_gr ?_ _ | refine bl_al ?_ _ | refine below_setRow ?_ (by first | omega | (simp; done) | (simp; omega)) _ | refine bl_drewN ?_ _ | refine Below.drew ?_ | (refine bl_tr ?_ (by assumption)))))) (I2.out.below (by (repeat (with_reducible first | exact Below.refl _ _ | (refine bl_set ?_ (by first | omega | (simp; done) | (simp; omega)) _) | refine bl_gr ?_ _ | refine bl_al ?_ _ | refine below_setRow ?_ (by first | omega | (simp; done) | (simp; omega)) _ | refine bl_drewN ?_ _ | refine Below.drew ?_ | (refine bl_tr ?_ (by assumption)))))))).mono ?_; rintro e w' ⟨pp, rfl, rfl⟩)
  refine wp_world (fun X => Below W.heap.size W X) (by (repeat (with_reducible first | exact Below.refl _ _ | (refine bl_set ?_ (by first | omega | (simp; done) | (simp; omega)) _) | refine bl_gr ?_ _ | refine bl_al ?_ _ | refine below_setRow ?_ (by first | omega | (simp; done) | (simp; omega)) _ | refine bl_drewN ?_ _ | refine Below.drew ?_ | (refine bl_tr ?_ (by assumption))))) ?_
  intro X hX
  have X4 := Lib.hid ((KK.out X hX).2)
  have XB := Lib.hid (bl_tr BW.out hX)
  have lX := hX.size
  clear hX a0 a1 a2 a3 a4 a5
  obtain ⟨⟨x0, x1, x2, x3, x4, x5⟩, y0, y1, y2, y3, y4, y5⟩ := cells6 X4.out
  go_wp2_with fail
  refine wp_post (fun Y => Y.heap[w.heap.size + 1]? = some (cellO 0 0 0 0 (.slice none 0 0) (.slice none 0 0)) ∧ Touch (fun b => b = w.heap.size + 1) X Y ∧ Below w.heap.size w Y) (put6 XB.out (by omega) X4.out) ?_
  rintro Y ⟨z0, _, zb⟩
  have ZB := Lib.hid zb
  clear x0 x1 x2 x3 x4 x5 y0 y1 y2 y3 y4 y5 zb
  obtain ⟨⟨b0, b1, b2, b3, b4, b5⟩, _⟩ := cells6 z0
  refine bodyPost_ret (v := cellV 0 0 0 0 (.slice none 0 0) (.slice none 0 0)) (by clear z0; simp [results, Try.results13, go_sem, *]) rfl (retD_zero ZB.out)
set_option maxRecDepth 100000 in
set_option maxHeartbeats 8000000 in
theorem rclean_yes (sv mv lv : Value) (c : CellD) (live : List Int) (hc : c.ok) (hf : c.fit) (w : World) (h1 : IsV w sv c.sl) (h2 : IsV w mv c.mo) (h3 : IsI w lv live) (hb : isW c = true) :
    Calls Try.prog 13 #[cellV c.k c.sh c.fl c.ag sv mv, lv] w (RetD w (cleanC c live)) := by
  obtain ⟨A0, n0, rfl, _, _⟩ := h1.form
  obtain ⟨A2, n2, rfl, _, _⟩ := h2.form
  have H1 := Lib.hid h1
  have H2 := Lib.hid h2
  obtain ⟨A3, n3, rfl, _, _⟩ := h3.form
  have H3 := Lib.hid h3
  obtain ⟨m, hm, hk8, hmx⟩ := isW_len hb
  clear hk8
  rw [show cleanC c live = ⟨c.k, c.sh, c.fl, c.ag, c.sl, keptW (fun v => inB live v.n) c.mo (List.finRange m)⟩ by unfold cleanC keptL; rw [if_pos hb, show c.mo.length / 2 = m by omega]]
  have HM := Lib.hid (And.intro hm hmx)
  have WO := Lib.hid (fun W kv a b k => without_any (.slice A0 c.sl.length n0) (.slice A2 c.mo.length n2) kv c (fun v => inB live v.n) hf m hm hmx W a b k)
  have IS := Lib.hid (fun W a b => by have := ris_any _ _ c hc W a b; rw [hb] at this; exact this : ∀ (W : World), IsV W (.slice A0 c.sl.length n0) c.sl → IsV W (.slice A2 c.mo.length n2) c.mo → Calls Try.prog 32 #[cellV c.k c.sh c.fl c.ag (.slice A0 c.sl.length n0) (.slice A2 c.mo.length n2)] W fun e w' => e = .returned (.bool true) ∧ Below W.heap.size W w')
  clear h1 h2 h3 hf hm hmx hc hb
  go_enter Try.func13, Try.ntmps13
  go_upto_region 1 with fail
  refine wp_world (fun W => W.heap[w.heap.size]? = some (cellO c.k c.sh c.fl c.ag (.slice A0 c.sl.length n0) (.slice A2 c.mo.length n2)) ∧ W.heap[w.heap.size + 1]? = some (cellO 0 0 0 0 (.slice none 0 0) (.slice none 0 0)) ∧ Below w.heap.size w W) (heap2 w _ _) ?_
  rintro W ⟨j1, j2, jb⟩
  have l0 : w.heap.size < W.heap.size := (Array.getElem?_eq_some_iff.1 j1).1
  have l1 : w.heap.size + 1 < W.heap.size := (Array.getElem?_eq_some_iff.1 j2).1
  have KK := Lib.hid (show ∀ X, Below W.heap.size W X → X.heap[w.heap.size]? = some (cellO c.k c.sh c.fl c.ag (.slice A0 c.sl.length n0) (.slice A2 c.mo.length n2)) ∧ X.heap[w.heap.size + 1]? = some (cellO 0 0 0 0 (.slice none 0 0) (.slice none 0 0)) from fun X h => ⟨(h.block _ l0).trans j1, (h.block _ l1).trans j2⟩)
  have BW := Lib.hid jb
  have I1 := Lib.hid (H1.out.below jb)
  have I2 := Lib.hid (H2.out.below jb)
  obtain ⟨⟨a0, a1, a2, a3, a4, a5⟩, _⟩ := cells6 j1
  clear j1 j2 jb H1 H2
  have I3 := Lib.hid (H3.out.below BW.out)
  clear H3
  go_upto_region 3 with (go_at_call 32; refine (callGr (IS.out _ (I1.out.below (by (repeat (with_reducible first | exact Below.refl _ _ | (refine bl_set ?_ (by first | omega | (simp; done) | (simp; omega)) _) | refine bl_gr ?_ _ | refine bl_al ?_ _ | refine below_setRow ?_ (by first | omega | (simp; done) | (simp; omega)) _ | refine bl_drewN ?_ _ | refine Below.drew ?_ | (refine bl_tr ?_ (by assumption)))))) (I2.out.below (by (repeat (with_reducible first | exact Below.refl _ _ | (refine bl_set ?_ (by first | omega | (simp; done) | (simp; omega)) _) | refine bl_gr ?_ _ | refine bl_al ?_ _ | refine below_setRow ?_ (by first | omega | (simp; done) | (simp; omega)) _ | refine bl_drewN ?_ _ | refine Below.drew ?_ | (refine bl_tr ?_ (by assumption)))))))).mono ?_; rintro e w' ⟨pp, rfl, rfl⟩)
  refine wp_world (fun X => Below W.heap.size W X) (by (repeat (with_reducible first | exact Below.refl _ _ | (refine bl_set ?_ (by first | omega | (simp; done) | (simp; omega)) _) | refine bl_gr ?_ _ | refine bl_al ?_ _ | refine below_setRow ?_ (by first | omega | (simp; done) | (simp; omega)) _ | refine bl_drewN ?_ _ | refine Below.drew ?_ | (refine bl_tr ?_ (by assumption))))) ?_
  intro X hX
  have O1 := Lib.hid hX
  clear a0 a1 a2 a3 a4 a5 hX
  go_wp2
  go_loopw [5, 6] (fun kp i wr => ∃ (k : Nat) (A9 : Option Addr) (n9 : Nat), k ≤ m ∧ i = .int .i64 ((2 * k : Nat) : Int) ∧ kp = .slice A9 k n9 ∧ OwnBl wr W.heap.size (.slice A9 k n9) (keepB (fun v => inB live v.n) c.mo k) ∧ Below W.heap.size W wr) (fun _ i _ => 2 * m - (intOf i).toNat)
  case atStart => exact ⟨0, none, 0, by omega, by simp, rfl, World.ownsRow_nil _ _ _ _, O1.out⟩
  case round =>
    obtain ⟨k, A9, n9, hk, rfl, rfl, ho, hB⟩ := hrel
    have hml := HM.out
    obtain ⟨k1, k3⟩ := KK.out wr hB
    obtain ⟨⟨p0, p1, p2, p3, p4, p5⟩, _⟩ := cells6 k1
    have sX := hB.size
    have l0w : w.heap.size < wr.heap.size := by omega
    have INV := Lib.hid (And.intro ho (And.intro hB k3))
    have O2 := Lib.hid hB
    by_cases hlt : k < m
    · obtain ⟨b, off, rfl⟩ := isV_addr I2.out (by omega)
      obtain ⟨lb, x0, x1, x2⟩ := (I2.out.below hB).v3 (2 * k) (by omega)
      have hkl : (keepB (fun v => inB live v.n) c.mo k).length + 1 ≤ 140737488355328 := by rw [keepB_len]; omega
      have KS := Lib.hid (keepB_snoc (fun v => inB live v.n) c.mo k)
      have IN := Lib.hid (In_any (.slice A3 live.length n3) live (vAt c.mo (2 * k)).n wr (I3.out.below hB))
      generalize hL : c.mo.length = L at *
      generalize hq : 2 * k = q at *
      generalize vAt c.mo q = u at *
      have g1 : ¬ (q : Int) < 0 := by omega
      have g2 : (q : Int) < L := by omega
      have g6 : q ≤ 1048576 := by omega
      have hk1 : k + 1 ≤ m := hlt
      have HQ := Lib.hid (And.intro hL hq)
      have HKL := Lib.hid hkl
      clear hL hq hml hB ho k1 k3 hkl hlt hk
      go_wp2_with (first
        | (go_at_call 33; refine IN.out.mono ?_; rintro e w' ⟨rfl, rfl⟩)
        | (at_builtin; refine wpList_appB rfl W.heap.size (.tmp 18) (.tmp 27) rfl (keepB (fun v => inB live v.n) c.mo k) (inB live u.n) (yv := .slice A9 k n9) (by simp [Act.eval, Act.put]) (by simp [Act.eval, Act.put]; rfl) ?_ ?_ ?_ HKL.out ?_; (next => exact (show Below W.heap.size W _ by (repeat (with_reducible first | exact O2.out | exact Below.refl _ _ | refine bl_rapp ?_ | (refine bl_set ?_ (by first | omega | (simp; done) | (simp; omega)) _) | refine bl_gr ?_ _ | refine bl_al ?_ _ | refine bl_drewN ?_ _ | refine Below.drew ?_))).size); (next => exact ownsRow_below INV.out.1 (by (repeat (with_reducible first  | exact Below.refl _ _ | refine bl_rapp ?_ | (refine bl_set ?_ (by first | omega | (simp; done) | (simp; omega)) _) | refine bl_gr ?_ _ | refine bl_al ?_ _ | refine bl_drewN ?_ _ | refine Below.drew ?_)))); (next => exact heap_alloc_new _ _); intro g7 n7 w7 o7 t7; have B9 := Lib.hid (show Below W.heap.size W w7 from own_TB (by (repeat (with_reducible first | exact O2.out | exact Below.refl _ _ | refine bl_rapp ?_ | (refine bl_set ?_ (by first | omega | (simp; done) | (simp; omega)) _) | refine bl_gr ?_ _ | refine bl_al ?_ _ | refine bl_drewN ?_ _ | refine Below.drew ?_))) (ownsRow_below INV.out.1 (by (repeat (with_reducible first  | exact Below.refl _ _ | refine bl_rapp ?_ | (refine bl_set ?_ (by first | omega | (simp; done) | (simp; omega)) _) | refine bl_gr ?_ _ | refine bl_al ?_ _ | refine bl_drewN ?_ _ | refine Below.drew ?_)))) (Nat.le_refl _) t7); rw [← KS.out] at o7 ⊢; have O7 := Lib.hid o7; clear o7 t7))
      go_roundw
      case rel => exact ⟨k + 1, some ⟨g7, 0, none⟩, n7, by omega, by have := HQ.out.2; rw [show 2 * (k + 1) = q + 2 by omega]; go_num, by rw [keepB_len], by have := O7.out; rwa [keepB_len] at this, B9.out⟩
      case measure => have := HQ.out.2; simp [intOf]; omega
    · have hkm : k = m := by omega
      have h12 : ¬ ((2 * k : Nat) : Int) < c.mo.length := by omega
      have IB := Lib.hid (show IsBl wr (.slice A9 k n9) (keepB (fun v => inB live v.n) c.mo m) by
        have := OwnBl.isBl (bs := keepB (fun v => inB live v.n) c.mo k) (by unfold OwnBl; rw [keepB_len]; exact (by have h := ho; unfold OwnBl at h; rwa [keepB_len] at h))
        rwa [hkm] at this ⊢)
      clear ho hml hkm hlt hk k1 k3
      generalize hks : keptW (fun v => inB live v.n) c.mo (List.finRange m) = ks at *
      have HKS := Lib.hid hks
      clear hks
      go_wp2_with (go_at_call 34; refine (WO.out _ _ (I1.out.below (by (repeat (with_reducible first | exact O2.out | exact Below.refl _ _ | refine bl_rapp ?_ | (refine bl_set ?_ (by first | omega | (simp; done) | (simp; omega)) _) | refine bl_gr ?_ _ | refine bl_al ?_ _ | refine bl_drewN ?_ _ | refine Below.drew ?_)))) (I2.out.below (by (repeat (with_reducible first | exact O2.out | exact Below.refl _ _ | refine bl_rapp ?_ | (refine bl_set ?_ (by first | omega | (simp; done) | (simp; omega)) _) | refine bl_gr ?_ _ | refine bl_al ?_ _ | refine bl_drewN ?_ _ | refine Below.drew ?_)))) (IB.out.below (by (repeat (with_reducible first  | exact Below.refl _ _ | refine bl_rapp ?_ | (refine bl_set ?_ (by first | omega | (simp; done) | (simp; omega)) _) | refine bl_gr ?_ _ | refine bl_al ?_ _ | refine bl_drewN ?_ _ | refine Below.drew ?_))))).mono ?_; rintro e w5 ⟨A5, n5, A6, n6, rfl, o1, o2, hb⟩; (try dsimp only at o1 o2 ⊢); have B5 := Lib.hid (show Below W.heap.size W w5 from bl_tr (by (repeat (with_reducible first | exact O2.out | exact Below.refl _ _ | refine bl_rapp ?_ | (refine bl_set ?_ (by first | omega | (simp; done) | (simp; omega)) _) | refine bl_gr ?_ _ | refine bl_al ?_ _ | refine bl_drewN ?_ _ | refine Below.drew ?_))) hb); have O5 := Lib.hid (And.intro o1 o2); have l5 := B5.out.size; have l15 : w.heap.size + 1 < w5.heap.size := (by omega); obtain ⟨⟨x0, x1, x2, x3, x4, x5⟩, y0, y1, y2, y3, y4, y5⟩ := cells6 (KK.out w5 B5.out).2; clear o1 o2 hb)
      refine wp_post (fun Y => Y.heap[w.heap.size + 1]? = some (cellO c.k c.sh c.fl c.ag (.slice A5 c.sl.length n5) (.slice A6 ks.length n6)) ∧ Touch (fun b => b = w.heap.size + 1) w5 Y ∧ Below w.heap.size w Y) (put6 (show Below w.heap.size w w5 from bl_tr BW.out B5.out) (by omega) (KK.out w5 B5.out).2) ?_
      rintro Y ⟨r1, rt, rb⟩
      have f1 := setI O5.out.1 (KK.out w5 B5.out).2 rt
      have f2 := setI O5.out.2 (KK.out w5 B5.out).2 rt
      have FF := Lib.hid (And.intro f1 (And.intro f2 rb))
      clear f1 f2 rb rt p0 p1 p2 p3 p4 p5 x0 x1 x2 x3 x4 x5 y0 y1 y2 y3 y4 y5
      obtain ⟨⟨b0, b1, b2, b3, b4, b5⟩, _⟩ := cells6 r1
      refine bodyPost_ret (v := cellV c.k c.sh c.fl c.ag (.slice A5 c.sl.length n5) (.slice A6 ks.length n6)) (by clear r1; simp [results, Try.results13, go_sem, *]) rfl ?_
      have hks := HKS.out
      subst hks
      exact ⟨_, _, _, _, rfl, FF.out.1, FF.out.2.1, FF.out.2.2⟩
theorem rclean_any (sv mv lv : Value) (c : CellD) (live : List Int) (hc : c.ok) (hf : c.fit) (w : World) (h1 : IsV w sv c.sl) (h2 : IsV w mv c.mo) (h3 : IsI w lv live) :
    Calls Try.prog 13 #[cellV c.k c.sh c.fl c.ag sv mv, lv] w (RetD w (cleanC c live)) := by
  cases hb : isW c
  · rw [show cleanC c live = zeroC by simp [cleanC, hb]]
    exact rclean_no sv mv lv c live hc w h1 h2 h3 hb
  · exact rclean_yes sv mv lv c live hc hf w h1 h2 h3 hb
end Go.Proofs.Ytdikdkllbhanfaa
