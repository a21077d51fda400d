/- Registries: bare. -/
import Derived.Test.YtokoigjcakgpdaaFinB
namespace Go.Proofs.Ytokoigjcakgpdaa
set_option linter.all false
open Go.RowKit Go.Sort Go.Deep

set_option maxRecDepth 100000 in
set_option maxHeartbeats 4000000 in
theorem bare_any (sv mv : Value) (c : CellD) (w : World) (h1 : IsV w sv c.sl) (h2 : IsV w mv c.mo) (hf : c.fit) (h0 : 0 < c.mo.length) :
    Calls Try.prog 26 #[cellV c.k c.sh c.fl c.ag sv mv] w fun e w' => ∃ A1 n1 g, e = .returned (cellV c.k c.sh c.fl c.ag (.slice A1 c.sl.length n1) (.slice (some ⟨g, 0, none⟩) 1 1)) ∧
      OwnV w' w.heap.size (.slice A1 c.sl.length n1) c.sl ∧ OwnV w' w.heap.size (.slice (some ⟨g, 0, none⟩) 1 1) [vAt c.mo 0] ∧ (∀ b, Value.ownBlock (.slice A1 c.sl.length n1) = some b → b ≠ g) ∧ Below w.heap.size w w' := by
  have H1 := Lib.hid h1
  have H2 := Lib.hid h2
  have F := Lib.hid hf
  have fl2 := hf.2.le
  obtain ⟨A2, n2, rfl, _, _⟩ := h2.form
  obtain ⟨b, off, rfl⟩ := isV_addr h2 h0
  clear h1 h2 hf
  go_enter Try.func26, Try.ntmps26
  go_upto_region 1 with fail
  refine wp_world (fun W => W.heap[w.heap.size]? = some (cellO c.k c.sh c.fl c.ag sv (.slice (some ⟨b, off, none⟩) c.mo.length n2)) ∧ W.heap[w.heap.size + 1]? = some (cellO 0 0 0 0 (.slice none 0 0) (.slice none 0 0)) ∧ Below w.heap.size w W)
    ⟨(heap_alloc_old _ _ (by simp)).trans (heap_alloc_new _ _), (by have := heap_alloc_new (w.alloc (cellO c.k c.sh c.fl c.ag sv (.slice (some ⟨b, off, none⟩) c.mo.length n2))) (cellO 0 0 0 0 (.slice none 0 0) (.slice none 0 0)); simpa using this), by (repeat (with_reducible first | exact Below.refl _ _ | (refine bl_set ?_ (by first | omega | (simp; done) | (simp; omega)) _) | refine bl_gr ?_ _ | refine bl_al ?_ _ | refine below_setRow ?_ (by first | omega | (simp; done) | (simp; omega)) _ | refine bl_drewN ?_ _ | refine Below.drew ?_ | (refine bl_tr ?_ (by assumption))))⟩ ?_
  rintro W ⟨j1, j2, jb⟩
  have l0 : w.heap.size < W.heap.size := (Array.getElem?_eq_some_iff.1 j1).1
  have l1 : w.heap.size + 1 < W.heap.size := (Array.getElem?_eq_some_iff.1 j2).1
  obtain ⟨⟨a0, a1, a2, a3, a4, a5⟩, _⟩ := cells6 j1
  have J := Lib.hid (And.intro j1 (And.intro j2 jb))
  clear j1 j2 jb
  go_upto_region 2 with (go_at_call 39; refine (clone_any sv c.sl _ (H1.out.below (J.out.2.2.trans (by (repeat (with_reducible first | exact Below.refl _ _ | (refine bl_set ?_ (by first | omega | (simp; done) | (simp; omega)) _) | refine bl_gr ?_ _ | refine bl_al ?_ _ | refine below_setRow ?_ (by first | omega | (simp; done) | (simp; omega)) _ | refine bl_drewN ?_ _ | refine Below.drew ?_ | (refine bl_tr ?_ (by assumption))))))) F.out.1).mono ?_; rintro e w3 ⟨A1, n1, rfl, o1, hb⟩; obtain ⟨⟨d0, d1, d2, d3, d4, d5⟩, g0, g1, g2, g3, g4, g5⟩ := cells6 ((hb.block _ l0).trans J.out.1); have OO := Lib.hid (And.intro o1 hb); clear o1 hb)
  have k1 := heap_setCell_same w3 w.heap.size 4 _ _ (.slice A1 c.sl.length n1) ((OO.out.2.block _ l0).trans J.out.1)
  have kt : Touch (fun b => b = w.heap.size) w3 (w3.setCell ⟨w.heap.size, 4, none⟩ (.slice A1 c.sl.length n1)) := (Touch.refl _ _).set1 _ _
  refine wp_world (fun W4 => W4.heap[w.heap.size]? = some (cellO c.k c.sh c.fl c.ag (.slice A1 c.sl.length n1) (.slice (some ⟨b, off, none⟩) c.mo.length n2)) ∧ Touch (fun b => b = w.heap.size) w3 W4) ⟨k1, kt⟩ ?_
  clear k1 kt
  rintro w4 ⟨k1, kt⟩
  have hb := OO.out.2
  have s3 := hb.size
  have s4 := kt.size
  have k2 : w4.heap[w.heap.size + 1]? = some (cellO 0 0 0 0 (.slice none 0 0) (.slice none 0 0)) := (kt.block _ (by omega) (by omega)).trans ((hb.block _ l1).trans J.out.2.1)
  have o1 : OwnV w4 W.heap.size (.slice A1 c.sl.length n1) c.sl := ownsRow_touch OO.out.1 kt (fun g hg e => by have := (OO.out.1.lt _ hg).1; omega)
  have b4 : Below w.heap.size w w4 := (J.out.2.2.trans (hb.mono J.out.2.2.size)).trans (kt.below (by have := J.out.2.2.size; omega) (fun k e => by omega))
  obtain ⟨hbb, c0, c1, c2⟩ := (H2.out.below b4).v3 0 h0
  rw [Nat.zero_mul, Nat.add_zero] at c0 c1 c2
  clear a0 a1 a2 a3 a4 a5 d0 d1 d2 d3 d4 d5 g0 g1 g2 g3 g4 g5
  obtain ⟨⟨a0, a1, a2, a3, a4, a5⟩, f0, f1, f2, f3, f4, f5⟩ := cells6 k1
  have l4 : w.heap.size < w4.heap.size := by omega
  have n4 : w.heap.size ≠ w4.heap.size := by omega
  have KX := Lib.hid (And.intro k1 (And.intro k2 (And.intro o1 b4)))
  have SZ := Lib.hid (And.intro l0 (And.intro l1 (And.intro s3 s4)))
  generalize hv0 : vAt c.mo 0 = v0 at *
  have EV0 := Lib.hid hv0
  clear hv0
  clear hb kt k1 k2 o1 b4 OO J s3 s4 l0 l1 H1 H2
  go_upto_region 3 with fail
  refine wp_world (fun W5 => W5.heap[w.heap.size]? = some (cellO c.k c.sh c.fl c.ag (.slice A1 c.sl.length n1) (.slice (some ⟨w4.heap.size, 0, none⟩) 1 1)) ∧ W5.heap[w4.heap.size]? = some (.cells #[.int .i64 v0.k, .int .i64 v0.n, .string v0.s] 34) ∧ Touch (fun b => b = w.heap.size) w4 W5)
    ⟨(heap_alloc_old _ _ (by simpa using l4)).trans (heap_setCell_same w4 w.heap.size 5 _ _ (.slice (some ⟨w4.heap.size, 0, none⟩) 1 1) KX.out.1), (by have := heap_alloc_new (w4.setCell ⟨w.heap.size, 5, none⟩ (.slice (some ⟨w4.heap.size, 0, none⟩) 1 1)) (.cells #[.int .i64 v0.k, .int .i64 v0.n, .string v0.s] 34); simpa using this), ((Touch.refl _ _).set1 5 _).alloc _⟩ ?_
  rintro w5 ⟨k1, kn, kt⟩
  have s5 := kt.size
  have l5 : w4.heap.size < w5.heap.size := (Array.getElem?_eq_some_iff.1 kn).1
  have k2 : w5.heap[w.heap.size + 1]? = some (cellO 0 0 0 0 (.slice none 0 0) (.slice none 0 0)) := (kt.block _ (by have := SZ.out; omega) (by omega)).trans KX.out.2.1
  have o1 : OwnV w5 W.heap.size (.slice A1 c.sl.length n1) c.sl := ownsRow_touch KX.out.2.2.1 kt (fun g hg e => by have := (KX.out.2.2.1.lt _ hg).1; have := SZ.out; omega)
  have o2 : OwnV w5 w4.heap.size (.slice (some ⟨w4.heap.size, 0, none⟩) 1 1) [v0] := ⟨rfl, .inr ⟨w4.heap.size, 1, _, rfl, Nat.le_refl _, kn, Nat.le_refl _, (by unfold maxLen; omega), rfl, rfl⟩⟩
  have b5 : Below w.heap.size w w5 := KX.out.2.2.2.trans (kt.below (by omega) (fun k e => by omega))
  have od : ∀ b, Value.ownBlock (.slice A1 c.sl.length n1) = some b → b ≠ w4.heap.size := fun b e h => by have := (KX.out.2.2.1.lt _ e).2; omega
  clear a0 a1 a2 a3 a4 a5 f0 f1 f2 f3 f4 f5 c0 c1 c2
  obtain ⟨⟨a0, a1, a2, a3, a4, a5⟩, _⟩ := cells6 k1
  obtain ⟨⟨x0, x1, x2, x3, x4, x5⟩, y0, y1, y2, y3, y4, y5⟩ := cells6 k2
  have K2 := Lib.hid k2
  have OX := Lib.hid (And.intro o1 (And.intro o2 (And.intro od b5)))
  have l8 : w.heap.size < w5.heap.size := by omega
  have l9 : w.heap.size + 1 < w5.heap.size := by have := SZ.out; omega
  clear k1 kn kt k2 o1 o2 od b5 KX
  go_wp2
  obtain ⟨w6, hw6⟩ : ∃ w6, w6 = ((((((w5.setCell ⟨w.heap.size + 1, 0, none⟩ (.int .i64 c.k)).setCell ⟨w.heap.size + 1, 1, none⟩ (.int .i64 c.sh)).setCell ⟨w.heap.size + 1, 2, none⟩ (.int .i64 c.fl)).setCell ⟨w.heap.size + 1, 3, none⟩ (.int .i64 c.ag)).setCell ⟨w.heap.size + 1, 4, none⟩ (.slice A1 c.sl.length n1)).setCell ⟨w.heap.size + 1, 5, none⟩ (.slice (some ⟨w4.heap.size, 0, none⟩) 1 1)) := ⟨_, rfl⟩
  rw [← hw6]
  have jt : Touch (fun b => b = w.heap.size + 1) w5 w6 := by
    rw [hw6]
    exact (((((((Touch.refl _ _).set1 _ _).set1 _ _).set1 _ _).set1 _ _).set1 _ _).set1 _ _)
  have j1 : OwnV w6 W.heap.size (.slice A1 c.sl.length n1) c.sl := ownsRow_touch OX.out.1 jt (fun g hg e => by have := (OX.out.1.lt _ hg).1; have := SZ.out; omega)
  have j2 : OwnV w6 w4.heap.size (.slice (some ⟨w4.heap.size, 0, none⟩) 1 1) [v0] := ownsRow_touch OX.out.2.1 jt (fun g hg e => by have := (OX.out.2.1.lt _ hg).1; have := SZ.out; omega)
  have j3 : w6.heap[w.heap.size + 1]? = some (cellO c.k c.sh c.fl c.ag (.slice A1 c.sl.length n1) (.slice (some ⟨w4.heap.size, 0, none⟩) 1 1)) := by
    rw [hw6]
    exact heap_setCell_same _ _ _ _ _ _ (heap_setCell_same _ _ _ _ _ _ (heap_setCell_same _ _ _ _ _ _ (heap_setCell_same _ _ _ _ _ _ (heap_setCell_same _ _ _ _ _ _ (heap_setCell_same _ _ _ _ _ _ K2.out)))))
  have jb : Below w.heap.size w w6 := by
    rw [hw6]
    iterate 6 refine bl_set ?_ (Nat.le_succ _) _
    exact OX.out.2.2.2
  clear hw6 a0 a1 a2 a3 a4 a5 x0 x1 x2 x3 x4 x5 y0 y1 y2 y3 y4 y5 K2 jt
  obtain ⟨⟨a0, a1, a2, a3, a4, a5⟩, _⟩ := cells6 j3
  refine bodyPost_ret (v := cellV c.k c.sh c.fl c.ag (.slice A1 c.sl.length n1) (.slice (some ⟨w4.heap.size, 0, none⟩) 1 1)) (by clear j1 j2 j3 jb; simp [results, Try.results26, go_sem, *]) rfl ⟨A1, n1, w4.heap.size, rfl, ownsRow_low j1 (by have := SZ.out; omega), (by rw [EV0.out]; exact ownsRow_low j2 (by have := SZ.out; omega)), OX.out.2.2.1, jb⟩
end Go.Proofs.Ytokoigjcakgpdaa
