/- Cells: Clone and Copy. -/
import Derived.Test.YtdikdkllbhanfaaCelU
import Derived.Test.YtdikdkllbhanfaaOwn
import Derived.Deep.RegionWith
import Derived.Laws.Cover3
namespace Go.Proofs.Ytdikdkllbhanfaa
set_option linter.all false
open Go.RowKit Go.Sort Go.Deep

theorem sl_eql (A : Option Addr) (n c : Nat) (w : World) : (binOp .eql 22 (.slice A n c) (.slice none 0 0)).run Try.prog w = .ok (.bool A.isNone) w := by
  simp only [binOp]
  simp [run_equal_slice_nil w 22 _ A n c Try.underlying22]
attribute [local simp] sl_eql

set_option maxRecDepth 100000 in
set_option maxHeartbeats 2000000 in
theorem clone_any (sv : Value) (xs : List Val) (w : World) (h : IsV w sv xs) (hf : fitV xs) :
    Calls Try.prog 46 #[sv] w fun e w' => ∃ A n, e = .returned (.slice A xs.length n) ∧ OwnV w' w.heap.size (.slice A xs.length n) xs ∧ Below w.heap.size w w' := by
  have H := Lib.hid h
  have F := Lib.hid hf
  obtain ⟨A, n, rfl, hn, _⟩ := h.form
  clear h hf
  cases A with
  | none =>
    have hx : xs = [] := by
      cases xs with
      | nil => rfl
      | cons x xs =>
        obtain ⟨_, _, _, e, _⟩ := H.out.at_ (by simp)
        simp at e
    subst hx
    clear hn
    go_enter Try.func46, Try.ntmps46
    go_wp2
    go_ret
    exact ⟨none, 0, rfl, World.ownsRow_nil _ _ _ _, by (repeat (with_reducible first | exact Below.refl _ _ | (refine bl_set ?_ (by first | omega | (simp; done) | (simp; omega)) _) | refine bl_gr ?_ _ | refine bl_al ?_ _ | refine below_setRow ?_ (by first | omega | (simp; done) | (simp; omega)) _ | refine bl_drewN ?_ _ | refine Below.drew ?_ | (refine bl_tr ?_ (by assumption))))⟩
  | some ad =>
    clear hn
    go_enter Try.func46, Try.ntmps46
    go_wp2_with (refine wpList_appV rfl _ _ rfl w.heap.size w.heap.size xs rfl rfl ?_ ?_ ?_ ?_ ?_; (next => exact heap_alloc_new _ _); (next => omega); (next => exact H.out.below (by (repeat (with_reducible first | exact Below.refl _ _ | (refine bl_set ?_ (by first | omega | (simp; done) | (simp; omega)) _) | refine bl_gr ?_ _ | refine bl_al ?_ _ | refine below_setRow ?_ (by first | omega | (simp; done) | (simp; omega)) _ | refine bl_drewN ?_ _ | refine Below.drew ?_ | (refine bl_tr ?_ (by assumption)))))); (next => exact F.out); intro A1 n1 w1 o1 gr1; have O1 := Lib.hid o1; have G1 := Lib.hid gr1; clear o1 gr1)
    go_ret
    exact ⟨A1, n1, rfl, O1.out, app_2 rfl G1.out⟩

set_option maxRecDepth 100000 in
set_option maxHeartbeats 4000000 in
theorem copy_any (sv mv : Value) (c : CellD) (w : World) (h1 : IsV w sv c.sl) (h2 : IsV w mv c.mo) (hf : c.fit) :
    Calls Try.prog 36 #[cellV c.k c.sh c.fl c.ag sv mv] w fun e w' => ∃ A1 n1 A2 n2, e = .returned (cellV c.k c.sh c.fl c.ag (.slice A1 c.sl.length n1) (.slice A2 c.mo.length n2)) ∧
      OwnV w' w.heap.size (.slice A1 c.sl.length n1) c.sl ∧ OwnV w' w.heap.size (.slice A2 c.mo.length n2) c.mo ∧ (∀ b, Value.ownBlock (.slice A1 c.sl.length n1) = some b → Value.ownBlock (.slice A2 c.mo.length n2) ≠ some b) ∧ Below w.heap.size w w' := by
  have H1 := Lib.hid h1
  have H2 := Lib.hid h2
  have F := Lib.hid hf
  clear h1 h2 hf
  go_enter Try.func36, Try.ntmps36
  go_upto_region 1 with fail
  have j1 : ((w.alloc (cellO c.k c.sh c.fl c.ag sv mv)).alloc (cellO 0 0 0 0 (.slice none 0 0) (.slice none 0 0))).heap[w.heap.size]? = some (cellO c.k c.sh c.fl c.ag sv mv) := (heap_alloc_old _ _ (by simp)).trans (heap_alloc_new _ _)
  have j2 : ((w.alloc (cellO c.k c.sh c.fl c.ag sv mv)).alloc (cellO 0 0 0 0 (.slice none 0 0) (.slice none 0 0))).heap[w.heap.size + 1]? = some (cellO 0 0 0 0 (.slice none 0 0) (.slice none 0 0)) := by
    have := heap_alloc_new (w.alloc (cellO c.k c.sh c.fl c.ag sv mv)) (cellO 0 0 0 0 (.slice none 0 0) (.slice none 0 0))
    simpa using this
  have jb : Below w.heap.size w ((w.alloc (cellO c.k c.sh c.fl c.ag sv mv)).alloc (cellO 0 0 0 0 (.slice none 0 0) (.slice none 0 0))) := by (repeat (with_reducible first | exact Below.refl _ _ | (refine bl_set ?_ (by first | omega | (simp; done) | (simp; omega)) _) | refine bl_gr ?_ _ | refine bl_al ?_ _ | refine below_setRow ?_ (by first | omega | (simp; done) | (simp; omega)) _ | refine bl_drewN ?_ _ | refine Below.drew ?_ | (refine bl_tr ?_ (by assumption))))
  generalize hW : (w.alloc _).alloc _ = W at j1 j2 jb ⊢
  clear hW
  have l0 : w.heap.size < W.heap.size := (Array.getElem?_eq_some_iff.1 j1).1
  have l1 : w.heap.size + 1 < W.heap.size := (Array.getElem?_eq_some_iff.1 j2).1
  obtain ⟨⟨a0, a1, a2, a3, a4, a5⟩, f0, f1, f2, f3, f4, f5⟩ := cells6 j1
  have I1 := Lib.hid (H1.out.below jb)
  have I2 := Lib.hid (H2.out.below jb)
  have KK := Lib.hid (fun (W1 : World) (h : Below W.heap.size W W1) => (h.block _ l0).trans j1)
  have KZ := Lib.hid (fun (W1 : World) (h : Below W.heap.size W W1) => (h.block _ l1).trans j2)
  have JB := Lib.hid jb
  clear H1 H2 jb j1 j2
  go_region_with (first
    | (go_at_call_of 46 sv; refine (clone_any sv c.sl _ (I1.out.below (by (repeat (with_reducible first | exact Below.refl _ _ | (refine bl_set ?_ (by first | omega | (simp; done) | (simp; omega)) _) | refine bl_gr ?_ _ | refine bl_al ?_ _ | refine below_setRow ?_ (by first | omega | (simp; done) | (simp; omega)) _ | refine bl_drewN ?_ _ | refine Below.drew ?_ | (refine bl_tr ?_ (by assumption)))))) F.out.1).mono ?_; rintro e w1 ⟨A1, n1, rfl, o1, b1⟩; have B1 := Lib.hid (bl_tr (a := W) (by (repeat (with_reducible first | exact Below.refl _ _ | (refine bl_set ?_ (by first | omega | (simp; done) | (simp; omega)) _) | refine bl_gr ?_ _ | refine bl_al ?_ _ | refine below_setRow ?_ (by first | omega | (simp; done) | (simp; omega)) _ | refine bl_drewN ?_ _ | refine Below.drew ?_ | (refine bl_tr ?_ (by assumption))))) b1); have O1 := Lib.hid o1; obtain ⟨⟨d0, d1, d2, d3, d4, d5⟩, g0, g1, g2, g3, g4, g5⟩ := cells6 (KK.out w1 B1.out); clear o1 b1)
    | (go_at_call_of 46 mv; refine (clone_any mv c.mo _ (I2.out.below (B1.out.trans (by (repeat (with_reducible first | exact Below.refl _ _ | (refine bl_set ?_ (by first | omega | (simp; done) | (simp; omega)) _) | refine bl_gr ?_ _ | refine bl_al ?_ _ | refine below_setRow ?_ (by first | omega | (simp; done) | (simp; omega)) _ | refine bl_drewN ?_ _ | refine Below.drew ?_ | (refine bl_tr ?_ (by assumption))))))) F.out.2).mono ?_; rintro e w2 ⟨A2, n2, rfl, o2, b2⟩; have B2 := Lib.hid b2; have O2 := Lib.hid o2; obtain ⟨⟨e0, e1, e2, e3, e4, e5⟩, k0, k1, k2, k3, k4, k5⟩ := cells6 (KK.out w2 (bl_tr B1.out b2)); clear o2 b2))
  all_goals go_upto_region 2 with fail
  all_goals as_aux_lemma =>
    have m4 : w2.heap[w.heap.size]? = some (cellO c.k c.sh c.fl c.ag sv mv) := KK.out w2 (bl_tr B1.out B2.out)
    have m5 : w2.heap[w.heap.size + 1]? = some (cellO 0 0 0 0 (.slice none 0 0) (.slice none 0 0)) := KZ.out w2 (bl_tr B1.out B2.out)
    have o1 : OwnV w2 W.heap.size (.slice A1 c.sl.length n1) c.sl := ownsRow_low (ownsRow_below O1.out B2.out) (by first | exact Nat.le_refl _ | exact B1.out.size | (simp; done))
    have o2 : OwnV w2 w1.heap.size (.slice A2 c.mo.length n2) c.mo := O2.out
    have sz1 : W.heap.size ≤ w1.heap.size := B1.out.size
    have sz2 : w1.heap.size ≤ w2.heap.size := B2.out.size
    have oo : ∀ b, Value.ownBlock (.slice A1 c.sl.length n1) = some b → Value.ownBlock (.slice A2 c.mo.length n2) ≠ some b := fun b h1 h2 => by
      have := (O1.out.lt _ h1).2
      have := (O2.out.lt _ h2).1
      omega
    have bb : Below w.heap.size w w2 := bl_tr JB.out (bl_tr B1.out B2.out)
    clear a0 a1 a2 a3 a4 a5 f0 f1 f2 f3 f4 f5 d0 d1 d2 d3 d4 d5 g0 g1 g2 g3 g4 g5 e0 e1 e2 e3 e4 e5 k0 k1 k2 k3 k4 k5 B1 B2 O1 O2 KK KZ I1 I2 JB
    obtain ⟨w4, hw4⟩ : ∃ w4, w4 = (w2.setCell ⟨w.heap.size, 4, none⟩ (.slice A1 c.sl.length n1)).setCell ⟨w.heap.size, 5, none⟩ (.slice A2 c.mo.length n2) := ⟨_, rfl⟩
    rw [← hw4]
    have jt : Touch (fun b => b = w.heap.size) w2 w4 := by rw [hw4]; exact ((Touch.refl (fun b => b = w.heap.size) w2).set1 _ _).set1 _ _
    have j0 : ∀ b, b ≠ w.heap.size → w4.heap[b]? = w2.heap[b]? := fun b hb => by rw [hw4]; exact (heap_setCell_other _ _ _ _ hb).trans (heap_setCell_other _ _ _ _ hb)
    have j1 : w4.heap[w.heap.size]? = some (cellO c.k c.sh c.fl c.ag (.slice A1 c.sl.length n1) (.slice A2 c.mo.length n2)) := by rw [hw4]; exact heap_setCell_same _ _ _ _ _ _ (heap_setCell_same _ _ _ _ _ _ m4)
    have j2 : w4.heap[w.heap.size + 1]? = some (cellO 0 0 0 0 (.slice none 0 0) (.slice none 0 0)) := (j0 _ (by omega)).trans m5
    have p1 : OwnV w4 W.heap.size (.slice A1 c.sl.length n1) c.sl := ownsRow_touch o1 jt (fun g hg e => by have := (o1.lt _ hg).1; omega)
    have p2 : OwnV w4 w1.heap.size (.slice A2 c.mo.length n2) c.mo := ownsRow_touch o2 jt (fun g hg e => by have := (o2.lt _ hg).1; omega)
    have jb : Below w.heap.size w w4 := by rw [hw4]; exact bl_set (bl_set bb (Nat.le_refl _) _) (Nat.le_refl _) _
    clear hw4 jt j0 m4 m5 o1 o2 bb
    obtain ⟨⟨a0, a1, a2, a3, a4, a5⟩, _⟩ := cells6 j1
    obtain ⟨⟨b0, b1, b2, b3, b4, b5⟩, e0, e1, e2, e3, e4, e5⟩ := cells6 j2
    have K1 := Lib.hid p1
    have K2 := Lib.hid p2
    have KO := Lib.hid oo
    have K4 := Lib.hid j2
    have HB := Lib.hid jb
    have L0 := Lib.hid l0
    have L1 := Lib.hid l1
    have SZ := Lib.hid sz1
    clear p1 p2 oo j1 j2 jb l0 l1 sz1 sz2
    go_wp2
    obtain ⟨w5, hw5⟩ : ∃ w5, w5 = ((((((w4.setCell ⟨w.heap.size + 1, 0, none⟩ (.int .i64 c.k)).setCell ⟨w.heap.size + 1, 1, none⟩ (.int .i64 c.sh)).setCell ⟨w.heap.size + 1, 2, none⟩ (.int .i64 c.fl)).setCell ⟨w.heap.size + 1, 3, none⟩ (.int .i64 c.ag)).setCell ⟨w.heap.size + 1, 4, none⟩ (.slice A1 c.sl.length n1)).setCell ⟨w.heap.size + 1, 5, none⟩ (.slice A2 c.mo.length n2)) := ⟨_, rfl⟩
    rw [← hw5]
    have jt : Touch (fun b => b = w.heap.size + 1) w4 w5 := by
      rw [hw5]
      exact (((((((Touch.refl _ _).set1 _ _).set1 _ _).set1 _ _).set1 _ _).set1 _ _).set1 _ _)
    have j1 : OwnV w5 W.heap.size (.slice A1 c.sl.length n1) c.sl := ownsRow_touch K1.out jt (fun g hg e => by have := (K1.out.lt _ hg).1; have := L1.out; omega)
    have j2 : OwnV w5 w1.heap.size (.slice A2 c.mo.length n2) c.mo := ownsRow_touch K2.out jt (fun g hg e => by have := (K2.out.lt _ hg).1; have := L1.out; have := SZ.out; omega)
    have j3 : w5.heap[w.heap.size + 1]? = some (cellO c.k c.sh c.fl c.ag (.slice A1 c.sl.length n1) (.slice A2 c.mo.length n2)) := by
      rw [hw5]
      exact heap_setCell_same _ _ _ _ _ _ (heap_setCell_same _ _ _ _ _ _ (heap_setCell_same _ _ _ _ _ _ (heap_setCell_same _ _ _ _ _ _ (heap_setCell_same _ _ _ _ _ _ (heap_setCell_same _ _ _ _ _ _ K4.out)))))
    have jb : Below w.heap.size w w5 := by
      rw [hw5]
      iterate 6 refine bl_set ?_ (Nat.le_succ _) _
      exact HB.out
    clear hw5 a0 a1 a2 a3 a4 a5 b0 b1 b2 b3 b4 b5 e0 e1 e2 e3 e4 e5 K1 K2 K4 HB jt
    obtain ⟨⟨a0, a1, a2, a3, a4, a5⟩, _⟩ := cells6 j3
    refine bodyPost_ret (v := cellV c.k c.sh c.fl c.ag (.slice A1 c.sl.length n1) (.slice A2 c.mo.length n2)) (by clear j1 j2 j3 jb; simp [results, Try.results36, go_sem, *]) rfl ⟨_, _, _, _, rfl, ownsRow_low j1 (by have := L0.out; omega), ownsRow_low j2 (by have := L1.out; have := SZ.out; omega), KO.out, jb⟩
end Go.Proofs.Ytdikdkllbhanfaa
