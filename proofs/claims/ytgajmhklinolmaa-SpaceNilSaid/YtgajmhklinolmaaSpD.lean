/- Walk of space.own: a deep copy. -/
import Derived.Test.YtgajmhklinolmaaSpC
namespace Go.Proofs.Ytgajmhklinolmaa
set_option linter.all false
open Go.RowKit Go.Sort Go.Deep

theorem run_copyV {w : World} {ty : TypeId} {g : Nat} {sv : Value} {xs : List Val} (cap : Nat) (hsv : IsV w sv xs) {cur : Array Value} {t : TypeId} (hg : w.heap[g]? = some (.cells cur t (0, 0))) (hc : cur.size = xs.length * 3) :
    (Builtin.copy_ #[36, 36] ty #[.slice (some ⟨g, 0, none⟩) xs.length cap, sv]).run Try.prog w = .ok (goInt xs.length) (w.setRow g (flat Val.cs xs).toArray) := by
  have hsz : (Try.prog.info? 66).map (·.size) = some 3 := by kernel_rfl
  by_cases h0 : xs.length = 0
  · obtain rfl : xs = [] := List.eq_nil_of_length_eq_zero h0
    obtain ⟨A, c, rfl, _⟩ := hsv.form
    obtain rfl : cur = #[] := by simpa using hc
    have e : w.setRow g (flat Val.cs []).toArray = w := setRow_self w g #[] t _ hg
    rw [e]
    cases hq : Try.prog.info? 66 with
    | none => simp [hq] at hsz
    | some i => cases A <;> simp [Builtin.copy_, run_underlying Try.underlying36, Builtin.lenOf, sizeOf, typeInfo, hq, Builtin.firstCells, loadCells, loadCellsFrom, storeCells]
  · obtain ⟨ad, c, rfl, hsrc⟩ := hsv.src cs_len (by omega)
    have hlen := flat_len cs_len xs
    have hrun := run_copyN w 36 36 ty 66 3 g xs.length cap ad xs.length c cur t (flat Val.cs xs) Try.underlying36 hsz hg (by rw [show Nat.min xs.length xs.length = xs.length from Nat.min_self _]; exact hlen) hsrc (by omega) one_cs
    rw [show Nat.min xs.length xs.length = xs.length from Nat.min_self _, List.drop_eq_nil_of_le (by rw [hlen]; simp [hc]), List.append_nil] at hrun
    exact hrun

theorem sr_cell (w : World) (g b o : Nat) (cs : Array Value) (h : b ≠ g) : (w.setRow g cs).cell? ⟨b, o, none⟩ = w.cell? ⟨b, o, none⟩ := cell_setRow_other w g cs _ h
theorem sr_frozen (w : World) (g b o : Nat) (cs : Array Value) (h : b ≠ g) : (w.setRow g cs).frozen? ⟨b, o, none⟩ = w.frozen? ⟨b, o, none⟩ := World.frozen?_of_block (a := ⟨b, o, none⟩) (setRow_other w g b cs h)
theorem ne_02 (a : Nat) : (a = a + 1 + 1) = False := eq_false (by omega)
theorem ne_03 (a : Nat) : (a = a + 1 + 1 + 1) = False := eq_false (by omega)
theorem ne_12 (a : Nat) : (a + 1 = a + 1 + 1) = False := eq_false (by omega)
theorem ne_13 (a : Nat) : (a + 1 = a + 1 + 1 + 1) = False := eq_false (by omega)
attribute [go_sem] sr_cell sr_frozen size_setRow ne_02 ne_03 ne_12 ne_13
theorem hp_0 (w : World) (a b c d : Obj) : ((((w.alloc a).alloc b).alloc c).alloc d).drew.heap[w.heap.size]? = some a := by
  rw [heap_drew]
  exact (heap_alloc_old _ _ (by simp only [World.alloc, Array.size_push]; omega)).trans ((heap_alloc_old _ _ (by simp only [World.alloc, Array.size_push]; omega)).trans ((heap_alloc_old _ _ (by simp only [World.alloc, Array.size_push]; omega)).trans (heap_alloc_new _ _)))
theorem hp_1 (w : World) (a b c d : Obj) : ((((w.alloc a).alloc b).alloc c).alloc d).drew.heap[w.heap.size + 1]? = some b := by
  have e : (w.alloc a).heap.size = w.heap.size + 1 := by simp
  rw [← e, heap_drew]
  exact (heap_alloc_old _ _ (by simp only [World.alloc, Array.size_push]; omega)).trans ((heap_alloc_old _ _ (by simp only [World.alloc, Array.size_push]; omega)).trans (heap_alloc_new _ _))
theorem hp_2 (w : World) (a b c d : Obj) : ((((w.alloc a).alloc b).alloc c).alloc d).drew.heap[w.heap.size + 1 + 1]? = some c := by
  have e : ((w.alloc a).alloc b).heap.size = w.heap.size + 1 + 1 := by simp
  rw [← e, heap_drew]
  exact (heap_alloc_old _ _ (by simp)).trans (heap_alloc_new _ _)
theorem hp_3 (w : World) (a b c d : Obj) : ((((w.alloc a).alloc b).alloc c).alloc d).drew.heap[w.heap.size + 1 + 1 + 1]? = some d := by
  have e : (((w.alloc a).alloc b).alloc c).heap.size = w.heap.size + 1 + 1 + 1 := by simp
  rw [← e, heap_drew]
  exact heap_alloc_new _ _
theorem OwnV_mk {w : World} {lo g : Nat} {xs : List Val} (h : w.heap[g]? = some (.cells (flat Val.cs xs).toArray 66 (0, 0))) (hlo : lo ≤ g) (hm : xs.length ≤ maxLen) : OwnV w lo (.slice (some ⟨g, 0, none⟩) xs.length xs.length) xs := by
  have hl := flat_len cs_len xs
  exact ⟨hl, .inr ⟨g, _, _, rfl, hlo, h, Nat.le_refl _, hm, by simpa using hl, by simp [← hl]⟩⟩

abbrev cellO (k sh fl ag : Int) (sv mv : Value) : Obj := .cells #[.int .i64 k, .int .i64 sh, .int .i64 fl, .int .i64 ag, sv, mv] 38
theorem cells6 {w : World} {b : Nat} {k sh fl ag : Int} {sv mv : Value} (h : w.heap[b]? = some (cellO k sh fl ag sv mv)) : (w.cell? ⟨b, 0, none⟩ = some (.int .i64 k) ∧ w.cell? ⟨b, 1, none⟩ = some (.int .i64 sh) ∧ w.cell? ⟨b, 2, none⟩ = some (.int .i64 fl) ∧
    w.cell? ⟨b, 3, none⟩ = some (.int .i64 ag) ∧ w.cell? ⟨b, 4, none⟩ = some sv ∧ w.cell? ⟨b, 5, none⟩ = some mv) ∧ (w.frozen? ⟨b, 0, none⟩ = false ∧ w.frozen? ⟨b, 1, none⟩ = false ∧ w.frozen? ⟨b, 2, none⟩ = false ∧ w.frozen? ⟨b, 3, none⟩ = false ∧ w.frozen? ⟨b, 4, none⟩ = false ∧ w.frozen? ⟨b, 5, none⟩ = false) := by
  refine ⟨⟨?_, ?_, ?_, ?_, ?_, ?_⟩, ?_, ?_, ?_, ?_, ?_, ?_⟩
  all_goals first | (rw [cell_of_row w b _ _ _ _ h]; rfl) | exact frozen_of_row w b _ _ _ h

set_option maxRecDepth 100000 in
set_option maxHeartbeats 4000000 in
theorem own_any (sv mv : Value) (c : CellD) (w : World) (h1 : IsV w sv c.sl) (h2 : IsV w mv c.mo) (hf : c.fit) :
    Calls Try.prog 29 #[cellV c.k c.sh c.fl c.ag sv mv] w fun e w' => ∃ sv' mv', e = .returned (cellV c.k c.sh c.fl c.ag sv' mv') ∧ OwnV w' w.heap.size sv' c.sl ∧ OwnV w' w.heap.size mv' c.mo ∧ sv'.ownBlock ≠ mv'.ownBlock ∧ Below w.heap.size w w' := by
  have l1 := hf.1.le
  have l2 := hf.2.le
  obtain ⟨A, ca, rfl, hca, hma⟩ := h1.form
  obtain ⟨B, cb, rfl, hcb, hmb⟩ := h2.form
  have mk := make_vals
  have M1 := Lib.hid hma
  have M2 := Lib.hid hmb
  have H1 := Lib.hid h1
  have H2 := Lib.hid h2
  clear hma hmb h1 h2
  go_enter Try.func29, Try.ntmps29
  go_upto_region 1 with fail
  go_cut [3, 4] (fun s t w' => ∃ g1 g2, s = .slice (some ⟨g1, 0, none⟩) c.sl.length c.sl.length ∧ t = .slice (some ⟨g2, 0, none⟩) c.mo.length c.mo.length ∧ w.heap.size + 1 < g1 ∧ w.heap.size + 1 < g2 ∧ g1 ≠ g2 ∧
    w'.heap[g1]? = some (.cells (madeCells zval (c.sl.length * 3)) 66) ∧ w'.heap[g2]? = some (.cells (madeCells zval (c.mo.length * 3)) 66) ∧
    w'.heap[w.heap.size]? = some (cellO c.k c.sh c.fl c.ag (.slice A c.sl.length ca) (.slice B c.mo.length cb)) ∧ w'.heap[w.heap.size + 1]? = some (cellO 0 0 0 0 (.slice none 0 0) (.slice none 0 0)) ∧ Below w.heap.size w w')
  case first => as_aux_lemma =>
    go_region
    all_goals go_wp2_with fail
    all_goals go_meet
    all_goals clear mk
    · refine ⟨_, _, rfl, rfl, by omega, by omega, by omega, hp_2 _ _ _ _ _, hp_3 _ _ _ _ _, hp_0 _ _ _ _ _, hp_1 _ _ _ _ _, by (repeat (with_reducible first | exact Below.refl _ _ | (refine bl_set ?_ (by first | omega | (simp; done) | (simp; omega)) _) | refine bl_gr ?_ _ | refine bl_al ?_ _ | refine below_setRow ?_ (by first | omega | (simp; done) | (simp; omega)) _ | refine bl_drewN ?_ _ | refine Below.drew ?_ | (refine bl_tr ?_ (by assumption))))⟩
    · refine ⟨_, _, rfl, rfl, by omega, by omega, by omega, hp_3 _ _ _ _ _, hp_2 _ _ _ _ _, hp_0 _ _ _ _ _, hp_1 _ _ _ _ _, by (repeat (with_reducible first | exact Below.refl _ _ | (refine bl_set ?_ (by first | omega | (simp; done) | (simp; omega)) _) | refine bl_gr ?_ _ | refine bl_al ?_ _ | refine below_setRow ?_ (by first | omega | (simp; done) | (simp; omega)) _ | refine bl_drewN ?_ _ | refine Below.drew ?_ | (refine bl_tr ?_ (by assumption))))⟩
  case rest => as_aux_lemma =>
    obtain ⟨g1, g2, rfl, rfl, hg1, hg2, hgg, k1, k2, k3, k4, hb⟩ := hcut
    obtain ⟨⟨a0, a1, a2, a3, a4, a5⟩, f0, f1, f2, f3, f4, f5⟩ := cells6 k3
    have K1 := Lib.hid k1
    have K2 := Lib.hid k2
    have K3 := Lib.hid k3
    have K4 := Lib.hid k4
    have HB := Lib.hid hb
    have GG := Lib.hid (And.intro hgg (And.intro hg1 hg2))
    clear k1 k2 k3 k4 hb mk hgg hg1 hg2
    go_wp2
    rw [run_copyV c.sl.length (H1.out.below HB.out) K1.out (made_size _)]
    obtain ⟨w2, hw2⟩ : ∃ w2, w2 = wc.setRow g1 (flat Val.cs c.sl).toArray := ⟨_, rfl⟩
    rw [← hw2]
    have j1 : w2.heap[g1]? = some (.cells (flat Val.cs c.sl).toArray 66) := by rw [hw2]; exact setRow_heap _ _ _ _ _ _ K1.out
    have j2 : w2.heap[g2]? = some (.cells (madeCells zval (c.mo.length * 3)) 66) := by rw [hw2]; exact (setRow_other _ _ _ _ GG.out.1.symm).trans K2.out
    have j3 := (setRow_other wc g1 w.heap.size (flat Val.cs c.sl).toArray (by have := GG.out; omega)).trans K3.out
    have j4 := (setRow_other wc g1 (w.heap.size + 1) (flat Val.cs c.sl).toArray (by have := GG.out; omega)).trans K4.out
    have jb : Below w.heap.size w w2 := by rw [hw2]; exact below_setRow HB.out (by have := GG.out; omega) _
    rw [← hw2] at j3 j4
    clear hw2 a0 a1 a2 a3 a4 a5 f0 f1 f2 f3 f4 f5 K1 K2 K3 K4 HB
    obtain ⟨⟨a0, a1, a2, a3, a4, a5⟩, f0, f1, f2, f3, f4, f5⟩ := cells6 j3
    have K1 := Lib.hid j1
    have K2 := Lib.hid j2
    have K3 := Lib.hid j3
    have K4 := Lib.hid j4
    have HB := Lib.hid jb
    clear j1 j2 j3 j4 jb
    go_wp2
    rw [run_copyV c.mo.length (H2.out.below HB.out) K2.out (made_size _)]
    obtain ⟨w3, hw3⟩ : ∃ w3, w3 = w2.setRow g2 (flat Val.cs c.mo).toArray := ⟨_, rfl⟩
    rw [← hw3]
    have j1 : w3.heap[g1]? = some (.cells (flat Val.cs c.sl).toArray 66) := by rw [hw3]; exact (setRow_other _ _ _ _ GG.out.1).trans K1.out
    have j2 : w3.heap[g2]? = some (.cells (flat Val.cs c.mo).toArray 66) := by rw [hw3]; exact setRow_heap _ _ _ _ _ _ K2.out
    have j3 := (setRow_other w2 g2 w.heap.size (flat Val.cs c.mo).toArray (by have := GG.out; omega)).trans K3.out
    have j4 := (setRow_other w2 g2 (w.heap.size + 1) (flat Val.cs c.mo).toArray (by have := GG.out; omega)).trans K4.out
    have jb : Below w.heap.size w w3 := by rw [hw3]; exact below_setRow HB.out (by have := GG.out; omega) _
    rw [← hw3] at j3 j4
    clear hw3 a0 a1 a2 a3 a4 a5 f0 f1 f2 f3 f4 f5 K1 K2 K3 K4 HB
    obtain ⟨⟨a0, a1, a2, a3, a4, a5⟩, f0, f1, f2, f3, f4, f5⟩ := cells6 j3
    obtain ⟨⟨b0, b1, b2, b3, b4, b5⟩, e0, e1, e2, e3, e4, e5⟩ := cells6 j4
    have K1 := Lib.hid j1
    have K2 := Lib.hid j2
    have K3 := Lib.hid j3
    have K4 := Lib.hid j4
    have HB := Lib.hid jb
    clear j1 j2 j3 j4 jb
    go_upto_region 5 with fail
    obtain ⟨w4, hw4⟩ : ∃ w4, w4 = (w3.setCell ⟨w.heap.size, 4, none⟩ (.slice (some ⟨g1, 0, none⟩) c.sl.length c.sl.length)).setCell ⟨w.heap.size, 5, none⟩ (.slice (some ⟨g2, 0, none⟩) c.mo.length c.mo.length) := ⟨_, rfl⟩
    rw [← hw4]
    have hne : ∀ b, b ≠ w.heap.size → w4.heap[b]? = w3.heap[b]? := fun b hb => by rw [hw4, heap_setCell_other _ _ _ _ hb, heap_setCell_other _ _ _ _ hb]
    have j1 : w4.heap[g1]? = some (.cells (flat Val.cs c.sl).toArray 66) := (hne _ (by have := GG.out; omega)).trans K1.out
    have j2 : w4.heap[g2]? = some (.cells (flat Val.cs c.mo).toArray 66) := (hne _ (by have := GG.out; omega)).trans K2.out
    have j3 : w4.heap[w.heap.size]? = some (cellO c.k c.sh c.fl c.ag (.slice (some ⟨g1, 0, none⟩) c.sl.length c.sl.length) (.slice (some ⟨g2, 0, none⟩) c.mo.length c.mo.length)) := by
      rw [hw4]
      exact heap_setCell_same _ _ _ _ _ _ (heap_setCell_same _ _ _ _ _ _ K3.out)
    have j4 := (hne (w.heap.size + 1) (by omega)).trans K4.out
    have jb : Below w.heap.size w w4 := by rw [hw4]; exact bl_set (bl_set HB.out (Nat.le_refl _) _) (Nat.le_refl _) _
    clear hw4 hne a0 a1 a2 a3 a4 a5 f0 f1 f2 f3 f4 f5 b0 b1 b2 b3 b4 b5 e0 e1 e2 e3 e4 e5 K1 K2 K3 K4 HB
    obtain ⟨⟨a0, a1, a2, a3, a4, a5⟩, _⟩ := cells6 j3
    obtain ⟨⟨b0, b1, b2, b3, b4, b5⟩, e0, e1, e2, e3, e4, e5⟩ := cells6 j4
    have K1 := Lib.hid j1
    have K2 := Lib.hid j2
    have K4 := Lib.hid j4
    have HB := Lib.hid jb
    clear j1 j2 j3 j4 jb
    go_wp2
    obtain ⟨w5, hw5⟩ : ∃ w5, w5 = ((((((w4.setCell ⟨w.heap.size + 1, 0, none⟩ (.int .i64 c.k)).setCell ⟨w.heap.size + 1, 1, none⟩ (.int .i64 c.sh)).setCell ⟨w.heap.size + 1, 2, none⟩ (.int .i64 c.fl)).setCell ⟨w.heap.size + 1, 3, none⟩ (.int .i64 c.ag)).setCell ⟨w.heap.size + 1, 4, none⟩ (.slice (some ⟨g1, 0, none⟩) c.sl.length c.sl.length)).setCell ⟨w.heap.size + 1, 5, none⟩ (.slice (some ⟨g2, 0, none⟩) c.mo.length c.mo.length)) := ⟨_, rfl⟩
    rw [← hw5]
    have j1 : w5.heap[g1]? = some (.cells (flat Val.cs c.sl).toArray 66) := by
      rw [hw5]
      iterate 6 rw [heap_setCell_other _ _ _ _ (by have := GG.out; show g1 ≠ w.heap.size + 1; omega)]
      exact K1.out
    have j2 : w5.heap[g2]? = some (.cells (flat Val.cs c.mo).toArray 66) := by
      rw [hw5]
      iterate 6 rw [heap_setCell_other _ _ _ _ (by have := GG.out; show g2 ≠ w.heap.size + 1; omega)]
      exact K2.out
    have j3 : w5.heap[w.heap.size + 1]? = some (cellO c.k c.sh c.fl c.ag (.slice (some ⟨g1, 0, none⟩) c.sl.length c.sl.length) (.slice (some ⟨g2, 0, none⟩) c.mo.length c.mo.length)) := by
      rw [hw5]
      exact heap_setCell_same _ _ _ _ _ _ (heap_setCell_same _ _ _ _ _ _ (heap_setCell_same _ _ _ _ _ _ (heap_setCell_same _ _ _ _ _ _ (heap_setCell_same _ _ _ _ _ _ (heap_setCell_same _ _ _ _ _ _ K4.out)))))
    have jb : Below w.heap.size w w5 := by
      rw [hw5]
      iterate 6 refine bl_set ?_ (Nat.le_succ _) _
      exact HB.out
    clear hw5 a0 a1 a2 a3 a4 a5 b0 b1 b2 b3 b4 b5 e0 e1 e2 e3 e4 e5 K1 K2 K4 HB
    obtain ⟨⟨a0, a1, a2, a3, a4, a5⟩, _⟩ := cells6 j3
    refine bodyPost_ret (v := cellV c.k c.sh c.fl c.ag (.slice (some ⟨g1, 0, none⟩) c.sl.length c.sl.length) (.slice (some ⟨g2, 0, none⟩) c.mo.length c.mo.length)) (by clear j1 j2 j3 jb; simp [results, Try.results29, go_sem, *]) rfl ⟨_, _, rfl, OwnV_mk j1 (by have := GG.out; omega) M1.out, OwnV_mk j2 (by have := GG.out; omega) M2.out, by simpa [Value.ownBlock] using GG.out.1, jb⟩
end Go.Proofs.Ytgajmhklinolmaa
