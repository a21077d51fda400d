/- Weak maps: few, by the law. -/
import Derived.Test.YtdikdkllbhanfaaWkR
import Derived.Test.YtdikdkllbhanfaaUntil
namespace Go.Proofs.Ytdikdkllbhanfaa
set_option linter.all false
open Go.RowKit Go.Sort Go.Deep Go.Shelf

def fewC (c : CellD) : CellD := ⟨c.k, c.sh, c.fl, c.ag, c.sl.take 60, c.mo.take 120⟩
theorem isV_take {w : World} {A : Option Addr} {n : Nat} {xs : List Val} (h : IsV w (.slice A xs.length n) xs) (k : Nat) : IsV w (.slice A (min xs.length k) n) (xs.take k) := by
  obtain ⟨hm, A', cap, e, hc, hx⟩ := h
  simp only [Value.slice.injEq, true_and] at e
  obtain ⟨rfl, rfl⟩ := e
  refine ⟨by rw [List.length_take]; omega, A, n, by rw [List.length_take, Nat.min_comm], by rw [List.length_take]; omega, fun h0 => ?_⟩
  rw [List.length_take] at h0
  obtain ⟨b, off, hA, hb, hx⟩ := hx (by omega)
  refine ⟨b, off, hA, hb, fun i x hi j u hj => hx i x ?_ j u hj⟩
  rw [List.getElem?_take] at hi
  split at hi
  · exact hi
  · cases hi

set_option maxRecDepth 100000 in
set_option maxHeartbeats 8000000 in
theorem few_any (k sh fl ag : Int) (A0 A2 : Option Addr) (l0 n0 l2 n2 : Nat) (hc0 : l0 ≤ n0) (hc2 : l2 ≤ n2) (hm0 : l0 ≤ maxLen) (hm2 : l2 ≤ maxLen) (w : World) :
    Calls Try.prog 8 #[cellV k sh fl ag (.slice A0 l0 n0) (.slice A2 l2 n2)] w fun e w' => e = .returned (cellV k sh fl ag (.slice A0 (min l0 60) n0) (.slice A2 (min l2 120) n2)) ∧ Below w.heap.size w w' := by
  unfold maxLen at hm0 hm2
  have HMN := Lib.hid (show (if (60 : Int) < (l0 : Int) then (60 : Int) else (l0 : Int)) = ((min l0 60 : Nat) : Int) ∧ (if (120 : Int) < (l2 : Int) then (120 : Int) else (l2 : Int)) = ((min l2 120 : Nat) : Int) by constructor <;> split <;> omega)
  have b0 : min l0 60 ≤ n0 := by omega
  have b2 : min l2 120 ≤ n2 := by omega
  have q0 : min l0 60 ≤ 60 := by omega
  have q2 : min l2 120 ≤ 120 := by omega
  have m1 := HMN.out.1
  have m2 := HMN.out.2
  generalize min l0 60 = r0 at *
  generalize min l2 120 = r2 at *
  have p0 : (0 : Int) ≤ (r0 : Int) := by omega
  have p2 : (0 : Int) ≤ (r2 : Int) := by omega
  clear HMN
  go_enter Try.func8, Try.ntmps8
  go_upto_region 1 with fail
  refine wp_world (fun W => W.heap[w.heap.size]? = some (cellO k sh fl ag (.slice A0 l0 n0) (.slice A2 l2 n2)) ∧ W.heap[w.heap.size + 1]? = some (cellO 0 0 0 0 (.slice none 0 0) (.slice none 0 0)) ∧ Below w.heap.size w W) (heap2 w _ _) ?_
  rintro W ⟨j1, j2, jb⟩
  have g0 : w.heap.size < W.heap.size := (Array.getElem?_eq_some_iff.1 j1).1
  have g1 : w.heap.size + 1 < W.heap.size := (Array.getElem?_eq_some_iff.1 j2).1
  obtain ⟨⟨a0, a1, a2, a3, a4, a5⟩, f0, f1, f2, f3, f4, f5⟩ := cells6 j1
  have JJ := Lib.hid (And.intro j1 (And.intro j2 jb))
  clear j1 j2 jb
  (refine wp_region_until (fun Z : World => Z.cell? ⟨w.heap.size, 4, none⟩ = some (.slice A0 l0 n0) ∧ Z.cell? ⟨w.heap.size, 5, none⟩ = some (.slice A2 l2 n2)) [15, 17] Try.mixed (by exact ⟨a4, a5⟩) (fun hS => ?_); (refine wpAnyU_free (i := 0) (v := ?_) rfl (by kernel_rfl) (by kernel_rfl) (by kernel_rfl) (by kernel_rfl) (fun _ _ _ h => h) ?_ (fun _ => by assumption) ?_; rotate_left; (next => (refine Or.inl ⟨by kernel_rfl, ?_⟩; ((intro w hSw; (try dsimp only at hSw); go_simp) <;> with_reducible rfl))); (try simp only [Act.put, List.setIfInBounds_toArray, List.set_cons_zero, List.set_cons_succ])); (refine wpAnyU_take (i := 1) (v := ?_) rfl (by kernel_rfl) (by kernel_rfl) (by kernel_rfl) (by kernel_rfl) (fun _ _ _ h => h) ?_ (by assumption) ?_; rotate_left; (next => (refine Or.inl ⟨by kernel_rfl, ?_⟩; ((intro w hSw; (try dsimp only at hSw); obtain ⟨s0, s1⟩ := hSw; go_simp) <;> with_reducible rfl))); (try simp only [Act.put, List.setIfInBounds_toArray, List.set_cons_zero, List.set_cons_succ])); (refine wpAnyU_free (i := 2) (v := ?_) rfl (by kernel_rfl) (by kernel_rfl) (by kernel_rfl) (by kernel_rfl) (fun _ _ _ h => h) ?_ (fun _ => by assumption) ?_; rotate_left; (next => (refine Or.inl ⟨by kernel_rfl, ?_⟩; ((intro w hSw; (try dsimp only at hSw); go_simp) <;> with_reducible rfl))); (try simp only [Act.put, List.setIfInBounds_toArray, List.set_cons_zero, List.set_cons_succ])); (refine wpAnyU_take (i := 3) (v := ?_) rfl (by kernel_rfl) (by kernel_rfl) (by kernel_rfl) (by kernel_rfl) (fun _ _ _ h => h) ?_ (by assumption) ?_; rotate_left; (next => (refine Or.inl ⟨by kernel_rfl, ?_⟩; ((intro w hSw; (try dsimp only at hSw); obtain ⟨s0, s1⟩ := hSw; go_simp) <;> with_reducible rfl))); (try simp only [Act.put, List.setIfInBounds_toArray, List.set_cons_zero, List.set_cons_succ])); (refine wpAnyU_free (i := 4) (v := ?_) rfl (by kernel_rfl) (by kernel_rfl) (by kernel_rfl) (by kernel_rfl) (fun _ _ _ h => h) ?_ (fun _ => by assumption) ?_; rotate_left; (next => (refine Or.inl ⟨by kernel_rfl, ?_⟩; ((intro w hSw; (try dsimp only at hSw); go_simp) <;> with_reducible rfl))); (try simp only [Act.put, List.setIfInBounds_toArray, List.set_cons_zero, List.set_cons_succ])); (refine wpAnyU_free (i := 5) (v := ?_) rfl (by kernel_rfl) (by kernel_rfl) (by kernel_rfl) (by kernel_rfl) (fun _ _ _ h => h) ?_ (fun _ => by assumption) ?_; rotate_left; (next => (refine Or.inl ⟨by kernel_rfl, ?_⟩; ((intro w hSw; (try dsimp only at hSw); go_simp) <;> with_reducible rfl))); (try simp only [Act.put, List.setIfInBounds_toArray, List.set_cons_zero, List.set_cons_succ])); (refine wpAnyU_free (i := 6) (v := ?_) rfl (by kernel_rfl) (by kernel_rfl) (by kernel_rfl) (by kernel_rfl) (fun _ _ _ h => h) ?_ (fun _ => by assumption) ?_; rotate_left; (next => (refine Or.inl ⟨by kernel_rfl, ?_⟩; ((intro w hSw; (try dsimp only at hSw); go_simp) <;> with_reducible rfl))); (try simp only [Act.put, List.setIfInBounds_toArray, List.set_cons_zero, List.set_cons_succ])); (refine wpAnyU_free (i := 7) (v := ?_) rfl (by kernel_rfl) (by kernel_rfl) (by kernel_rfl) (by kernel_rfl) (fun _ _ _ h => h) ?_ (fun _ => by assumption) ?_; rotate_left; (next => (refine Or.inl ⟨by kernel_rfl, ?_⟩; ((intro w hSw; (try dsimp only at hSw); go_simp) <;> with_reducible rfl))); (try simp only [Act.put, List.setIfInBounds_toArray, List.set_cons_zero, List.set_cons_succ])); (refine wpAnyU_take (i := 8) (v := ?_) rfl (by kernel_rfl) (by kernel_rfl) (by kernel_rfl) (by kernel_rfl) (fun _ _ _ h => h) ?_ (by assumption) ?_; rotate_left; (next => (refine Or.inl ⟨by kernel_rfl, ?_⟩; ((intro w hSw; (try dsimp only at hSw); obtain ⟨s0, s1⟩ := hSw; go_simp) <;> with_reducible rfl))); (try simp only [Act.put, List.setIfInBounds_toArray, List.set_cons_zero, List.set_cons_succ])); (refine wpAnyU_free (i := 9) (v := ?_) rfl (by kernel_rfl) (by kernel_rfl) (by kernel_rfl) (by kernel_rfl) (fun _ _ _ h => h) ?_ (fun _ => by assumption) ?_; rotate_left; (next => (refine Or.inl ⟨by kernel_rfl, ?_⟩; ((intro w hSw; (try dsimp only at hSw); go_simp) <;> with_reducible rfl))); (try simp only [Act.put, List.setIfInBounds_toArray, List.set_cons_zero, List.set_cons_succ])); (refine wpAnyU_take (i := 10) (v := ?_) rfl (by kernel_rfl) (by kernel_rfl) (by kernel_rfl) (by kernel_rfl) (fun _ _ _ h => h) ?_ (by assumption) ?_; rotate_left; (next => (refine Or.inl ⟨by kernel_rfl, ?_⟩; ((intro w hSw; (try dsimp only at hSw); obtain ⟨s0, s1⟩ := hSw; go_simp) <;> with_reducible rfl))); (try simp only [Act.put, List.setIfInBounds_toArray, List.set_cons_zero, List.set_cons_succ])); (refine wpAnyU_free (i := 11) (v := ?_) rfl (by kernel_rfl) (by kernel_rfl) (by kernel_rfl) (by kernel_rfl) (fun _ _ _ h => h) ?_ (fun _ => by assumption) ?_; rotate_left; (next => (refine Or.inl ⟨by kernel_rfl, ?_⟩; ((intro w hSw; (try dsimp only at hSw); go_simp) <;> with_reducible rfl))); (try simp only [Act.put, List.setIfInBounds_toArray, List.set_cons_zero, List.set_cons_succ])); (refine wpAnyU_free (i := 12) (v := ?_) rfl (by kernel_rfl) (by kernel_rfl) (by kernel_rfl) (by kernel_rfl) (fun _ _ _ h => h) ?_ (fun _ => by assumption) ?_; rotate_left; (next => (refine Or.inl ⟨by kernel_rfl, ?_⟩; ((intro w hSw; (try dsimp only at hSw); go_simp) <;> with_reducible rfl))); (try simp only [Act.put, List.setIfInBounds_toArray, List.set_cons_zero, List.set_cons_succ])); (refine wpAnyU_free (i := 13) (v := ?_) rfl (by kernel_rfl) (by kernel_rfl) (by kernel_rfl) (by kernel_rfl) (fun _ _ _ h => h) ?_ (fun _ => by assumption) ?_; rotate_left; (next => (refine Or.inl ⟨by kernel_rfl, ?_⟩; ((intro w hSw; (try dsimp only at hSw); go_simp) <;> with_reducible rfl))); (try simp only [Act.put, List.setIfInBounds_toArray, List.set_cons_zero, List.set_cons_succ])); (refine wpAnyU_free (i := 14) (v := ?_) rfl (by kernel_rfl) (by kernel_rfl) (by kernel_rfl) (by kernel_rfl) (fun _ _ _ h => h) ?_ (fun _ => by assumption) ?_; rotate_left; (next => (refine Or.inl ⟨by kernel_rfl, ?_⟩; ((intro w hSw; (try dsimp only at hSw); go_simp) <;> with_reducible rfl))); (try simp only [Act.put, List.setIfInBounds_toArray, List.set_cons_zero, List.set_cons_succ])); refine wpAnyU_one (i := 15) (by kernel_rfl) rfl (fun K hK => ?_); have HK := Lib.hid hK; clear hK; go_simp; refine HK.out _ _ (fun h => absurd h (by decide)) ?_; clear HK K; (try simp only [Act.put, List.setIfInBounds_toArray, List.set_cons_zero, List.set_cons_succ]); (refine wpAnyU_free (i := 16) (v := ?_) rfl (by kernel_rfl) (by kernel_rfl) (by kernel_rfl) (by kernel_rfl) (fun _ _ _ h => h) ?_ (fun h => absurd h (by decide)) ?_; rotate_left; (next => (refine Or.inl ⟨by kernel_rfl, ?_⟩; ((intro w hSw; (try dsimp only at hSw); go_simp) <;> with_reducible rfl))); (try simp only [Act.put, List.setIfInBounds_toArray, List.set_cons_zero, List.set_cons_succ])); refine wpAnyU_one (i := 17) (by kernel_rfl) rfl (fun K hK => ?_); have HK := Lib.hid hK; clear hK; go_simp; refine HK.out _ _ (fun h => absurd h (by decide)) ?_; clear HK K; (try simp only [Act.put, List.setIfInBounds_toArray, List.set_cons_zero, List.set_cons_succ]); refine wpAnyU_done (by kernel_rfl) ?_ _)
  go_simp
  clear hS
  obtain ⟨Y, hY, hh, hT⟩ : ∃ Y, Y = (W.setCell ⟨w.heap.size, 4, none⟩ (.slice A0 r0 n0)).setCell ⟨w.heap.size, 5, none⟩ (.slice A2 r2 n2) ∧ Y.heap[w.heap.size]? = some (cellO k sh fl ag (.slice A0 r0 n0) (.slice A2 r2 n2)) ∧ Touch (fun b => b = w.heap.size) W Y :=
    ⟨_, rfl, heap_setCell_same _ _ _ _ _ _ (heap_setCell_same _ _ _ _ _ _ JJ.out.1), ((Touch.refl (fun b => b = w.heap.size) W).set1 _ _).set1 _ _⟩
  rw [← hY]
  have hR := (hT.block _ g1 (by omega)).trans JJ.out.2.1
  have hB : Below w.heap.size w Y := JJ.out.2.2.trans (hT.below JJ.out.2.2.size (fun b (e : b = _) => by omega))
  have lY := hT.size
  have YY := Lib.hid (And.intro hh (And.intro hR hB))
  clear hY hT a0 a1 a2 a3 a4 a5 f0 f1 f2 f3 f4 f5 hB hh hR
  go_upto_region 2 with fail
  refine wp_world (fun Z => Z.heap[w.heap.size]? = some (cellO k sh fl ag (.slice A0 r0 n0) (.slice A2 r2 n2)) ∧ Z.heap[w.heap.size + 1]? = some (cellO 0 0 0 0 (.slice none 0 0) (.slice none 0 0)) ∧ Below w.heap.size w Z) ⟨YY.out.1, YY.out.2.1, YY.out.2.2.drew⟩ ?_
  rintro Z ⟨hh, hR, hB⟩
  have g0Y : w.heap.size < Z.heap.size := (Array.getElem?_eq_some_iff.1 hh).1
  have g1Y : w.heap.size + 1 < Z.heap.size := (Array.getElem?_eq_some_iff.1 hR).1
  have ZZ := Lib.hid (And.intro hR hB)
  obtain ⟨⟨a0, a1, a2, a3, a4, a5⟩, _⟩ := cells6 hh
  obtain ⟨⟨x0, x1, x2, x3, x4, x5⟩, y0, y1, y2, y3, y4, y5⟩ := cells6 hR
  clear hh hR hB
  go_wp2
  refine wp_post (fun Y2 => Y2.heap[w.heap.size + 1]? = some (cellO k sh fl ag (.slice A0 r0 n0) (.slice A2 r2 n2)) ∧ Touch (fun b => b = w.heap.size + 1) Z Y2 ∧ Below w.heap.size w Y2) (put6 ZZ.out.2 (by omega) ZZ.out.1) ?_
  rintro Y2 ⟨r1, _, rb⟩
  clear a0 a1 a2 a3 a4 a5 x0 x1 x2 x3 x4 x5 y0 y1 y2 y3 y4 y5
  obtain ⟨⟨b0, b1, b2, b3, b4, b5⟩, _⟩ := cells6 r1
  refine bodyPost_ret (v := cellV k sh fl ag (.slice A0 r0 n0) (.slice A2 r2 n2)) (by clear r1; simp [results, Try.results8, go_sem, *]) rfl ⟨rfl, rb⟩
end Go.Proofs.Ytdikdkllbhanfaa
