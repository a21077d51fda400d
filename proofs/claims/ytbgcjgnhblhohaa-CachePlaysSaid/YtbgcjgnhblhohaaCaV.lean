/- Inline caches: Flush. -/
import Derived.Test.YtbgcjgnhblhohaaCaU
import Derived.Lib.SliceRun
import Derived.Deep.Upon
namespace Go.Proofs.Ytbgcjgnhblhohaa
set_option linter.all false
open Go.RowKit Go.Sort Go.Deep Go.Shelf

/-- a whole block turned cell by cell -/
theorem heap_setCells (b : Nat) (T : TypeId) : ∀ (vs : List Value) (o : Nat) (w : World) (arr : Array Value), w.heap[b]? = some (.cells arr T) → ∃ arr', (w.setCells b o vs).heap[b]? = some (.cells arr' T) ∧ arr'.size = arr.size
  | [], _, _, arr, h => ⟨arr, h, rfl⟩
  | v :: vs, o, w, arr, h => by
    obtain ⟨a, h1, h2⟩ := heap_setCells b T vs (o + 1) (w.setCell ⟨b, o, none⟩ v) _ (heap_setCell_same w b o _ T v h)
    exact ⟨a, h1, by rw [h2, Array.size_setIfInBounds]⟩
theorem setCells_whole {w : World} {b : Nat} {T : TypeId} {arr : Array Value} {vs : List Value} (h : w.heap[b]? = some (.cells arr T)) (hn : vs.length = arr.size) : (w.setCells b 0 vs).heap[b]? = some (.cells vs.toArray T) := by
  obtain ⟨a, h1, h2⟩ := heap_setCells b T vs 0 w arr h
  rw [h1]
  congr 2
  apply Array.ext_getElem?
  intro j
  by_cases hj : j < vs.length
  · have := World.cell?_setCells_in b vs 0 w (fun k hk => by
      rw [cell_of_row w b _ _ _ _ h, Array.getElem?_eq_getElem (by omega)]
      rfl) j hj
    rw [Nat.zero_add, cell_of_row _ b _ _ _ _ h1] at this
    rw [this, List.getElem?_toArray, List.getElem?_eq_getElem hj]
  · rw [Array.getElem?_eq_none (by omega), List.getElem?_toArray, List.getElem?_eq_none (by omega)]
theorem touch_setCells (b : Nat) : ∀ (vs : List Value) (o : Nat) (w : World), Touch (fun k => k = b) w (w.setCells b o vs)
  | [], _, w => Touch.refl _ w
  | v :: vs, o, w => ((Touch.refl (fun k => k = b) w).set1 o v).trans (touch_setCells b vs (o + 1) _) (fun _ _ h => h)
/-- clear of a slice of sites -/
theorem run_clear_sites {w : World} {S n : Nat} {arr : Array Value} (hS : w.heap[S]? = some (.cells arr 65)) (hn : arr.size = n * 34) (ty : TypeId) :
    (Builtin.clear_ #[58] ty #[.slice (some ⟨S, 0, none⟩) n n]).run Try.prog w = .ok (.tuple #[]) (w.setCells S 0 (madeCells zsite (n * 34)).toList) := by
  cases n with
  | zero =>
    have e : (madeCells zsite (0 * 34)).toList = [] := by simp [madeCells]
    rw [e]
    simp [Builtin.clear_, run_underlying Try.underlying58, World.setCells]
  | succ m =>
    obtain ⟨i, hi, hzz⟩ := Option.map_eq_some_iff.1 info_site
    simp only [Prod.mk.injEq] at hzz
    obtain ⟨hz, hs, hb⟩ := hzz
    have hv : ∀ w, (zeroValue 65).run Try.prog w = .ok (.agg zsite) w := fun w => by
      simp [zeroValue, typeInfo, hi, hz]
    have hst := run_storeCells_cells (P := Try.prog) S 0 (madeCells zsite ((m + 1) * 34)).toList 0 w (fun j hj => by
        rw [cell_of_row w S _ _ _ _ hS, Array.getElem?_eq_getElem (by simp [madeCells] at hj; omega)]
        rfl) (fun j hj => frozen_of_row w S _ _ _ hS) (fun v hv => by
        simp only [madeCells, Array.toList_map, List.mem_map, Array.toList_range, List.mem_range] at hv
        obtain ⟨k, _, rfl⟩ := hv
        have hk : k % zsite.size < 34 := Nat.mod_lt _ (by decide)
        generalize k % zsite.size = q at hk
        have : ∀ q : Fin 34, (zsite[q.val]!).oneCell' = true := by decide
        exact this ⟨q, hk⟩)
    simp only [Nat.add_zero] at hst
    have hzc : Builtin.zeroCells (Value.agg zsite).cells (m + 1) = madeCells zsite ((m + 1) * 34) := rfl
    simp [Builtin.clear_, run_underlying Try.underlying58, hv, hzc, hst]
def RetFlush (C S : Nat) (c : CacheD) (w : World) (e : Ending) (w' : World) : Prop := e = .returned (.tuple #[]) ∧ CacheIn w' C S (flushC c) ∧ Tch C S w w'
theorem flush_in {w : World} {C S : Nat} {c : CacheD} (h : CacheIn w C S c) : CacheIn (w.setCells S 0 (madeCells zsite (c.sites.length * 34)).toList) C S (flushC c) ∧ Tch C S w (w.setCells S 0 (madeCells zsite (c.sites.length * 34)).toList) := by
  have T := touch_setCells S (madeCells zsite (c.sites.length * 34)).toList 0 w
  obtain ⟨arr, ha, hz, hb⟩ := h.body
  refine ⟨⟨h.ne, by simpa [flushC] using h.le, ?_, _, setCells_whole ha (by simp [madeCells, hz]), by simp [madeCells, flushC], fun i s hs => ?_⟩, T.mono fun i _ e => .inr e⟩
  · have := (T.block C h.ltC h.ne).trans h.head
    simpa [flushC] using this
  · simp only [flushC, List.getElem?_map, Option.map_eq_some_iff] at hs
    obtain ⟨s0, hs0, rfl⟩ := hs
    exact site_made _ _ (List.getElem?_eq_some_iff.1 hs0).1
set_option maxRecDepth 100000 in
theorem flush_any {C S : Nat} {c : CacheD} (w : World) (h : CacheIn w C S c) : Calls Try.prog 20 #[.pointer (some ⟨C, 0, none⟩)] w (RetFlush C S c w) := by
  obtain ⟨arr, ha, hz, _⟩ := h.body
  obtain ⟨a0, a1, a2, a3, _⟩ := h.cells
  have MK := fun ty => run_clear_sites ha hz ty
  have H := Lib.hid (flush_in h)
  generalize (madeCells zsite (c.sites.length * 34)).toList = vs at *
  clear h ha hz
  go_enter Try.func20, Try.ntmps20
  go_wp2
  go_end0
  exact ⟨rfl, H.out⟩
end Go.Proofs.Ytbgcjgnhblhohaa
