/- Inline caches: the reference's New, Drop and Flush. -/
import Derived.Test.YtbgcjgnhblhohaaCaR
namespace Go.Proofs.Ytbgcjgnhblhohaa
set_option linter.all false
open Go.RowKit Go.Sort Go.Deep Go.Shelf

theorem rsite_made (n : Nat) (w : World) (hn : n ≤ 1048576) : IsR (w.alloc (.cells (madeCells zsr (n * 2)) 79)) (.slice (some ⟨w.heap.size, 0, none⟩) n n) (List.replicate n ⟨[], false⟩) := by
  refine ⟨List.replicate n ⟨false, .slice none 0 0⟩, ⟨⟨by simp; unfold maxLen; omega, _, n, by simp, by simp, fun h0 => ⟨w.heap.size, 0, rfl, by simp, fun i x hi j u hj => ?_⟩⟩, fun b off k c e => ?_⟩, by simp, fun i r s hr hs => ?_⟩
  · rw [List.getElem?_replicate] at hi
    split at hi
    · rename_i hlt
      cases hi
      have h2 := Nat.mul_le_mul_right 2 (Nat.succ_le_of_lt hlt)
      have hjj := (List.getElem?_eq_some_iff.1 hj).1
      rw [siter_len] at hjj
      rw [cell_of_row _ _ _ _ _ _ (heap_alloc_new _ _), made_at _ _ _ (by omega), show zsr.size = 2 from rfl]
      rcases (by omega : j = 0 ∨ j = 1) with rfl | rfl
      · rw [show (0 + i * 2 + 0) % 2 = 0 by omega]
        simp at hj
        rw [← hj]
        rfl
      · rw [show (0 + i * 2 + 1) % 2 = 1 by omega]
        simp at hj
        rw [← hj]
        rfl
    · cases hi
  · simp only [Value.slice.injEq, Option.some.injEq, Addr.mk.injEq, and_true] at e
    obtain ⟨⟨rfl, _⟩, _⟩ := e
    exact ⟨_, heap_alloc_new _ _⟩
  · rw [List.getElem?_replicate] at hr hs
    split at hr
    · cases hr
      rename_i hlt
      rw [if_pos hlt] at hs
      cases hs
      exact ⟨rfl, .nil_⟩
    · cases hr
theorem make_rsites (n : Nat) (hn : n ≤ 1048576) (w : World) : (Instr.makeSlice 48 (.int .i64 (n : Int)) (.int .i64 (n : Int))).run Try.prog w = .ok (.slice (some ⟨w.heap.size, 0, none⟩) n n) (w.alloc (.cells (madeCells zsr (n * 2)) 79)) := by
  obtain ⟨i, hi, hzz⟩ := Option.map_eq_some_iff.1 info_siter
  simp only [Prod.mk.injEq] at hzz
  obtain ⟨hz, hs, hb⟩ := hzz
  have := run_make (P := Try.prog) w 48 79 i _ Try.underlying48 hi hz .i64 .i64 n n (by omega) (Int.le_refl _) (by rw [hb]; omega) (by omega)
  simpa [hs, Value.cells] using this
theorem rnew_bad (n m : Int) (w : World) (h : n < 0 ∨ n > 1048576 ∨ m < 0 ∨ m > 4) : Calls Try.prog 17 #[.int .i64 n, .int .i64 m] w fun e w' => e = .returned (.tuple #[refV 0 (.slice none 0 0) 0 0, .int .i64 2]) ∧ Below w.heap.size w w' := by
  have hc : n < 0 ∨ (¬ n < 0 ∧ n > 1048576) ∨ (¬ n < 0 ∧ ¬ n > 1048576 ∧ m < 0) ∨ (¬ n < 0 ∧ ¬ n > 1048576 ∧ ¬ m < 0 ∧ m > 4) := by omega
  clear h
  rcases hc with h1 | ⟨h1, h2⟩ | ⟨h1, h2, h3⟩ | ⟨h1, h2, h3, h4⟩
  all_goals
    go_enter Try.func17, Try.ntmps17
    go_wp2
    refine bodyPost_ret (v := .tuple #[refV 0 (.slice none 0 0) 0 0, .int .i64 2]) (by simp [results, Try.results17, go_sem]) rfl ⟨rfl, by (repeat (with_reducible first | exact Below.refl _ _ | (refine bl_set ?_ (by first | omega | (simp; done) | (simp; omega)) _) | refine bl_gr ?_ _ | refine bl_al ?_ _ | refine below_setRow ?_ (by first | omega | (simp; done) | (simp; omega)) _ | refine bl_drewN ?_ _ | refine Below.drew ?_ | (refine bl_tr ?_ (by assumption))))⟩
def RetRef (c : CacheD) (x : Value) (w : World) (e : Ending) (w' : World) : Prop := ∃ sv, e = .returned (.tuple #[refV c.most sv c.hits c.miss, x]) ∧ IsR w' sv c.sites ∧ Below w.heap.size w w'
theorem rnew_any (n m : Nat) (hn : n ≤ 1048576) (hm : m ≤ 4) (w : World) : Calls Try.prog 17 #[.int .i64 n, .int .i64 m] w (RetRef (newD n m) (.int .i64 0) w) := by
  have h1 : ¬ (n : Int) < 0 := by omega
  have h2 : ¬ (n : Int) > 1048576 := by omega
  have h3 : ¬ (m : Int) < 0 := by omega
  have h4 : ¬ (m : Int) > 4 := by omega
  have MK := make_rsites n hn
  have HN := Lib.hid hn
  clear hn
  go_enter Try.func17, Try.ntmps17
  go_wp2
  refine wp_post (fun Z => Z.heap[w.heap.size]? = some (refO m (.slice (some ⟨w.heap.size + 1, 0, none⟩) n n) 0 0) ∧ Below w.heap.size w Z ∧ IsR Z (.slice (some ⟨w.heap.size + 1, 0, none⟩) n n) (List.replicate n ⟨[], false⟩)) ?_ ?_
  · have H := heapN w [refO m (.slice (some ⟨w.heap.size + 1, 0, none⟩) n n) 0 0, .cells (madeCells zsr (n * 2)) 79]
    have R := rsite_made n (w.alloc (refO m (.slice (some ⟨w.heap.size + 1, 0, none⟩) n n) 0 0)) HN.out
    rw [World.size_alloc] at R
    exact ⟨H.2.2 0 _ rfl, H.2.1, R⟩
  rintro Z ⟨z, hb, hr⟩
  have ZZ := Lib.hid (And.intro hb hr)
  obtain ⟨⟨a0, a1, a2, a3⟩, _⟩ := cells4 z
  clear z hb hr MK
  exact bodyPost_ret (v := .tuple #[refV m (.slice (some ⟨w.heap.size + 1, 0, none⟩) n n) 0 0, .int .i64 0]) (by simp [results, Try.results17, go_sem, *]) rfl ⟨_, rfl, ZZ.out.2, ZZ.out.1⟩

/-! a result of the reference's type written, and what lies elsewhere -/
theorem refO_tag {w : World} {B : Nat} {m x y : Int} {sv : Value} (hB : w.heap[B]? = some (refO m sv x y)) : ∀ k arr, k = B → w.heap[k]? ≠ some (.cells arr 25) ∧ w.heap[k]? ≠ some (.cells arr 79) := fun k arr e => by
  subst e
  rw [hB]
  constructor <;> (intro h; injection h with h; injection h with h1 h2; revert h2; decide)
theorem isR_other {w w' : World} {v : Value} {l : List SiteD} {B : Nat} {m x y : Int} {A : Option Addr} {n k : Nat} (h : IsR w v l) (hB : w.heap[B]? = some (refO m (.slice A n k) x y)) (ht : Touch (fun b => b = B) w w') : IsR w' v l := isR_touch h ht (refO_tag hB)
abbrev put4 (Y : World) (b : Nat) (m : Int) (sv : Value) (x y : Int) : World := (((Y.setCell ⟨b, 0, none⟩ (.int .i64 m)).setCell ⟨b, 1, none⟩ sv).setCell ⟨b, 2, none⟩ (.int .i64 x)).setCell ⟨b, 3, none⟩ (.int .i64 y)
theorem put4_all {Y : World} {b : Nat} {m0 x0 y0 m x y : Int} {A : Option Addr} {n k : Nat} {sv : Value} (h : Y.heap[b]? = some (refO m0 (.slice A n k) x0 y0)) : (put4 Y b m sv x y).heap[b]? = some (refO m sv x y) ∧ Touch (fun k => k = b) Y (put4 Y b m sv x y) :=
  ⟨heap_setCell_same _ _ _ _ _ _ (heap_setCell_same _ _ _ _ _ _ (heap_setCell_same _ _ _ _ _ _ (heap_setCell_same _ _ _ _ _ _ h))), ((((Touch.refl (fun k => k = b) Y).set1 0 _).set1 1 _).set1 2 _).set1 3 _⟩
/-- a result written at the call's own block -/
theorem ref_end {w Y : World} {b : Nat} {m0 x0 y0 m x y : Int} {A A' : Option Addr} {n k n' k' : Nat} {l : List SiteD} (h : Y.heap[b]? = some (refO m0 (.slice A n k) x0 y0)) (hb : w.heap.size ≤ b) (hY : Below w.heap.size w Y) (hR : IsR Y (.slice A' n' k') l) :
    (put4 Y b m (.slice A' n' k') x y).heap[b]? = some (refO m (.slice A' n' k') x y) ∧ Below w.heap.size w (put4 Y b m (.slice A' n' k') x y) ∧ IsR (put4 Y b m (.slice A' n' k') x y) (.slice A' n' k') l := by
  obtain ⟨h1, h2⟩ := put4_all (m := m) (x := x) (y := y) (sv := .slice A' n' k') h
  exact ⟨h1, hY.trans (h2.below hY.size (by omega)), isR_other hR h h2⟩

/-! Drop -/
theorem rdrop_any (c : CacheD) (sv : Value) (n : Int) (hl : c.sites.length ≤ 1000) (w : World) (hR : IsR w sv c.sites) : Calls Try.prog 26 #[refV c.most sv c.hits c.miss, .int .i64 n] w (RetRef (dropC c n).1 (.bool (dropC c n).2) w) := by
  obtain ⟨A, cap, rfl, _, _⟩ := hR.form
  have H := Lib.hid hR
  cases hs : siteD c n with
  | none =>
    have E := Lib.hid (show dropC c n = (c, false) by simp [dropC, hs])
    have HA := Lib.hid (fun W => hasC (W := w) hR false (by rw [hs]; rfl) c.most c.hits c.miss W)
    clear hs hR
    go_enter Try.func26, Try.ntmps26
    go_wp2_with (go_at_call 31; refine (callGr (HA.out _)).mono ?_; rintro e w' ⟨pp, rfl, rfl⟩)
    refine bodyPost_ret (v := .tuple #[refV c.most (.slice A c.sites.length cap) c.hits c.miss, .bool false]) (by simp [results, Try.results26, go_sem]) rfl ⟨_, by rw [E.out], by rw [E.out]; exact H.out.below (by (repeat (with_reducible first | exact Below.refl _ _ | (refine bl_set ?_ (by first | omega | (simp; done) | (simp; omega)) _) | refine bl_gr ?_ _ | refine bl_al ?_ _ | refine below_setRow ?_ (by first | omega | (simp; done) | (simp; omega)) _ | refine bl_drewN ?_ _ | refine Below.drew ?_ | (refine bl_tr ?_ (by assumption))))), by (repeat (with_reducible first | exact Below.refl _ _ | (refine bl_set ?_ (by first | omega | (simp; done) | (simp; omega)) _) | refine bl_gr ?_ _ | refine bl_al ?_ _ | refine below_setRow ?_ (by first | omega | (simp; done) | (simp; omega)) _ | refine bl_drewN ?_ _ | refine Below.drew ?_ | (refine bl_tr ?_ (by assumption))))⟩
  | some st =>
    obtain ⟨j, rfl, hj, hsj⟩ := siteD_some hs
    have E := Lib.hid (show dropC c j = (putS c j ⟨[], false⟩, true) by simp [dropC, hs])
    have HA := Lib.hid (fun W => hasC (W := w) hR true (by rw [hs]; rfl) c.most c.hits c.miss W)
    have WI := Lib.hid (fun W hW => with_any c.most c.hits c.miss (.slice A c.sites.length cap) (.slice none 0 0) c.sites j false [] hj hl W hW .nil_)
    clear hs hR hsj
    go_enter Try.func26, Try.ntmps26
    go_upto_region 3 with (go_at_call 31; refine (callGr (HA.out _)).mono ?_; rintro e w' ⟨pp, rfl, rfl⟩)
    refine wp_world (fun W => W.heap[w.heap.size]? = some (refO c.most (.slice A c.sites.length cap) c.hits c.miss) ∧ W.heap[w.heap.size + 1]? = some (refO 0 (.slice none 0 0) 0 0) ∧ Below w.heap.size w W) (by
      have h := heapN w [refO c.most (.slice A c.sites.length cap) c.hits c.miss, refO 0 (.slice none 0 0) 0 0]
      have b := below_gr (([refO c.most (.slice A c.sites.length cap) c.hits c.miss, refO 0 (.slice none 0 0) 0 0].foldl World.alloc w)) pp
      exact ⟨(b.block _ (by rw [h.1]; simp)).trans (h.2.2 0 _ rfl), (b.block _ (by rw [h.1]; simp)).trans (h.2.2 1 _ rfl), bl_tr h.2.1 b⟩) ?_
    rintro W ⟨j1, j2, jb⟩
    have l2 := (Array.getElem?_eq_some_iff.1 j2).1
    have J := Lib.hid (And.intro j1 (And.intro j2 jb))
    obtain ⟨⟨a0, a1, a2, a3⟩, _⟩ := cells4 j1
    clear j1 j2 jb
    go_wp2_with (go_at_call 32; refine (WI.out _ (H.out.below J.out.2.2)).mono ?_; rintro e w1 ⟨A5, n5, rfl, h5, hb5⟩; have O5 := Lib.hid (And.intro h5 hb5); obtain ⟨⟨b0, b1, b2, b3⟩, y0, y1, y2, y3⟩ := cells4 ((hb5.block _ l2).trans J.out.2.1); clear h5 hb5)
    refine wp_post (fun Z => Z.heap[w.heap.size + 1]? = some (refO c.most (.slice A5 c.sites.length n5) c.hits c.miss) ∧ Below w.heap.size w Z ∧ IsR Z (.slice A5 c.sites.length n5) (c.sites.set j ⟨[], false⟩)) (ref_end ((O5.out.2.block _ l2).trans J.out.2.1) (by omega) (bl_tr J.out.2.2 O5.out.2) O5.out.1) ?_
    rintro Z ⟨z, hb, hr⟩
    have ZZ := Lib.hid (And.intro hb hr)
    clear a0 a1 a2 a3 b0 b1 b2 b3 y0 y1 y2 y3 hb hr
    obtain ⟨⟨a0, a1, a2, a3⟩, _⟩ := cells4 z
    clear z
    refine bodyPost_ret (v := .tuple #[refV c.most (.slice A5 c.sites.length n5) c.hits c.miss, .bool true]) (by simp [results, Try.results26, go_sem, *]) rfl ⟨_, by rw [E.out]; rfl, by rw [E.out]; exact ZZ.out.2, ZZ.out.1⟩

/-! Flush -/
theorem rflush_any (c : CacheD) (sv : Value) (hl : c.sites.length ≤ 1000) (w : World) (hR : IsR w sv c.sites) : Calls Try.prog 27 #[refV c.most sv c.hits c.miss] w fun e w' => ∃ sv', e = .returned (refV c.most sv' c.hits c.miss) ∧ IsR w' sv' (flushC c).sites ∧ Below w.heap.size w w' := by
  obtain ⟨A, cap, rfl, _, _⟩ := hR.form
  have MK := make_rsites c.sites.length (by omega)
  have E := Lib.hid (show (flushC c).sites = List.replicate c.sites.length ⟨[], false⟩ by simp [flushC, List.map_const'])
  clear hR
  generalize c.sites.length = n at *
  go_enter Try.func27, Try.ntmps27
  go_wp2
  refine wp_post (fun Z => Z.heap[w.heap.size + 1]? = some (refO c.most (.slice (some ⟨w.heap.size + 1 + 1, 0, none⟩) n n) c.hits c.miss) ∧ Below w.heap.size w Z ∧ IsR Z (.slice (some ⟨w.heap.size + 1 + 1, 0, none⟩) n n) (List.replicate n ⟨[], false⟩)) ?_ ?_
  · have H := heapN w [refO c.most (.slice (some ⟨w.heap.size + 1 + 1, 0, none⟩) n n) c.hits c.miss, refO c.most (.slice (some ⟨w.heap.size + 1 + 1, 0, none⟩) n n) c.hits c.miss, .cells (madeCells zsr (n * 2)) 79]
    have R := rsite_made n ((w.alloc (refO c.most (.slice (some ⟨w.heap.size + 1 + 1, 0, none⟩) n n) c.hits c.miss)).alloc (refO c.most (.slice (some ⟨w.heap.size + 1 + 1, 0, none⟩) n n) c.hits c.miss)) (by omega)
    rw [World.size_alloc, World.size_alloc] at R
    exact ⟨H.2.2 1 _ rfl, H.2.1, R⟩
  rintro Z ⟨z, hb, hr⟩
  have ZZ := Lib.hid (And.intro hb hr)
  obtain ⟨⟨a0, a1, a2, a3⟩, _⟩ := cells4 z
  clear z hb hr MK
  exact bodyPost_ret (v := refV c.most (.slice (some ⟨w.heap.size + 1 + 1, 0, none⟩) n n) c.hits c.miss) (by simp [results, Try.results27, go_sem, *]) rfl ⟨_, rfl, by rw [E.out]; exact ZZ.out.2, ZZ.out.1⟩
end Go.Proofs.Ytbgcjgnhblhohaa
