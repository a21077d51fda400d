/- Inline caches: New, State, Drop, Hits, Misses and Flush, by the program. -/
import Derived.Test.YtbgcjgnhblhohaaCaF
namespace Go.Proofs.Ytbgcjgnhblhohaa
set_option linter.all false
open Go.RowKit Go.Sort Go.Deep Go.Shelf

/-! State, Hits, Misses -/
theorem state_nil (n : Int) (w : World) : Calls Try.prog 10 #[.pointer none, .int .i64 n] w fun e w' => e = .returned (.int .i64 0) ∧ Below w.heap.size w w' := by
  go_enter Try.func10, Try.ntmps10
  go_wp2_with (go_at_call 21; refine (site_nil _ _).mono ?_; rintro e w' ⟨rfl, rfl⟩)
  go_ret
  exact ⟨rfl, by (repeat (with_reducible first | exact Below.refl _ _ | (refine bl_set ?_ (by first | omega | (simp; done) | (simp; omega)) _) | refine bl_gr ?_ _ | refine bl_al ?_ _ | refine below_setRow ?_ (by first | omega | (simp; done) | (simp; omega)) _ | refine bl_drewN ?_ _ | refine Below.drew ?_ | (refine bl_tr ?_ (by assumption))))⟩
theorem state_any {C S : Nat} {c : CacheD} (n : Int) (w : World) (h : CacheIn w C S c) : Calls Try.prog 10 #[.pointer (some ⟨C, 0, none⟩), .int .i64 n] w fun e w' => e = .returned (.int .i64 (stateD c n)) ∧ Below w.heap.size w w' := by
  have H := Lib.hid h
  cases hs : siteD c n with
  | none =>
    have HS := Lib.hid hs
    have E := Lib.hid (show stateD c n = 0 by simp [stateD, hs])
    clear hs h
    go_enter Try.func10, Try.ntmps10
    go_wp2_with (go_at_call 21; refine (site_out _ _ H.out HS.out).mono ?_; rintro e w' ⟨rfl, rfl⟩)
    go_ret
    exact ⟨by rw [E.out]; rfl, by (repeat (with_reducible first | exact Below.refl _ _ | (refine bl_set ?_ (by first | omega | (simp; done) | (simp; omega)) _) | refine bl_gr ?_ _ | refine bl_al ?_ _ | refine below_setRow ?_ (by first | omega | (simp; done) | (simp; omega)) _ | refine bl_drewN ?_ _ | refine Below.drew ?_ | (refine bl_tr ?_ (by assumption))))⟩
  | some s =>
    obtain ⟨j, rfl, hj, hsj⟩ := siteD_some hs
    obtain ⟨_, s32, s33, _⟩ := h.site hsj
    cases hm : s.many
    · rw [hm] at s33
      have E := Lib.hid (show stateD c j = min (s.l.length : Int) 2 by simp [stateD, hs, hm])
      clear hs h hsj hm
      go_enter Try.func10, Try.ntmps10
      go_wp2_with (go_at_call 21; refine (site_in j _ H.out hj).mono ?_; rintro e w' ⟨rfl, rfl⟩)
      all_goals go_ret
      all_goals exact ⟨ret_int (by rw [E.out]; first | omega | (split <;> omega)), by (repeat (with_reducible first | exact Below.refl _ _ | (refine bl_set ?_ (by first | omega | (simp; done) | (simp; omega)) _) | refine bl_gr ?_ _ | refine bl_al ?_ _ | refine below_setRow ?_ (by first | omega | (simp; done) | (simp; omega)) _ | refine bl_drewN ?_ _ | refine Below.drew ?_ | (refine bl_tr ?_ (by assumption))))⟩
    · rw [hm] at s33
      have E := Lib.hid (show stateD c j = 3 by simp [stateD, hs, hm])
      clear hs h hsj hm
      go_enter Try.func10, Try.ntmps10
      go_wp2_with (go_at_call 21; refine (site_in j _ H.out hj).mono ?_; rintro e w' ⟨rfl, rfl⟩)
      go_ret
      exact ⟨by rw [E.out]; rfl, by (repeat (with_reducible first | exact Below.refl _ _ | (refine bl_set ?_ (by first | omega | (simp; done) | (simp; omega)) _) | refine bl_gr ?_ _ | refine bl_al ?_ _ | refine below_setRow ?_ (by first | omega | (simp; done) | (simp; omega)) _ | refine bl_drewN ?_ _ | refine Below.drew ?_ | (refine bl_tr ?_ (by assumption))))⟩
theorem hits_nil (w : World) : Calls Try.prog 15 #[.pointer none] w fun e w' => e = .returned (.int .i64 0) ∧ Below w.heap.size w w' := by
  go_enter Try.func15, Try.ntmps15
  go_wp2
  go_ret
  exact ⟨rfl, by (repeat (with_reducible first | exact Below.refl _ _ | (refine bl_set ?_ (by first | omega | (simp; done) | (simp; omega)) _) | refine bl_gr ?_ _ | refine bl_al ?_ _ | refine below_setRow ?_ (by first | omega | (simp; done) | (simp; omega)) _ | refine bl_drewN ?_ _ | refine Below.drew ?_ | (refine bl_tr ?_ (by assumption))))⟩
theorem hits_any {C S : Nat} {c : CacheD} (w : World) (h : CacheIn w C S c) : Calls Try.prog 15 #[.pointer (some ⟨C, 0, none⟩)] w fun e w' => e = .returned (.int .i64 c.hits) ∧ Below w.heap.size w w' := by
  obtain ⟨_, _, c2, _⟩ := h.cells
  go_enter Try.func15, Try.ntmps15
  go_wp2
  go_ret
  exact ⟨rfl, by (repeat (with_reducible first | exact Below.refl _ _ | (refine bl_set ?_ (by first | omega | (simp; done) | (simp; omega)) _) | refine bl_gr ?_ _ | refine bl_al ?_ _ | refine below_setRow ?_ (by first | omega | (simp; done) | (simp; omega)) _ | refine bl_drewN ?_ _ | refine Below.drew ?_ | (refine bl_tr ?_ (by assumption))))⟩
theorem misses_nil (w : World) : Calls Try.prog 16 #[.pointer none] w fun e w' => e = .returned (.int .i64 0) ∧ Below w.heap.size w w' := by
  go_enter Try.func16, Try.ntmps16
  go_wp2
  go_ret
  exact ⟨rfl, by (repeat (with_reducible first | exact Below.refl _ _ | (refine bl_set ?_ (by first | omega | (simp; done) | (simp; omega)) _) | refine bl_gr ?_ _ | refine bl_al ?_ _ | refine below_setRow ?_ (by first | omega | (simp; done) | (simp; omega)) _ | refine bl_drewN ?_ _ | refine Below.drew ?_ | (refine bl_tr ?_ (by assumption))))⟩
theorem misses_any {C S : Nat} {c : CacheD} (w : World) (h : CacheIn w C S c) : Calls Try.prog 16 #[.pointer (some ⟨C, 0, none⟩)] w fun e w' => e = .returned (.int .i64 c.miss) ∧ Below w.heap.size w w' := by
  obtain ⟨_, _, _, c3, _⟩ := h.cells
  go_enter Try.func16, Try.ntmps16
  go_wp2
  go_ret
  exact ⟨rfl, by (repeat (with_reducible first | exact Below.refl _ _ | (refine bl_set ?_ (by first | omega | (simp; done) | (simp; omega)) _) | refine bl_gr ?_ _ | refine bl_al ?_ _ | refine below_setRow ?_ (by first | omega | (simp; done) | (simp; omega)) _ | refine bl_drewN ?_ _ | refine Below.drew ?_ | (refine bl_tr ?_ (by assumption))))⟩

/-! Drop -/
theorem drop_nil (n : Int) (w : World) : Calls Try.prog 11 #[.pointer none, .int .i64 n] w fun e w' => e = .returned (.bool false) ∧ Below w.heap.size w w' := by
  go_enter Try.func11, Try.ntmps11
  go_wp2_with (go_at_call 21; refine (site_nil _ _).mono ?_; rintro e w' ⟨rfl, rfl⟩)
  go_ret
  exact ⟨rfl, by (repeat (with_reducible first | exact Below.refl _ _ | (refine bl_set ?_ (by first | omega | (simp; done) | (simp; omega)) _) | refine bl_gr ?_ _ | refine bl_al ?_ _ | refine below_setRow ?_ (by first | omega | (simp; done) | (simp; omega)) _ | refine bl_drewN ?_ _ | refine Below.drew ?_ | (refine bl_tr ?_ (by assumption))))⟩
def RetDrop (C S : Nat) (c : CacheD) (n : Int) (w : World) (e : Ending) (w' : World) : Prop := e = .returned (.bool (dropC c n).2) ∧ CacheIn w' C S (dropC c n).1 ∧ Tch C S w w'
theorem drop_any {C S : Nat} {c : CacheD} (n : Int) (w : World) (h : CacheIn w C S c) : Calls Try.prog 11 #[.pointer (some ⟨C, 0, none⟩), .int .i64 n] w (RetDrop C S c n w) := by
  have H := Lib.hid h
  cases hs : siteD c n with
  | none =>
    have HS := Lib.hid hs
    have E := Lib.hid (show dropC c n = (c, false) by simp [dropC, hs])
    clear hs h
    go_enter Try.func11, Try.ntmps11
    go_wp2_with (go_at_call 21; refine (site_out _ _ H.out HS.out).mono ?_; rintro e w' ⟨rfl, rfl⟩)
    go_ret
    exact ⟨by rw [E.out]; rfl, by rw [E.out]; exact H.out, Touch.refl _ _⟩
  | some s =>
    obtain ⟨j, rfl, hj, hsj⟩ := siteD_some hs
    obtain ⟨_, s32, s33, fS, _⟩ := h.site hsj
    have E := Lib.hid (show dropC c j = (putS c j ⟨[], false⟩, true) by simp [dropC, hs])
    have f0 := fS (j * 34 + 32)
    have f1 := fS (j * 34 + 33)
    have GO := Lib.hid (h.gone hsj false)
    have TT := Lib.hid (((Touch.refl (fun k => k = S) w).set1 (j * 34 + 32) (.int .i64 0)).set1 (j * 34 + 33) (.bool false))
    clear hs h hsj fS
    go_enter Try.func11, Try.ntmps11
    go_wp2_with (go_at_call 21; refine (site_in j _ H.out hj).mono ?_; rintro e w' ⟨rfl, rfl⟩)
    go_ret
    exact ⟨by rw [E.out]; rfl, by rw [E.out]; exact GO.out, TT.out.mono fun _ _ h => .inr h⟩

/-! New -/
abbrev zsite : Array Value := #[.int .i64 0, .int .i64 0, .string ⟨#[]⟩, .int .i64 0, .int .i64 0, .int .i64 0, .int .i64 0, .int .i64 0, .int .i64 0, .int .i64 0, .string ⟨#[]⟩, .int .i64 0, .int .i64 0, .int .i64 0, .int .i64 0, .int .i64 0,
  .int .i64 0, .int .i64 0, .string ⟨#[]⟩, .int .i64 0, .int .i64 0, .int .i64 0, .int .i64 0, .int .i64 0, .int .i64 0, .int .i64 0, .string ⟨#[]⟩, .int .i64 0, .int .i64 0, .int .i64 0, .int .i64 0, .int .i64 0, .int .i64 0, .bool false]
theorem info_site : (Try.prog.info? 65).map (fun i => (i.zero, i.size, i.bytes)) = some (some (.agg zsite), 34, 304) := by kernel_rfl
theorem made_at (z : Array Value) (n k : Nat) (hk : k < n) : (madeCells z n)[k]? = some (z[k % z.size]!) := by
  unfold madeCells
  simp [hk]
theorem site_made (n i : Nat) (hi : i < n) : SiteIn (madeCells zsite (n * 34)) (i * 34) ⟨[], false⟩ := by
  have h := Nat.mul_le_mul_right 34 (Nat.succ_le_of_lt hi)
  refine ⟨by simp, fun j e he => by simp at he, ?_, ?_⟩
  · rw [made_at _ _ _ (by omega), show zsite.size = 34 from rfl, show (i * 34 + 32) % 34 = 32 by omega]
    rfl
  · rw [made_at _ _ _ (by omega), show zsite.size = 34 from rfl, show (i * 34 + 33) % 34 = 33 by omega]
    rfl
theorem make_sites (n : Nat) (hn : n ≤ 1048576) (w : World) : (Instr.makeSlice 58 (.int .i64 (n : Int)) (.int .i64 (n : Int))).run Try.prog w = .ok (.slice (some ⟨w.heap.size, 0, none⟩) n n) (w.alloc (.cells (madeCells zsite (n * 34)) 65)) := by
  obtain ⟨i, hi, hzz⟩ := Option.map_eq_some_iff.1 info_site
  simp only [Prod.mk.injEq] at hzz
  obtain ⟨hz, hs, hb⟩ := hzz
  have := run_make (P := Try.prog) w 58 65 i _ Try.underlying58 hi hz .i64 .i64 n n (by omega) (Int.le_refl _) (by rw [hb]; omega) (by omega)
  simpa [hs, Value.cells] using this
def newD (n m : Nat) : CacheD := ⟨m, List.replicate n ⟨[], false⟩, 0, 0⟩
theorem new_bad (n m : Int) (w : World) (h : n < 0 ∨ n > 1048576 ∨ m < 0 ∨ m > 4) : Calls Try.prog 7 #[.int .i64 n, .int .i64 m] w fun e w' => e = .returned (.tuple #[.pointer none, .int .i64 2]) ∧ w = w' := by
  have hc : n < 0 ∨ (¬ n < 0 ∧ n > 1048576) ∨ (¬ n < 0 ∧ ¬ n > 1048576 ∧ m < 0) ∨ (¬ n < 0 ∧ ¬ n > 1048576 ∧ ¬ m < 0 ∧ m > 4) := by omega
  clear h
  rcases hc with h1 | ⟨h1, h2⟩ | ⟨h1, h2, h3⟩ | ⟨h1, h2, h3, h4⟩
  all_goals
    go_enter Try.func7, Try.ntmps7
    go_wp2
    go_ret2
    exact ⟨rfl, rfl⟩
theorem newD_in (n m : Nat) (hn : n ≤ 1048576) (w : World) : CacheIn ((w.alloc (.cells (madeCells zsite (n * 34)) 65)).alloc (.cells #[.slice (some ⟨w.heap.size, 0, none⟩) n n, .int .i64 m, .int .i64 0, .int .i64 0] 60)) (w.heap.size + 1) w.heap.size (newD n m) := by
  have H := heapN w [.cells (madeCells zsite (n * 34)) 65, .cells #[.slice (some ⟨w.heap.size, 0, none⟩) n n, .int .i64 m, .int .i64 0, .int .i64 0] 60]
  refine ⟨by omega, by simpa [newD] using hn, ?_, _, H.2.2 0 _ rfl, by simp [madeCells, newD], fun i s hs => ?_⟩
  · have := H.2.2 1 _ rfl
    simpa [newD] using this
  · simp only [newD, List.getElem?_replicate] at hs
    split at hs
    · cases hs
      exact site_made n i (by assumption)
    · cases hs
theorem new_any (n m : Nat) (hn : n ≤ 1048576) (hm : m ≤ 4) (w : World) : Calls Try.prog 7 #[.int .i64 n, .int .i64 m] w fun e w' => e = .returned (.tuple #[.pointer (some ⟨w.heap.size + 1, 0, none⟩), .int .i64 0]) ∧ CacheIn w' (w.heap.size + 1) w.heap.size (newD n m) ∧ Below w.heap.size w w' := by
  have h1 : ¬ (n : Int) < 0 := by omega
  have h2 : ¬ (n : Int) > 1048576 := by omega
  have h3 : ¬ (m : Int) < 0 := by omega
  have h4 : ¬ (m : Int) > 4 := by omega
  have MK := make_sites n hn
  have HN := Lib.hid (newD_in n m hn w)
  go_enter Try.func7, Try.ntmps7
  go_wp2
  go_ret2
  exact ⟨rfl, HN.out, by (repeat (with_reducible first | exact Below.refl _ _ | (refine bl_set ?_ (by first | omega | (simp; done) | (simp; omega)) _) | refine bl_gr ?_ _ | refine bl_al ?_ _ | refine below_setRow ?_ (by first | omega | (simp; done) | (simp; omega)) _ | refine bl_drewN ?_ _ | refine Below.drew ?_ | (refine bl_tr ?_ (by assumption))))⟩
end Go.Proofs.Ytbgcjgnhblhohaa
