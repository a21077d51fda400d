/- Inline caches: what Note, Drop and Flush write. -/
import Derived.Test.YtbgcjgnhblhohaaCaD
namespace Go.Proofs.Ytbgcjgnhblhohaa
set_option linter.all false
open Go.RowKit Go.Sort Go.Deep Go.Shelf

theorem site_fits {c : CacheD} {arr : Array Value} {j : Nat} (hj : j < c.sites.length) (hz : arr.size = c.sites.length * 34) : j * 34 + 34 ≤ arr.size := by
  rw [hz]
  have := Nat.mul_le_mul_right 34 (Nat.succ_le_of_lt hj)
  omega
theorem CacheIn.cell {w : World} {C S : Nat} {c : CacheD} (h : CacheIn w C S c) (k : Nat) (hk : k < c.sites.length * 34) : ∃ v, w.cell? ⟨S, k, none⟩ = some v := by
  obtain ⟨arr, ha, hz, _⟩ := h.body
  exact ⟨_, by rw [cell_of_row w S _ _ _ _ ha]; exact Array.getElem?_eq_getElem (by omega)⟩
/-- an entry is overwritten -/
theorem CacheIn.at {w : World} {C S : Nat} {c : CacheD} (h : CacheIn w C S c) {j : Nat} {s : SiteD} (hs : c.sites[j]? = some s) {i : Nat} (hi : i < s.l.length) (x : Ent) :
    CacheIn (put8 w S (j * 34 + i * 8) x) C S (putS c j ⟨s.l.set i x, s.many⟩) := by
  have hj := (List.getElem?_eq_some_iff.1 hs).1
  refine h.turned j _ ((put8_touch _ _ _ _).block C h.ltC h.ne) fun arr ha hz hb => ⟨_, put8_row ha, set8_size _ _ _, ?_, fun k hk => ?_⟩
  · exact (hb j s hs).put (site_fits hj hz) i (by have := (hb j s hs).1; omega) hi x
  · have := (hb j s hs).1
    exact set8_other _ _ _ _ (by omega)
/-- .. or laid behind the others -/
theorem CacheIn.new {w : World} {C S : Nat} {c : CacheD} (h : CacheIn w C S c) {j : Nat} {s : SiteD} (hs : c.sites[j]? = some s) (hi : s.l.length < 4) (x : Ent) (m : Int) (hm : m = s.l.length + 1) :
    CacheIn ((put8 w S (j * 34 + s.l.length * 8) x).setCell ⟨S, j * 34 + 32, none⟩ (.int .i64 m)) C S (putS c j ⟨s.l ++ [x], s.many⟩) := by
  subst hm
  have hj := (List.getElem?_eq_some_iff.1 hs).1
  refine h.turned j _ ((heap_setCell_other _ ⟨S, j * 34 + 32, none⟩ C _ h.ne).trans ((put8_touch _ _ _ _).block C h.ltC h.ne)) fun arr ha hz hb => ⟨_, heap_setCell_same _ _ _ _ _ _ (put8_row ha), by simp, ?_, fun k hk => ?_⟩
  · obtain ⟨h4, h5, h6, h7⟩ := hb j s hs
    have hf := site_fits hj hz
    refine ⟨by simp; omega, fun k e he u v hv => ?_, ?_, ?_⟩
    · have hu := (List.getElem?_eq_some_iff.1 hv).1
      have hk := (List.getElem?_eq_some_iff.1 he).1
      rw [ent_len] at hu
      simp at hk
      rw [Array.getElem?_setIfInBounds_ne (by omega)]
      by_cases hkl : k = s.l.length
      · subst hkl
        simp at he
        subst he
        exact set8_at arr _ _ (by omega) u v hv
      · rw [List.getElem?_append_left (by omega)] at he
        rw [set8_other _ _ _ _ (by omega)]
        exact h5 k e he u v hv
    · rw [Array.getElem?_setIfInBounds_self_of_lt (by rw [set8_size]; omega)]
      simp
    · rw [Array.getElem?_setIfInBounds_ne (by omega), set8_other _ _ _ _ (by omega)]
      exact h7
  · have := (hb j s hs).1
    rw [Array.getElem?_setIfInBounds_ne (by omega)]
    exact set8_other _ _ _ _ (by omega)
/-- .. or all of them go -/
theorem CacheIn.gone {w : World} {C S : Nat} {c : CacheD} (h : CacheIn w C S c) {j : Nat} {s : SiteD} (hs : c.sites[j]? = some s) (b : Bool) :
    CacheIn ((w.setCell ⟨S, j * 34 + 32, none⟩ (.int .i64 0)).setCell ⟨S, j * 34 + 33, none⟩ (.bool b)) C S (putS c j ⟨[], b⟩) := by
  have hj := (List.getElem?_eq_some_iff.1 hs).1
  refine h.turned j _ ((heap_setCell_other _ ⟨S, j * 34 + 33, none⟩ C _ h.ne).trans (heap_setCell_other _ ⟨S, j * 34 + 32, none⟩ C _ h.ne)) fun arr ha hz hb => ⟨_, heap_setCell_same _ _ _ _ _ _ (heap_setCell_same _ _ _ _ _ _ ha), by simp, ?_, fun k hk => ?_⟩
  · have hf := site_fits hj hz
    refine ⟨by simp, fun k e he => by simp at he, ?_, ?_⟩
    · rw [Array.getElem?_setIfInBounds_ne (by omega), Array.getElem?_setIfInBounds_self_of_lt (by omega)]
      rfl
    · rw [Array.getElem?_setIfInBounds_self_of_lt (by simp; omega)]
  · rw [Array.getElem?_setIfInBounds_ne (by omega), Array.getElem?_setIfInBounds_ne (by omega)]

theorem keep_flag {W W' : World} {C S b : Nat} {c' : CacheD} {v : Value} (u : Value) (T : Touch (fun k => k = S) W W') (hc : CacheIn W' C S c') (hb : W.heap[b]? = some (.cells #[v] 4)) (n1 : b ≠ C) (n2 : b ≠ S) :
    Touch (fun k => k = S ∨ k = b) W (W'.setCell ⟨b, 0, none⟩ u) ∧ (W'.setCell ⟨b, 0, none⟩ u).heap[b]? = some (.cells #[u] 4) ∧ CacheIn (W'.setCell ⟨b, 0, none⟩ u) C S c' :=
  ⟨Touch.set (p := ⟨b, 0, none⟩) (T.mono fun _ _ h => .inl h) (.inl (.inr rfl)) _, heap_setCell_same _ _ _ _ _ _ ((T.block b (Array.getElem?_eq_some_iff.1 hb).1 n2).trans hb), hc.same (heap_setCell_other _ ⟨b, 0, none⟩ C _ (Ne.symm n1)) (heap_setCell_other _ ⟨b, 0, none⟩ S _ (Ne.symm n2))⟩
theorem many_false {s : SiteD} (h : s.many = false) (l : List Ent) : (⟨l, s.many⟩ : SiteD) = ⟨l, false⟩ := by rw [h]
/-- what Note comes to, case by case -/
theorem note_none {c : CacheD} {n : Int} {x : Ent} (h : siteD c n = none) : noteC c n x = (c, false) := by simp [noteC, h]
theorem note_shut {c : CacheD} {n : Int} {x : Ent} {s : SiteD} (h : siteD c n = some s) (hm : c.most = 0 ∨ s.many = true) : noteC c n x = (c, false) := by simp [noteC, h, hm]
theorem note_some {c : CacheD} {n : Int} {x : Ent} {s : SiteD} {i : Nat} (h : siteD c n = some s) (h0 : c.most ≠ 0) (hm : s.many = false) (hf : s.l.findIdx? (fun y => ofB y x.k x.sh) = some i) : noteC c n x = (putS c n ⟨s.l.set i x, false⟩, true) := by simp [noteC, h, h0, hm, hf]
theorem note_new {c : CacheD} {n : Int} {x : Ent} {s : SiteD} (h : siteD c n = some s) (h0 : c.most ≠ 0) (hm : s.many = false) (hf : s.l.findIdx? (fun y => ofB y x.k x.sh) = none) (hl : s.l.length < c.most) : noteC c n x = (putS c n ⟨s.l ++ [x], false⟩, true) := by simp [noteC, h, h0, hm, hf, hl]
theorem note_gone {c : CacheD} {n : Int} {x : Ent} {s : SiteD} (h : siteD c n = some s) (h0 : c.most ≠ 0) (hm : s.many = false) (hf : s.l.findIdx? (fun y => ofB y x.k x.sh) = none) (hl : ¬ s.l.length < c.most) : noteC c n x = (putS c n ⟨[], true⟩, false) := by simp [noteC, h, h0, hm, hf, hl]
def RetNote (C S : Nat) (c : CacheD) (n : Int) (x : Ent) (w : World) (e : Ending) (w' : World) : Prop := e = .returned (.bool (noteC c n x).2) ∧ CacheIn w' C S (noteC c n x).1 ∧ Tch C S w w'
theorem lays4 {n : Nat} {W : World} {a b c d : Array Value × TypeId} (h : Lays n [a, b, c, d] W) : W.heap[n]? = some (.cells a.1 a.2) ∧ W.heap[n + 1]? = some (.cells b.1 b.2) ∧ W.heap[n + 1 + 1]? = some (.cells c.1 c.2) ∧ W.heap[n + 1 + 1 + 1]? = some (.cells d.1 d.2) :=
  ⟨h 0 a rfl, h 1 b rfl, h 2 c rfl, h 3 d rfl⟩
abbrev entA (e : Ent) : Array Value := #[.int .i64 e.k.k, .int .i64 e.k.n, .string e.k.s, .int .i64 e.sh, .int .i64 e.ep, .int .i64 e.ho, .int .i64 e.sl, .int .i64 e.fo]
abbrev ntL (S j : Nat) (x : Ent) (b : Bool) : List (Array Value × TypeId) := [(entA x, 33), (#[.bool b], 4), (#[.pointer (some ⟨S, j * 34, none⟩)], 61), (#[.pointer (some ⟨S, j * 34, none⟩)], 61)]
end Go.Proofs.Ytbgcjgnhblhohaa
