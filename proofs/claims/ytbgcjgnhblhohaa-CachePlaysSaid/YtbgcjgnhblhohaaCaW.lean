/- Inline caches: what an operation makes of a cache; one operation of both sides, its parts. -/
import Derived.Test.YtbgcjgnhblhohaaCaV
import Derived.Test.YtbgcjgnhblhohaaCaO
namespace Go.Proofs.Ytbgcjgnhblhohaa
set_option linter.all false
open Go.RowKit Go.Sort Go.Deep Go.Shelf

theorem rnote_any (c : CacheD) (sv : Value) (n : Int) (x : Ent) (h4 : ∀ s ∈ c.sites, s.l.length ≤ 4) (hl : c.sites.length ≤ 1000) (w : World) (hR : IsR w sv c.sites) :
    Calls Try.prog 25 #[refV c.most sv c.hits c.miss, .int .i64 n, x.agg] w (RetRNote c n x w) := by
  cases hs : siteD c n with
  | none => exact rnote_shut c sv n x (.inl hs) w hR
  | some s =>
    by_cases h0 : c.most = 0
    · exact rnote_shut c sv n x (.inr ⟨s, hs, .inl h0⟩) w hR
    cases hm : s.many
    · obtain ⟨k, rfl, hk, hks⟩ := siteD_some hs
      exact rnote_open c sv _ x s hs h0 hm (h4 s (List.mem_of_getElem? hks)) hl w hR
    · exact rnote_shut c sv n x (.inr ⟨s, hs, .inr ⟨h0, hm⟩⟩) w hR

def actC (c : CacheD) (a : ActD) : CacheD :=
  if a.kd = 0 then lookC c a.st a.x.k a.x.sh a.x.ep else if a.kd = 1 then (noteC c a.st a.x).1 else if a.kd = 2 then (dropC c a.st).1 else if a.kd = 3 then flushC c else c
theorem look_same (c : CacheD) (n : Int) (k : Val) (sh ep : Int) : (lookC c n k sh ep).most = c.most ∧ (lookC c n k sh ep).sites = c.sites ∧ c.hits ≤ (lookC c n k sh ep).hits ∧ (lookC c n k sh ep).hits ≤ c.hits + 1 ∧ c.miss ≤ (lookC c n k sh ep).miss ∧ (lookC c n k sh ep).miss ≤ c.miss + 1 := by
  unfold lookC
  split
  · exact ⟨rfl, rfl, by omega, by omega, by omega, by omega⟩
  · split <;> exact ⟨rfl, rfl, by dsimp only; omega, by dsimp only; omega, by dsimp only; omega, by dsimp only; omega⟩
theorem note_same (c : CacheD) (n : Int) (x : Ent) : (noteC c n x).1.most = c.most ∧ (noteC c n x).1.hits = c.hits ∧ (noteC c n x).1.miss = c.miss := by
  unfold noteC
  split
  · exact ⟨rfl, rfl, rfl⟩
  · split
    · exact ⟨rfl, rfl, rfl⟩
    · split
      · exact ⟨rfl, rfl, rfl⟩
      · split <;> exact ⟨rfl, rfl, rfl⟩
theorem drop_same (c : CacheD) (n : Int) : (dropC c n).1.most = c.most ∧ (dropC c n).1.hits = c.hits ∧ (dropC c n).1.miss = c.miss := by
  unfold dropC
  split <;> exact ⟨rfl, rfl, rfl⟩
/-- small enough -/
def FineC (k : Int) (c : CacheD) : Prop := c.most ≤ 4 ∧ c.sites.length ≤ 100 ∧ (∀ s ∈ c.sites, s.l.length ≤ 4) ∧ 0 ≤ c.hits ∧ c.hits ≤ k ∧ 0 ≤ c.miss ∧ c.miss ≤ k
theorem fine_new (n m : Nat) (hn : n ≤ 100) (hm : m ≤ 4) : FineC 0 (newD n m) := ⟨hm, by simpa [newD] using hn, fun s hs => by
  simp only [newD, List.mem_replicate] at hs
  rw [hs.2]
  simp, Int.le_refl _, Int.le_refl _, Int.le_refl _, Int.le_refl _⟩
theorem fine_put {k : Int} {c : CacheD} (h : FineC k c) (n : Int) {s : SiteD} (hs : s.l.length ≤ 4) : FineC k (putS c n s) :=
  ⟨h.1, by simpa [putS] using h.2.1, fun t ht => by
    rcases List.mem_or_eq_of_mem_set ht with h' | h'
    · exact h.2.2.1 t h'
    · rw [h']; exact hs, h.2.2.2⟩
theorem fine_note {k : Int} {c : CacheD} (h : FineC k c) (n : Int) (x : Ent) : FineC k (noteC c n x).1 := by
  cases hs : siteD c n with
  | none => rw [note_none hs]; exact h
  | some s =>
    have h4 : s.l.length ≤ 4 := by
      obtain ⟨j, _, _, hj⟩ := siteD_some hs
      exact h.2.2.1 s (List.mem_of_getElem? hj)
    by_cases h0 : c.most = 0
    · rw [note_shut hs (.inl h0)]; exact h
    cases hm : s.many
    · cases hf : s.l.findIdx? (fun y => ofB y x.k x.sh) with
      | some i => rw [note_some hs h0 hm hf]; exact fine_put h n (by simpa using h4)
      | none =>
        by_cases hl : s.l.length < c.most
        · rw [note_new hs h0 hm hf hl]; exact fine_put h n (by have := h.1; simp; omega)
        · rw [note_gone hs h0 hm hf hl]; exact fine_put h n (by simp)
    · rw [note_shut hs (.inr hm)]; exact h
theorem fine_mono {k k' : Int} {c : CacheD} (h : FineC k c) (hk : k ≤ k') : FineC k' c := ⟨h.1, h.2.1, h.2.2.1, h.2.2.2.1, by have := h.2.2.2.2.1; omega, h.2.2.2.2.2.1, by have := h.2.2.2.2.2.2; omega⟩
theorem fine_act {k : Int} {c : CacheD} (h : FineC k c) (a : ActD) : FineC (k + 1) (actC c a) := by
  have h' := fine_mono h (show k ≤ k + 1 by omega)
  unfold actC
  split
  · obtain ⟨e1, e2, e3, e4, e5, e6⟩ := look_same c a.st a.x.k a.x.sh a.x.ep
    obtain ⟨g1, g2, g3, g4, g5, g6, g7⟩ := h
    exact ⟨by omega, by rw [e2]; exact g2, by rw [e2]; exact g3, by omega, by omega, by omega, by omega⟩
  · split
    · exact fine_note h' _ _
    · split
      · unfold dropC
        split
        · exact h'
        · exact fine_put h' _ (by simp)
      · split
        · exact ⟨h'.1, by simpa [flushC] using h'.2.1, fun s hs => by
            simp only [flushC, List.mem_map] at hs
            obtain ⟨_, _, rfl⟩ := hs
            simp, h'.2.2.2⟩
        · exact h'
abbrev ActD.agg (a : ActD) : Value := .agg #[.int .i64 a.kd, .int .i64 a.st, .int .i64 a.x.k.k, .int .i64 a.x.k.n, .string a.x.k.s, .int .i64 a.x.sh, .int .i64 a.x.ep, .int .i64 a.x.ho, .int .i64 a.x.sl, .int .i64 a.x.fo]
def RetDoes (C S : Nat) (c : CacheD) (a : ActD) (w : World) (e : Ending) (w' : World) : Prop :=
  ∃ sv, e = .returned (.tuple #[refV (actC c a).most sv (actC c a).hits (actC c a).miss, .bool true]) ∧ CacheIn w' C S (actC c a) ∧ IsR w' sv (actC c a).sites ∧ Tch C S w w'
/-- the program's own writes leave the reference's lists alone -/
theorem CacheIn.tags {w : World} {C S : Nat} {c : CacheD} (h : CacheIn w C S c) : ∀ k arr, (k = C ∨ k = S) → w.heap[k]? ≠ some (.cells arr 25) ∧ w.heap[k]? ≠ some (.cells arr 79) := by
  rintro k arr (rfl | rfl)
  · rw [h.head]
    constructor <;> (intro h; injection h with h; injection h with h1 h2; revert h2; decide)
  · obtain ⟨ar, ha, _⟩ := h.body
    rw [ha]
    constructor <;> (intro h; injection h with h; injection h with h1 h2; revert h2; decide)
theorem IsR.tch {w w' : World} {C S : Nat} {c : CacheD} {v : Value} {l : List SiteD} (h : IsR w v l) (hc : CacheIn w C S c) (ht : Tch C S w w') : IsR w' v l := isR_touch h ht hc.tags
def DoesE (C S b : Nat) (m : Int) (sv : Value) (x y : Int) (l : List SiteD) (c' : CacheD) (w V : World) : Prop := V.heap[b]? = some (refO m sv x y) ∧ CacheIn V C S c' ∧ IsR V sv l ∧ Tch C S w V
theorem DoesE.drew {C S b : Nat} {m : Int} {sv : Value} {x y : Int} {l : List SiteD} {c' : CacheD} {w V : World} (h : DoesE C S b m sv x y l c' w V) : DoesE C S b m sv x y l c' w V.drew :=
  ⟨h.1, h.2.1.same rfl rfl, h.2.2.1.below ((Below.refl _ _).drew), h.2.2.2.drew⟩
/-- a result written at the call's own block -/
theorem does_end {w Y : World} {C S b : Nat} {c' : CacheD} {m0 x0 y0 m x y : Int} {A A' : Option Addr} {n k n' k' : Nat} {l : List SiteD} (h : Y.heap[b]? = some (refO m0 (.slice A n k) x0 y0)) (hb : w.heap.size ≤ b) (hC : C < w.heap.size) (hS : S < w.heap.size) (ht : Tch C S w Y) (hc : CacheIn Y C S c') (hR : IsR Y (.slice A' n' k') l) :
    DoesE C S b m (.slice A' n' k') x y l c' w (put4 Y b m (.slice A' n' k') x y) := by
  obtain ⟨h1, h2⟩ := put4_all (m := m) (x := x) (y := y) (sv := .slice A' n' k') h
  exact ⟨h1, hc.same (h2.block _ hc.ltC (by omega)) (h2.block _ hc.ltS (by omega)), isR_other hR h h2, ht.trans h2 (fun i hi e => by omega)⟩
end Go.Proofs.Ytbgcjgnhblhohaa
