/- Cells: Moved, prepared. -/
import Derived.Test.YteifcgffeplkkaaCelAC
import Derived.LoopN
namespace Go.Proofs.Yteifcgffeplkkaa
set_option linter.all false
open Go.RowKit Go.Sort Go.Deep

theorem wpList_lookI {w : World} {ops : Array Oper} {rest : List Oper} {o : Oper} {a : Act} {Q : Exit → Act → World → Prop}
    (hg : o.guard = none) (m x : Operand) (hop : o.op = Op.lookup 48 m x true) {b N : Nat} {f : Int → Option Int} {k : Int} {r : Option Int}
    (hm : a.eval m = .map (some b)) (hx : a.eval x = .int .i64 k) (h : MapI w b N f) (hk : i64ok k) (hr : f k = r)
    (hK : wpList Try.prog ops Q rest (a.put o.dst (.tuple #[.int .i64 (r.getD 0), .bool r.isSome])) w) : wpList Try.prog ops Q (o :: rest) a w := by
  refine wpList_plain hg fun K' hK' => ?_
  subst hr
  unfold Oper.wp
  simp [execOp, hop, hm, hx, h.look hk, Result.andThen]
  exact hK' _ _ hK
/-- the list with its first k elements turned -/
def stepL (f : Val → Val) (k : Nat) (xs : List Val) : List Val := xs.mapIdx fun i x => if i < k then f x else x
theorem stepL_len (f : Val → Val) (k : Nat) (xs : List Val) : (stepL f k xs).length = xs.length := by simp [stepL]
theorem stepL_zero (f : Val → Val) (xs : List Val) : stepL f 0 xs = xs := by
  apply List.ext_getElem <;> simp [stepL]
theorem stepL_all (f : Val → Val) {k : Nat} (xs : List Val) (h : xs.length ≤ k) : stepL f k xs = xs.map f := by
  apply List.ext_getElem
  · simp [stepL]
  · intro i h1 h2
    simp only [stepL, List.getElem_mapIdx, List.getElem_map]
    rw [if_pos]
    simp [stepL] at h1
    omega
theorem stepL_at (f : Val → Val) {k : Nat} {xs : List Val} {v : Val} (h : xs[k]? = some v) : (stepL f k xs)[k]? = some v := by simp [stepL, h]
theorem stepL_set (f : Val → Val) {k : Nat} {xs : List Val} {v : Val} (h : xs[k]? = some v) : (stepL f k xs).set k (f v) = stepL f (k + 1) xs := by
  apply List.ext_getElem?
  intro i
  simp only [stepL, List.getElem?_set, List.length_mapIdx, List.getElem?_mapIdx]
  by_cases e : k = i
  · subst e
    obtain ⟨hl, e2⟩ := List.getElem?_eq_some_iff.1 h
    simp [hl, e2]
  · rw [if_neg e]
    cases xs[i]? with
    | none => rfl
    | some x =>
      simp only [Option.map_some]
      congr 1
      by_cases h1 : i < k
      · rw [if_pos h1, if_pos (by omega)]
      · rw [if_neg h1, if_neg (by omega)]
theorem stepL_same (f : Val → Val) {k : Nat} {xs : List Val} {v : Val} (h : xs[k]? = some v) (hf : f v = v) : stepL f (k + 1) xs = stepL f k xs := by
  rw [← stepL_set f h, hf]
  apply List.ext_getElem?
  intro i
  rw [List.getElem?_set]
  by_cases e : k = i
  · subst e
    have hl := (List.getElem?_eq_some_iff.1 (stepL_at f h)).1
    rw [if_pos rfl, if_pos hl, stepL_at f h]
  · rw [if_neg e]
theorem flat_setN {l : List Val} {v : Val} {y : Int} : ∀ {k : Nat}, l[k]? = some v → flat Val.cs (l.set k ⟨v.k, y, v.s⟩) = (flat Val.cs l).set (k * 3 + 1) (.int .i64 y) := by
  induction l with
  | nil => intro k h; simp at h
  | cons x l ih =>
    intro k h
    cases k with
    | zero =>
      simp at h
      subst h
      rfl
    | succ k =>
      have h' : l[k]? = some v := by simpa using h
      have e : (k + 1) * 3 + 1 = (k * 3 + 1) + 3 := by omega
      rw [e]
      show Val.cs x ++ flat Val.cs (l.set k _) = (Val.cs x ++ flat Val.cs l).set _ _
      rw [ih h']
      rfl
/-- one number of an own list turned -/
theorem own_setN {w : World} {lo g cap k : Nat} {xs : List Val} {v : Val} {y : Int} {n : Nat} (h : OwnV w lo (.slice (some ⟨g, 0, none⟩) n cap) xs) (hv : xs[k]? = some v) :
    OwnV (w.setCell ⟨g, k * 3 + 1, none⟩ (.int .i64 y)) lo (.slice (some ⟨g, 0, none⟩) n cap) (xs.set k ⟨v.k, y, v.s⟩) := by
  have hl := (List.getElem?_eq_some_iff.1 hv).1
  have := ownsRow_set h (g := g) (j := k * 3 + 1) rfl (by omega) (.int .i64 y)
  unfold OwnV
  rw [List.length_set, flat_setN hv]
  exact this
/-- what stands in an own list at place k -/
theorem own_at {w : World} {lo k : Nat} {A : Option Addr} {n cap : Nat} {xs : List Val} {v : Val} (h : OwnV w lo (.slice A n cap) xs) (hv : xs[k]? = some v) :
    ∃ g, A = some ⟨g, 0, none⟩ ∧ lo ≤ g ∧ g < w.heap.size ∧ w.cell? ⟨g, k * 3, none⟩ = some (.int .i64 v.k) ∧ w.cell? ⟨g, k * 3 + 1, none⟩ = some (.int .i64 v.n) ∧ w.cell? ⟨g, k * 3 + 2, none⟩ = some (.string v.s) ∧
      w.frozen? ⟨g, k * 3 + 1, none⟩ = false := by
  have hl := (List.getElem?_eq_some_iff.1 hv).1
  rcases h.2 with ⟨e, h0⟩ | ⟨g, cp, cur, e, hb, hg, _, _, _, ht⟩
  · omega
  · injection e with e1 e2 e3
    subst e1
    have at3 : ∀ j u, (Val.cs v)[j]? = some u → w.cell? ⟨g, k * 3 + j, none⟩ = some u := by
      intro j u hj
      rw [cell_of_row w g _ cur _ (0, 0) hg]
      have h1 := flat_at cs_len xs k v j u hv hj
      rw [← ht, List.getElem?_take] at h1
      split at h1
      · simpa using h1
      · cases h1
    exact ⟨g, rfl, hb, (Array.getElem?_eq_some_iff.1 hg).1, at3 0 _ rfl, at3 1 _ rfl, at3 2 _ rfl, frozen_of_row w g _ cur _ hg⟩
end Go.Proofs.Yteifcgffeplkkaa
