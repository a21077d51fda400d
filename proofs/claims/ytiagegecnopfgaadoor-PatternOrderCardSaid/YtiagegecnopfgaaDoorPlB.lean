/- The steps of an array pattern of two elements (no program in sight). -/
import Derived.Test.YtiagegecnopfgaaDoorPbA
namespace Go.Proofs.YtiagegecnopfgaaDoor
set_option linter.all false
open Go.ChangeShapes Go.WideShapes Go.ChangeAt Go.RowKit Go.Sort Go.Deep

theorem deep_pair (p q : Tree) : deepT (opT 60 [p, q]) = 1 + max (deepT p) (deepT q) := by
  have h := (deepT_bound q).1
  rw [deepT_eq]
  simp only [Tree.op, Tree.kids, deepK]
  rw [if_pos (.inl trivial)]
  omega
abbrev st3 (k r f : Int) : StepD := ⟨k, r, f, bs0, Tree.z, []⟩
theorem steps_ok (t : Tree) (h : deepT t ≤ 200) : stepsT t = if (apT t 0 mk0).b then ([], 0, 24) else ((apT t 0 mk0).l, (apT t 0 mk0).g, 0) := by
  unfold stepsT
  rw [if_neg (by omega)]
theorem ar_two (p q : Tree) (hp : ¬ p.op = 40 ∧ ¬ p.op = 64) (hq : ¬ q.op = 40 ∧ ¬ q.op = 64) (y : Mk) (hy : y = apT p 2 ⟨[st3 4 1 0, st3 12 0 1, st3 5 2 1], 3, false⟩) :
    apT (opT 60 [p, q]) 0 mk0 = if y.b then y else (apT q y.g ⟨y.l ++ [st3 5 y.g 1], y.g + 1, y.b⟩).lay (st3 8 0 1) := by
  rw [apT_eq]
  simp only [Tree.op, Tree.kids]
  rw [if_neg (by decide), if_neg (by decide), if_neg (by decide), if_pos trivial, arT]
  simp only [Mk.lay, Mk.next, List.nil_append, List.cons_append, Bool.false_eq_true, if_false, if_neg hp.1, if_neg hp.2, Int.reduceAdd]
  rw [← hy, arT, if_neg hq.1, if_neg hq.2, arT]
  rfl
theorem steps_pair (p q : Tree) (hp : ¬ p.op = 40 ∧ ¬ p.op = 64) (hq : ¬ q.op = 40 ∧ ¬ q.op = 64) (hd : deepT p < 200) (hd' : deepT q < 200) :
    ((stepsT p).2.2 ≠ 0 ∨ (stepsT q).2.2 ≠ 0 → stepsT (opT 60 [p, q]) = ([], 0, 24)) ∧
    ((stepsT p).2.2 = 0 → (stepsT q).2.2 = 0 → ∃ L, stepsT (opT 60 [p, q]) = (L, (stepsT p).2.1 + (stepsT q).2.1 + 2, 0) ∧ L.length = (stepsT p).1.length + (stepsT q).1.length + 5 ∧ (∃ d, L[2]? = some d ∧ d.k = 5 ∧ d.r = 2) ∧
      (∃ d, L[3 + (stepsT p).1.length]? = some d ∧ d.k = 5 ∧ d.r = (stepsT p).2.1 + 2 ∧ d.f = 1) ∧ ∃ d, L[(stepsT p).1.length + (stepsT q).1.length + 4]? = some d ∧ d.k = 8) := by
  obtain ⟨y, hy⟩ : ∃ y, y = apT p 2 ⟨[st3 4 1 0, st3 12 0 1, st3 5 2 1], 3, false⟩ := ⟨_, rfl⟩
  have hE := ar_two p q hp hq y hy
  have s1 := ap_shift 3 2 p 0 2 mk0 ⟨[st3 4 1 0, st3 12 0 1, st3 5 2 1], 3, false⟩ (by simp) (by simp) rfl
  have f1 := ap_front p 2 ⟨[st3 4 1 0, st3 12 0 1, st3 5 2 1], 3, false⟩
  rw [← hy] at s1 f1
  have dp : deepT (opT 60 [p, q]) ≤ 200 := by rw [deep_pair]; omega
  rw [steps_ok _ dp, steps_ok p (by omega), steps_ok q (by omega), hE]
  obtain ⟨z, hz⟩ : ∃ z, z = apT q y.g ⟨y.l ++ [st3 5 y.g 1], y.g + 1, y.b⟩ := ⟨_, rfl⟩
  rw [← hz]
  have f2 := ap_front q y.g ⟨y.l ++ [st3 5 y.g 1], y.g + 1, y.b⟩
  rw [← hz] at f2
  cases hb : y.b with
  | true =>
    have hb1 : (apT p 0 mk0).b = true := by rw [s1.2.2, hb]
    simp [hb, hb1]
  | false =>
    have hb1 : (apT p 0 mk0).b = false := by rw [s1.2.2, hb]
    have s2 := ap_shift (y.l.length + 1) y.g q 0 y.g mk0 ⟨y.l ++ [st3 5 y.g 1], y.g + 1, y.b⟩ (by simp) (by simp; omega) hb.symm
    rw [← hz] at s2
    have hlb : (z.lay (st3 8 0 1)).b = z.b := rfl
    have hlg : (z.lay (st3 8 0 1)).g = z.g := rfl
    have hll : (z.lay (st3 8 0 1)).l = z.l ++ [st3 8 0 1] := rfl
    simp only [hb1, Bool.false_eq_true, if_false, hlb, hlg, hll, ← s2.2.2]
    cases hb2 : (apT q 0 mk0).b with
    | true => simp
    | false =>
      simp only [Bool.false_eq_true, if_false, ne_eq, not_true_eq_false, or_self, false_implies, true_and, true_implies, forall_const]
      have e1 : y.l.length = (apT p 0 mk0).l.length + 3 := by omega
      have e2 : z.l.length = (apT q 0 mk0).l.length + (y.l.length + 1) := by omega
      refine ⟨_, by rw [s2.2.1, s1.2.1]; congr 2; omega, by simp; omega, ⟨st3 5 2 1, ?_, rfl, rfl⟩, ⟨st3 5 y.g 1, ?_, rfl, s1.2.1, rfl⟩, ⟨st3 8 0 1, ?_, rfl⟩⟩
      · rw [f2, f1]
        rfl
      · rw [f2, List.getElem?_append_left (by simp; omega), List.getElem?_append_left (by simp; omega), List.getElem?_append_right (by omega)]
        rw [show 3 + (apT p 0 mk0).l.length - y.l.length = 0 by omega]
        rfl
      · rw [List.getElem?_append_right (by omega)]
        rw [show (apT p 0 mk0).l.length + (apT q 0 mk0).l.length + 4 - z.l.length = 0 by omega]
        rfl
end Go.Proofs.YtiagegecnopfgaaDoor
