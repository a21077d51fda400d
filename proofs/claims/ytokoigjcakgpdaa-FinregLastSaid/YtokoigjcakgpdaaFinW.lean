/- Registries as lists of entries: the plain laws of Add, Remove and Clean. -/
import Derived.Test.YtokoigjcakgpdaaFinT
namespace Go.Proofs.Ytokoigjcakgpdaa
set_option linter.all false
open Go.RowKit Go.Sort Go.Deep

abbrev E4 := Val × Val × Val × Val
def fl (es : List E4) : List Val := es.flatMap fun e => [e.1, e.2.1, e.2.2.1, e.2.2.2]
theorem fl_nil : fl [] = [] := rfl
theorem fl_cons (e : E4) (es : List E4) : fl (e :: es) = e.1 :: e.2.1 :: e.2.2.1 :: e.2.2.2 :: fl es := rfl
theorem fl_len (es : List E4) : (fl es).length = 4 * es.length := by
  induction es with
  | nil => rfl
  | cons e es ih => rw [fl_cons]; simp only [List.length_cons, ih]; omega
theorem fl_append (a b : List E4) : fl (a ++ b) = fl a ++ fl b := by simp [fl]
def cut4 : List Val → List E4
  | a :: b :: c :: d :: l => (a, b, c, d) :: cut4 l
  | _ => []
theorem cut4_fl : ∀ (n : Nat) (l : List Val), l.length = 4 * n → fl (cut4 l) = l ∧ (cut4 l).length = n
  | 0, l, h => by
    obtain rfl : l = [] := List.eq_nil_of_length_eq_zero (by omega)
    exact ⟨rfl, rfl⟩
  | n + 1, l, h => by
    match l, h with
    | a :: b :: c :: d :: l, h =>
      have hl : l.length = 4 * n := by simp only [List.length_cons] at h; omega
      obtain ⟨h1, h2⟩ := cut4_fl n l hl
      exact ⟨by show fl ((a, b, c, d) :: cut4 l) = _; rw [fl_cons, h1], by show (cut4 l).length + 1 = _; rw [h2]⟩
theorem vAt_succ (x : Val) (l : List Val) (k : Nat) : vAt (x :: l) (k + 1) = vAt l k := by simp [vAt]
theorem vAt_zero (x : Val) (l : List Val) : vAt (x :: l) 0 = x := by simp [vAt]
theorem vAt_fl : ∀ (es : List E4) (k : Nat) (h : k < es.length), vAt (fl es) (4 * k) = es[k].1 ∧ vAt (fl es) (4 * k + 1) = es[k].2.1 ∧ vAt (fl es) (4 * k + 2) = es[k].2.2.1 ∧ vAt (fl es) (4 * k + 3) = es[k].2.2.2
  | [], _, h => absurd h (Nat.not_lt_zero _)
  | e :: es, 0, _ => by
    rw [fl_cons]
    exact ⟨vAt_zero _ _, by rw [vAt_succ, vAt_zero]; rfl, by rw [vAt_succ, vAt_succ, vAt_zero]; rfl, by rw [vAt_succ, vAt_succ, vAt_succ, vAt_zero]; rfl⟩
  | e :: es, k + 1, h => by
    have h' : k < es.length := by simpa using h
    obtain ⟨h0, h1, h2, h3⟩ := vAt_fl es k h'
    rw [fl_cons]
    have e4 : 4 * (k + 1) = 4 * k + 1 + 1 + 1 + 1 := by omega
    rw [e4]
    refine ⟨?_, ?_, ?_, ?_⟩
    · rw [vAt_succ, vAt_succ, vAt_succ, vAt_succ]; exact h0
    · rw [show 4 * k + 1 + 1 + 1 + 1 + 1 = (4 * k + 1) + 1 + 1 + 1 + 1 by omega, vAt_succ, vAt_succ, vAt_succ, vAt_succ]; exact h1
    · rw [show 4 * k + 1 + 1 + 1 + 1 + 2 = (4 * k + 2) + 1 + 1 + 1 + 1 by omega, vAt_succ, vAt_succ, vAt_succ, vAt_succ]; exact h2
    · rw [show 4 * k + 1 + 1 + 1 + 1 + 3 = (4 * k + 3) + 1 + 1 + 1 + 1 by omega, vAt_succ, vAt_succ, vAt_succ, vAt_succ]; exact h3
theorem vAt_reg (v0 : Val) (es : List E4) (k : Nat) (h : k < es.length) : vAt (v0 :: fl es) (1 + 4 * k) = es[k].1 ∧ vAt (v0 :: fl es) (1 + 4 * k + 1) = es[k].2.1 ∧ vAt (v0 :: fl es) (1 + 4 * k + 2) = es[k].2.2.1 ∧ vAt (v0 :: fl es) (1 + 4 * k + 3) = es[k].2.2.2 := by
  obtain ⟨h0, h1, h2, h3⟩ := vAt_fl es k h
  refine ⟨?_, ?_, ?_, ?_⟩
  · rw [show 1 + 4 * k = 4 * k + 1 by omega, vAt_succ]; exact h0
  · rw [show 1 + 4 * k + 1 = (4 * k + 1) + 1 by omega, vAt_succ]; exact h1
  · rw [show 1 + 4 * k + 2 = (4 * k + 2) + 1 by omega, vAt_succ]; exact h2
  · rw [show 1 + 4 * k + 3 = (4 * k + 3) + 1 by omega, vAt_succ]; exact h3
theorem fin_flat {β : Type} : ∀ (es : List E4) (f : Nat → List β) (g : E4 → List β), (∀ k (h : k < es.length), f k = g es[k]) → (List.finRange es.length).flatMap (fun x => f x.val) = es.flatMap g
  | [], _, _, _ => by simp
  | e :: es, f, g, h => by
    have h0 : f 0 = g e := h 0 (by simp)
    have ih := fin_flat es (fun k => f (k + 1)) g (fun k hk => h (k + 1) (by simpa using hk))
    rw [List.length_cons, List.finRange_succ, List.flatMap_cons, List.flatMap_map, List.flatMap_cons]
    rw [← ih]
    simp [h0]
theorem fin_any : ∀ (es : List E4) (f : Nat → Bool) (g : E4 → Bool), (∀ k (h : k < es.length), f k = g es[k]) → (List.finRange es.length).any (fun x => f x.val) = es.any g
  | [], _, _, _ => by simp
  | e :: es, f, g, h => by
    have h0 : f 0 = g e := h 0 (by simp)
    have ih := fin_any es (fun k => f (k + 1)) g (fun k hk => h (k + 1) (by simpa using hk))
    rw [List.length_cons, List.finRange_succ, List.any_cons, List.any_map, List.any_cons]
    rw [← ih]
    simp [h0, Function.comp_def]
theorem range_all : ∀ (es : List E4) (f : Nat → Bool) (g : E4 → Bool), (∀ k (h : k < es.length), f k = g es[k]) → (List.range es.length).all f = es.all g
  | [], _, _, _ => by simp
  | e :: es, f, g, h => by
    have h0 : f 0 = g e := h 0 (by simp)
    have ih := range_all es (fun k => f (k + 1)) g (fun k hk => h (k + 1) (by simpa using hk))
    rw [List.length_cons, List.range_succ_eq_map, List.all_cons, List.all_map, List.all_cons]
    rw [← ih]
    simp [h0, Function.comp_def]

/-! what Clean and Remove do, entry by entry -/
def keepE (L : Int → Bool) (e : E4) : Option E4 := if L e.1.n then some (e.1, e.2.1, tokD L e.2.2.1, e.2.2.2) else none
def keepL (L : Int → Bool) (es : List E4) : List E4 := es.filterMap (keepE L)
def toldsL (L : Int → Bool) (v0 : Val) (es : List E4) : List Val := es.flatMap fun e => if L e.1.n then [] else [v0, e.2.1, e.2.2.2]
def dropE (tk : Val) (e : E4) : Bool := tk.k == 7 && e.2.2.1.eq tk
def remL (tk : Val) (es : List E4) : List E4 := es.filter fun e => !dropE tk e
theorem kept_eq (L : Int → Bool) (v0 : Val) (es : List E4) : keptD L (v0 :: fl es) (List.finRange es.length) = v0 :: fl (keepL L es) := by
  unfold keptD
  rw [fin_flat es (fun k => keepD L (v0 :: fl es) k) (fun e => if L e.1.n then [e.1, e.2.1, tokD L e.2.2.1, e.2.2.2] else []) (fun k h => by
    obtain ⟨h0, h1, h2, h3⟩ := vAt_reg v0 es k h
    unfold keepD
    rw [h0, h1, h2, h3]
    cases L es[k].1.n <;> rfl)]
  rw [vAt_zero, List.singleton_append]
  congr 1
  induction es with
  | nil => rfl
  | cons e es ih =>
    unfold keepL at ih ⊢
    rw [List.flatMap_cons, ih]
    cases hl : L e.1.n
    · rw [List.filterMap_cons_none (by simp [keepE, hl])]
      simp
    · rw [List.filterMap_cons_some (b := (e.1, e.2.1, tokD L e.2.2.1, e.2.2.2)) (by simp [keepE, hl])]
      simp [fl_cons]
theorem told_eq (L : Int → Bool) (v0 : Val) (es : List E4) : toldsD L (v0 :: fl es) (List.finRange es.length) = toldsL L v0 es := by
  unfold toldsD toldsL
  exact fin_flat es (fun k => toldD L (v0 :: fl es) k) _ (fun k h => by
    obtain ⟨h0, h1, h2, h3⟩ := vAt_reg v0 es k h
    unfold toldD
    rw [h0, h1, h3, vAt_zero]
    cases L es[k].1.n <;> rfl)
theorem rem_eq (tk : Val) (v0 : Val) (es : List E4) : remD tk (v0 :: fl es) (List.finRange es.length) = v0 :: fl (remL tk es) := by
  unfold remD
  rw [fin_flat es (fun k => remE tk (v0 :: fl es) k) (fun e => if dropE tk e then [] else [e.1, e.2.1, e.2.2.1, e.2.2.2]) (fun k h => by
    obtain ⟨h0, h1, h2, h3⟩ := vAt_reg v0 es k h
    unfold remE dropB dropE
    rw [h0, h1, h2, h3]
    cases (tk.k == 7 && es[k].2.2.1.eq tk) <;> rfl)]
  rw [vAt_zero, List.singleton_append]
  congr 1
  induction es with
  | nil => rfl
  | cons e es ih =>
    unfold remL at ih ⊢
    rw [List.flatMap_cons, ih]
    cases hl : dropE tk e
    · rw [List.filter_cons_of_pos (by simp [hl])]
      simp [fl_cons]
    · rw [List.filter_cons_of_neg (by simp [hl])]
      simp
theorem gone_eq (tk : Val) (v0 : Val) (es : List E4) : goneD tk (v0 :: fl es) (List.finRange es.length) = es.any (dropE tk) := by
  unfold goneD
  exact fin_any es (fun k => dropB tk (v0 :: fl es) k) _ (fun k h => by
    obtain ⟨h0, h1, h2, h3⟩ := vAt_reg v0 es k h
    unfold dropB dropE
    rw [h2])
end Go.Proofs.Ytokoigjcakgpdaa
