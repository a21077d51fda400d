/- Weak maps as lists of entries: the plain laws. No program here. -/
import Derived.Test.YtdikdkllbhanfaaWkR
namespace Go.Proofs.Ytdikdkllbhanfaa
set_option linter.all false
open Go.RowKit Go.Sort Go.Deep

abbrev PV := Val × Val
def fl (ps : List PV) : List Val := ps.flatMap fun p => [p.1, p.2]
theorem fl_cons (p : PV) (ps : List PV) : fl (p :: ps) = p.1 :: p.2 :: fl ps := rfl
theorem fl_append (ps qs : List PV) : fl (ps ++ qs) = fl ps ++ fl qs := by simp [fl]
theorem fl_len : ∀ ps : List PV, (fl ps).length = 2 * ps.length
  | [] => rfl
  | p :: ps => by rw [fl_cons, List.length_cons, List.length_cons, fl_len ps, List.length_cons]; omega
theorem cut2 : ∀ (m : Nat) (mo : List Val), mo.length = 2 * m → ∃ ps : List PV, ps.length = m ∧ mo = fl ps
  | 0, mo, h => ⟨[], rfl, List.eq_nil_of_length_eq_zero (by omega)⟩
  | m + 1, a :: b :: mo, h => by
    obtain ⟨ps, h1, h2⟩ := cut2 m mo (by simp at h; omega)
    exact ⟨(a, b) :: ps, by simp [h1], by rw [fl_cons, h2]⟩
  | m + 1, [a], h => by simp at h; omega
  | m + 1, [], h => by simp at h
theorem vAt_fl : ∀ (ps : List PV) (i : Nat) (h : i < ps.length), vAt (fl ps) (2 * i) = ps[i].1 ∧ vAt (fl ps) (2 * i + 1) = ps[i].2
  | p :: ps, 0, _ => ⟨rfl, rfl⟩
  | p :: ps, i + 1, h => by
    have := vAt_fl ps i (by simpa using h)
    have e : 2 * (i + 1) = 2 * i + 2 := by omega
    rw [e]
    exact this
/-- the entries at these places -/
def ent (mo : List Val) {m : Nat} (x : Fin m) : PV := (vAt mo (2 * x.val), vAt mo (2 * x.val + 1))
theorem ent_fl (ps : List PV) : (List.finRange ps.length).map (ent (fl ps)) = ps := by
  apply List.ext_getElem
  · simp
  · intro i h1 h2
    have := vAt_fl ps i h2
    simp only [List.getElem_map, List.getElem_finRange, ent]
    rw [show ((Fin.cast _ ⟨i, _⟩ : Fin ps.length).val) = i from rfl, this.1, this.2]
def hasP (key : Val) (p : PV) : Bool := p.1.eq key
theorem getW_ent (key : Val) (mo : List Val) {m : Nat} (l : List (Fin m)) : (getW key mo l).map (ent mo) = (l.map (ent mo)).find? (hasP key) := by
  rw [List.find?_map]
  rfl
theorem getW_fl (key : Val) (ps : List PV) : (getW key (fl ps) (List.finRange ps.length)).map (ent (fl ps)) = ps.find? (hasP key) := by
  rw [getW_ent, ent_fl]
theorem keptW_fl (p : Val → Bool) (ps : List PV) : keptW p (fl ps) (List.finRange ps.length) = fl (ps.filter fun q => p q.1) := by
  have key : ∀ l : List (Fin ps.length), keptW p (fl ps) l = fl ((l.map (ent (fl ps))).filter fun q => p q.1) := by
    intro l
    induction l with
    | nil => rfl
    | cons x l ih =>
      have e : keptW p (fl ps) (x :: l) = keptE p (fl ps) x.val ++ keptW p (fl ps) l := by simp [keptW]
      rw [e, ih, List.map_cons, List.filter_cons]
      unfold keptE
      cases h : p (vAt (fl ps) (2 * x.val))
      · have : p (ent (fl ps) x).1 = false := h
        rw [this]
        simp
      · have : p (ent (fl ps) x).1 = true := h
        rw [this]
        simp only [cond_true, if_true, fl_cons]
        rfl
  rw [key, ent_fl]
theorem opL_fl (live : List Int) (ps : List PV) : opL live (fl ps) (List.finRange ps.length) = (ps.filter fun q => leadsB q.2 && inB live q.1.n).map fun q => q.2.n := by
  have key : ∀ l : List (Fin ps.length), opL live (fl ps) l = ((l.map (ent (fl ps))).filter fun q => leadsB q.2 && inB live q.1.n).map fun q => q.2.n := by
    intro l
    induction l with
    | nil => rfl
    | cons x l ih =>
      have e : opL live (fl ps) (x :: l) = opE live (fl ps) x.val ++ opL live (fl ps) l := by simp [opL]
      rw [e, ih, List.map_cons, List.filter_cons]
      unfold opE
      cases h : leadsB (vAt (fl ps) (2 * x.val + 1)) && inB live (vAt (fl ps) (2 * x.val)).n
      · have : (leadsB (ent (fl ps) x).2 && inB live (ent (fl ps) x).1.n) = false := h
        rw [this]
        simp
      · have : (leadsB (ent (fl ps) x).2 && inB live (ent (fl ps) x).1.n) = true := h
        rw [this]
        simp only [cond_true, if_true, List.map_cons]
        rfl
  rw [key, ent_fl]
/-- an entry replaced or added -/
def setP (key v : Val) : List PV → List PV
  | [] => [(key, v)]
  | p :: ps => if p.1.eq key then (p.1, v) :: ps else p :: setP key v ps
theorem setP_none (key v : Val) : ∀ ps : List PV, ps.find? (hasP key) = none → setP key v ps = ps ++ [(key, v)]
  | [], _ => rfl
  | p :: ps, h => by
    rw [List.find?_cons] at h
    cases he : hasP key p
    · rw [he] at h
      have : p.1.eq key = false := he
      simp only [setP, this, if_false, Bool.false_eq_true, List.cons_append]
      rw [setP_none key v ps h]
    · rw [he] at h
      cases h
theorem setP_at (key v : Val) : ∀ (ps : List PV) (x : Nat) (hx : x < ps.length), (∀ j (hj : j < ps.length), j < x → ps[j].1.eq key = false) → ps[x].1.eq key = true → setP key v ps = ps.set x (ps[x].1, v)
  | p :: ps, 0, hx, _, h => by
    have : p.1.eq key = true := h
    simp [setP, this]
  | p :: ps, x + 1, hx, hn, h => by
    have h0 : p.1.eq key = false := hn 0 (by simp) (by omega)
    have ih := setP_at key v ps x (by simpa using hx) (fun j hj hjx => hn (j + 1) (by simpa using hj) (by omega)) h
    simp only [setP, h0, if_false, Bool.false_eq_true]
    rw [ih]
    rfl
theorem fl_set : ∀ (ps : List PV) (x : Nat) (hx : x < ps.length) (v : Val), (fl ps).set (2 * x + 1) v = fl (ps.set x (ps[x].1, v))
  | p :: ps, 0, _, v => rfl
  | p :: ps, x + 1, hx, v => by
    have ih := fl_set ps x (by simpa using hx) v
    have e : 2 * (x + 1) + 1 = 2 * x + 1 + 2 := by omega
    rw [e, fl_cons]
    simp only [List.set_cons_succ, List.getElem_cons_succ, fl_cons]
    rw [ih]
theorem take_lt {m k : Nat} {y : Fin m} (h : y ∈ (List.finRange m).take k) : y.val < k := by
  obtain ⟨i, hi, e⟩ := List.getElem_of_mem h
  rw [List.length_take] at hi
  rw [List.getElem_take, List.getElem_finRange] at e
  subst e
  show i < k
  omega
theorem getW_first {key : Val} {mo : List Val} {m : Nat} {x : Fin m} (h : getW key mo (List.finRange m) = some x) : (∀ j, j < x.val → (vAt mo (2 * j)).eq key = false) ∧ (vAt mo (2 * x.val)).eq key = true := by
  refine ⟨fun j => ?_, List.find?_some (p := fun x : Fin m => (vAt mo (2 * x.val)).eq key) h⟩
  induction j using Nat.strongRecOn with
  | ind j ih =>
    intro hj
    have hjm : j < m := Nat.lt_trans hj x.isLt
    cases he : (vAt mo (2 * j)).eq key
    · rfl
    · have hn : getW key mo ((List.finRange m).take j) = none := List.find?_eq_none.2 fun y hy => by
        have := ih y.val (take_lt hy) (Nat.lt_trans (take_lt hy) hj)
        rw [this]
        simp
      have := (getW_yes hjm hn he).symm.trans h
      simp only [Option.some.injEq] at this
      subst this
      exact absurd hj (Nat.lt_irrefl _)
theorem setL_fl (key v : Val) (ps : List PV) : setL key v (fl ps) = fl (setP key v ps) := by
  have hl : (fl ps).length / 2 = ps.length := by rw [fl_len]; omega
  cases hg : getW key (fl ps) (List.finRange ps.length) with
  | none =>
    rw [setL_none hl hg, setP_none key v ps (by rw [← getW_fl, hg]; rfl), fl_append]
    rfl
  | some x =>
    obtain ⟨h1, h2⟩ := getW_first hg
    rw [setL_some hl hg, fl_set ps x.val x.isLt, setP_at key v ps x.val x.isLt]
    · intro j hj hjx
      have := h1 j hjx
      rwa [(vAt_fl ps j hj).1] at this
    · rwa [(vAt_fl ps x.val x.isLt).1] at h2
/-! ### what a look-up finds -/
theorem find_set (key v : Val) : ∀ ps : List PV, (setP key v ps).find? (hasP key) = some (key, v)
  | [] => by simp [setP, hasP, Val.eq_self]
  | p :: ps => by
    unfold setP
    cases he : p.1.eq key
    · have : hasP key p = false := he
      simp only [if_false, Bool.false_eq_true, List.find?_cons, this]
      exact find_set key v ps
    · have hk := Val.eq_iff.1 he
      simp [hasP, hk, Val.eq_self]
theorem find_set_other (key v o : Val) (h : key.eq o = false) : ∀ ps : List PV, (setP key v ps).find? (hasP o) = ps.find? (hasP o)
  | [] => by simp [setP, hasP, h]
  | p :: ps => by
    unfold setP
    cases he : p.1.eq key
    · simp only [if_false, Bool.false_eq_true, List.find?_cons]
      rw [find_set_other key v o h ps]
    · have hk := Val.eq_iff.1 he
      have h1 : hasP o (p.1, v) = false := by show p.1.eq o = false; rw [hk]; exact h
      have h2 : hasP o p = false := by show p.1.eq o = false; rw [hk]; exact h
      simp only [if_true, List.find?_cons, h1, h2]
theorem find_del (key : Val) (ps : List PV) : (ps.filter fun q => !q.1.eq key).find? (hasP key) = none := by
  rw [List.find?_eq_none]
  intro q hq
  have := (List.mem_filter.1 hq).2
  simp only [Bool.not_eq_true'] at this
  show ¬ (q.1.eq key = true)
  rw [this]
  simp
theorem find_del_other (key o : Val) (h : key.eq o = false) : ∀ ps : List PV, (ps.filter fun q => !q.1.eq key).find? (hasP o) = ps.find? (hasP o)
  | [] => rfl
  | p :: ps => by
    rw [List.filter_cons]
    cases he : p.1.eq key
    · simp only [Bool.not_false, if_true, List.find?_cons]
      rw [find_del_other key o h ps]
    · have hk := Val.eq_iff.1 he
      have h2 : hasP o p = false := by show p.1.eq o = false; rw [hk]; exact h
      simp only [Bool.not_true, if_false, Bool.false_eq_true, List.find?_cons, h2]
      exact find_del_other key o h ps
theorem del_some (key : Val) (ps : List PV) : decide ((ps.filter fun q => !q.1.eq key).length < ps.length) = (ps.find? (hasP key)).isSome := by
  rw [Bool.eq_iff_iff, decide_eq_true_iff, List.length_filter_lt_length_iff_exists, List.find?_isSome]
  constructor
  · rintro ⟨x, hx, h⟩
    exact ⟨x, hx, by simpa [hasP] using h⟩
  · rintro ⟨x, hx, h⟩
    exact ⟨x, hx, by simpa [hasP] using h⟩
/-! ### what a weak map is -/
def okP (p : PV) : Bool := mayB p.1 && mayB p.2 && (p.1.k == 7 && !(p.2.k == 8))
def baseB (c : CellD) : Bool := c.k == 8 && (headB c && (c.sl.all mayB && slotsB c))
theorem fl_all (p : Val → Bool) : ∀ ps : List PV, (fl ps).all p = ps.all fun q => p q.1 && p q.2
  | [] => rfl
  | q :: ps => by rw [fl_cons, List.all_cons, List.all_cons, List.all_cons, fl_all p ps, Bool.and_assoc]
theorem entries_fl (ps : List PV) : entriesB 2 (fl ps) = ps.all fun q => q.1.k == 7 && !(q.2.k == 8) := by
  unfold entriesB
  rw [fl_len, show 2 * ps.length % 2 = 0 by omega, show 2 * ps.length / 2 = ps.length by omega]
  rw [Bool.eq_iff_iff]
  simp only [beq_self_eq_true, Bool.true_and, List.all_eq_true, List.mem_range]
  have e : ∀ i (h : i < ps.length), entryB 2 (fl ps) i = (ps[i].1.k == 7 && !(ps[i].2.k == 8)) := fun i h => by
    rw [entryB_def, Nat.mul_comm, (vAt_fl ps i h).1, (vAt_fl ps i h).2]
    cases h7 : (ps[i].1.k == 7) <;> cases h8 : (ps[i].2.k == 8) <;> simp [bne, h7]
  constructor
  · intro h q hq
    obtain ⟨i, hi, rfl⟩ := List.getElem_of_mem hq
    have := h i hi
    rwa [e i hi] at this
  · intro h i hi
    rw [e i hi]
    exact h _ (List.getElem_mem hi)
theorem isW_fl {c : CellD} {ps : List PV} (h : c.mo = fl ps) : isW c = (baseB c && (decide ((fl ps).length ≤ 1048576) && ps.all okP)) := by
  unfold isW baseB rightB
  rw [h, fl_all]
  cases hk : (c.k == 8)
  · rfl
  · have hk8 : c.k = 8 := beq_iff_eq.1 hk
    have hm : moreB c.k (fl ps) = (decide ((fl ps).length ≤ 1048576) && ps.all fun q => q.1.k == 7 && !(q.2.k == 8)) := by
      rw [hk8, ← entries_fl]
      unfold moreB
      by_cases hl : (fl ps).length ≤ 1048576
      · rw [decide_eq_true hl, decide_eq_false (by omega)]
        rfl
      · rw [decide_eq_false hl, decide_eq_true (by omega)]
        rfl
    rw [hm]
    have ha : ps.all okP = ((ps.all fun q => mayB q.1 && mayB q.2) && ps.all fun q => q.1.k == 7 && !(q.2.k == 8)) := by
      rw [Bool.eq_iff_iff]
      simp only [okP, List.all_eq_true, Bool.and_eq_true]
      exact ⟨fun h => ⟨fun q hq => (h q hq).1, fun q hq => (h q hq).2⟩, fun h q hq => ⟨h.1 q hq, h.2 q hq⟩⟩
    rw [ha]
    cases headB c <;> cases c.sl.all mayB <;> cases slotsB c <;> cases decide ((fl ps).length ≤ 1048576) <;> cases (ps.all fun q => mayB q.1 && mayB q.2) <;> simp
end Go.Proofs.Ytdikdkllbhanfaa
