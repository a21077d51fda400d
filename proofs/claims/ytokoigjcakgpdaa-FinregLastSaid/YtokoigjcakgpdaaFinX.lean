/- Registries: the plain laws that FinregOnce and FinregLast lean on. -/
import Derived.Test.YtokoigjcakgpdaaFinW
import Derived.Test.YtokoigjcakgpdaaFinR
namespace Go.Proofs.Ytokoigjcakgpdaa
set_option linter.all false
open Go.RowKit Go.Sort Go.Deep

def entB (e : E4) : Bool := !(e.1.k != 7 || e.2.1.k == 8) && (orNoneB e.2.2.1 7 && numB e.2.2.2 0 9007199254740992)
def eMay (e : E4) : Bool := mayB e.1 && mayB e.2.1 && mayB e.2.2.1 && mayB e.2.2.2
def eOK (e : E4) : Bool := entB e && eMay e
theorem entries_fl (es : List E4) : entriesB 4 (fl es) = es.all entB := by
  unfold entriesB
  rw [fl_len]
  have h1 : (4 * es.length % 4 == 0) = true := by simp
  have h2 : 4 * es.length / 4 = es.length := by omega
  rw [h1, h2, Bool.true_and]
  refine range_all es (entryB 4 (fl es)) entB (fun k h => ?_)
  obtain ⟨h0, h1, h2, h3⟩ := vAt_fl es k h
  rw [entryB_def, Nat.mul_comm k 4, h0, h1, h2, h3]
  unfold entB
  cases orNoneB es[k].2.2.1 7 <;> cases numB es[k].2.2.2 0 9007199254740992 <;> simp
theorem may_fl (es : List E4) : (fl es).all mayB = es.all eMay := by
  induction es with
  | nil => rfl
  | cons e es ih => rw [fl_cons]; simp [ih, eMay, Bool.and_assoc]
theorem all_eOK (es : List E4) : es.all eOK = (es.all entB && es.all eMay) := by
  induction es with
  | nil => rfl
  | cons e es ih =>
    simp only [List.all_cons, ih, eOK]
    cases entB e <;> cases eMay e <;> cases es.all entB <;> rfl
def restB (c : CellD) (v0 : Val) : Bool := c.k == 10 && headB c && c.sl.all mayB && slotsB c && mayB v0 && v0.k == 7
theorem more_reg {v0 : Val} {es : List E4} (hl : 1 + 4 * es.length ≤ 1048576) : moreB 10 (v0 :: fl es) = (v0.k == 7 && es.all entB) := by
  have e : (v0 :: fl es).length = 1 + 4 * es.length := by rw [List.length_cons, fl_len]; omega
  have h1 : decide ((1048576 : Int) < ((v0 :: fl es).length : Int)) = false := decide_eq_false (by rw [e]; omega)
  have h2 : decide ((1 : Int) ≤ ((v0 :: fl es).length : Int)) = true := decide_eq_true (by rw [e]; omega)
  unfold moreB
  rw [h1, h2, vAt_zero]
  show (true && v0.k == 7 && entriesB 4 (fl es)) = _
  rw [entries_fl, Bool.true_and]
theorem isB_reg {c : CellD} {v0 : Val} {es : List E4} (hm : c.mo = v0 :: fl es) (hl : 1 + 4 * es.length ≤ 1048576) : isB c = (restB c v0 && es.all eOK) := by
  unfold isB rightB restB
  rw [hm, all_eOK, List.all_cons, may_fl]
  cases hk : c.k == 10
  · rfl
  · have h10 : c.k = 10 := by simpa using hk
    have hs : moreB c.k (v0 :: fl es) = (v0.k == 7 && es.all entB) := by rw [h10, more_reg hl]
    rw [hs]
    cases headB c <;> cases c.sl.all mayB <;> cases slotsB c <;> cases mayB v0 <;> cases v0.k == 7 <;> cases es.all entB <;> cases es.all eMay <;> rfl
theorem reg_view {c : CellD} (h : isB c = true) : ∃ es, c.mo = vAt c.mo 0 :: fl es ∧ es.length = (c.mo.length - 1) / 4 ∧ c.mo.length = 1 + 4 * es.length := by
  obtain ⟨m, hm, _⟩ := reg_len h
  cases e : c.mo with
  | nil => rw [e] at hm; simp at hm; omega
  | cons x t =>
    rw [e] at hm
    have ht : t.length = 4 * m := by simp only [List.length_cons] at hm; omega
    obtain ⟨h1, h2⟩ := cut4_fl m t ht
    refine ⟨cut4 t, by rw [vAt_zero, h1], ?_, ?_⟩
    · rw [h2]; omega
    · rw [h2]; exact hm
/-- a registry with other entries -/
abbrev regD (c : CellD) (v0 : Val) (es : List E4) : CellD := ⟨c.k, c.sh, c.fl, c.ag, c.sl, v0 :: fl es⟩
theorem isB_with {c : CellD} {v0 : Val} {es es' : List E4} (h : isB c = true) (hm : c.mo = v0 :: fl es) (hl : 1 + 4 * es.length ≤ 1048576) (hl' : 1 + 4 * es'.length ≤ 1048576) (ho : es.all eOK = true → es'.all eOK = true) : isB (regD c v0 es') = true := by
  rw [isB_reg hm hl, Bool.and_eq_true] at h
  rw [isB_reg (c := regD c v0 es') (v0 := v0) (es := es') rfl hl', Bool.and_eq_true]
  exact ⟨h.1, ho h.2⟩
theorem lenF_reg {c : CellD} {v0 : Val} {es : List E4} (h : isB (regD c v0 es) = true) : lenF (regD c v0 es) = es.length := by
  unfold lenF
  rw [h, if_pos rfl]
  show ((v0 :: fl es).length - 1) / 4 = _
  rw [List.length_cons, fl_len]; omega
theorem clean_reg {c : CellD} {es : List E4} (live : List Int) (h : isB c = true) (hm : c.mo = vAt c.mo 0 :: fl es) : cleanC c live = regD c (vAt c.mo 0) (keepL (inB live) es) ∧ cleanT c live = toldsL (inB live) (vAt c.mo 0) es := by
  have hl : (c.mo.length - 1) / 4 = es.length := by rw [hm, List.length_cons, fl_len]; omega
  unfold cleanC cleanT
  rw [if_pos h, if_pos h, hl]
  generalize hv : vAt c.mo 0 = v0 at *
  rw [hm, kept_eq, told_eq]
  exact ⟨rfl, rfl⟩
theorem rem_reg {c : CellD} {es : List E4} (tk : Val) (h : isB c = true) (hm : c.mo = vAt c.mo 0 :: fl es) : remC c tk = regD c (vAt c.mo 0) (remL tk es) ∧ remG c tk = es.any (dropE tk) := by
  have hl : (c.mo.length - 1) / 4 = es.length := by rw [hm, List.length_cons, fl_len]; omega
  unfold remC remG
  rw [if_pos h, if_pos h, hl]
  generalize hv : vAt c.mo 0 = v0 at *
  rw [hm, rem_eq, gone_eq]
  exact ⟨rfl, rfl⟩
theorem tokD_idem (L : Int → Bool) (v : Val) : tokD L (tokD L v) = tokD L v := by
  unfold tokD
  cases h : (v.k == 7 && !L v.n)
  · simp [h]
  · rfl
theorem keep_idem (L : Int → Bool) (es : List E4) : keepL L (keepL L es) = keepL L es := by
  induction es with
  | nil => rfl
  | cons e es ih =>
    unfold keepL at ih ⊢
    cases hl : L e.1.n
    · rw [List.filterMap_cons_none (by simp [keepE, hl]), ih]
    · rw [List.filterMap_cons_some (b := (e.1, e.2.1, tokD L e.2.2.1, e.2.2.2)) (by simp [keepE, hl]), List.filterMap_cons_some (b := (e.1, e.2.1, tokD L e.2.2.1, e.2.2.2)) (by simp [keepE, hl, tokD_idem]), ih]
theorem told_keep (L : Int → Bool) (v0 : Val) (es : List E4) : toldsL L v0 (keepL L es) = [] := by
  induction es with
  | nil => rfl
  | cons e es ih =>
    unfold keepL toldsL at ih ⊢
    cases hl : L e.1.n
    · rw [List.filterMap_cons_none (by simp [keepE, hl]), ih]
    · rw [List.filterMap_cons_some (b := (e.1, e.2.1, tokD L e.2.2.1, e.2.2.2)) (by simp [keepE, hl]), List.flatMap_cons, ih]
      simp [hl]
theorem keep_count (L : Int → Bool) (v0 : Val) (es : List E4) : 3 * (keepL L es).length + (toldsL L v0 es).length = 3 * es.length := by
  induction es with
  | nil => rfl
  | cons e es ih =>
    unfold keepL toldsL at ih ⊢
    cases hl : L e.1.n
    · rw [List.filterMap_cons_none (by simp [keepE, hl]), List.flatMap_cons]
      rw [hl, List.length_append, List.length_cons]
      simp only [Bool.false_eq_true, if_false, List.length_cons, List.length_nil]
      omega
    · rw [List.filterMap_cons_some (b := (e.1, e.2.1, tokD L e.2.2.1, e.2.2.2)) (by simp [keepE, hl]), List.flatMap_cons]
      rw [hl, List.length_append, List.length_cons, List.length_cons]
      simp only [if_true, List.length_nil]
      omega
theorem keep_ok (L : Int → Bool) (es : List E4) (h : es.all eOK = true) : (keepL L es).all eOK = true := by
  rw [List.all_eq_true] at h ⊢
  intro e he
  obtain ⟨x, hx, hk⟩ := List.mem_filterMap.1 he
  have hx' := h x hx
  unfold keepE at hk
  split at hk
  · cases hk
    have ht : tokD L x.2.2.1 = Val.zero ∨ tokD L x.2.2.1 = x.2.2.1 := by
      unfold tokD
      cases (x.2.2.1.k == 7 && !L x.2.2.1.n) <;> simp
    unfold eOK entB eMay at hx' ⊢
    rcases ht with ht | ht
    · have z1 : orNoneB Val.zero 7 = true := rfl
      have z2 : mayB Val.zero = true := by first | rfl | kernel_rfl | decide
      simp only [ht, z1, z2]
      simp only [Bool.and_eq_true] at hx' ⊢
      exact ⟨⟨hx'.1.1, trivial, hx'.1.2.2⟩, ⟨⟨hx'.2.1.1.1, hx'.2.1.1.2⟩, trivial⟩, hx'.2.2⟩
    · simp only [ht]
      exact hx'
  · cases hk
theorem keep_len (L : Int → Bool) (es : List E4) : (keepL L es).length ≤ es.length := List.length_filterMap_le _ _
theorem rem_ok (tk : Val) (es : List E4) (h : es.all eOK = true) : (remL tk es).all eOK = true := by
  rw [List.all_eq_true] at h ⊢
  intro e he
  exact h e (List.mem_filter.1 he).1
theorem rem_len (tk : Val) (es : List E4) : (remL tk es).length ≤ es.length := List.length_filter_le _ _
theorem rem_idem (tk : Val) (es : List E4) : remL tk (remL tk es) = remL tk es := by unfold remL; simp
theorem rem_none (tk : Val) (es : List E4) : (remL tk es).any (dropE tk) = false := by
  rw [List.any_eq_false]
  intro e he
  have := (List.mem_filter.1 he).2
  simpa using this
theorem rem_less (tk : Val) (es : List E4) : es.any (dropE tk) = decide (0 < es.length - (remL tk es).length) := by
  induction es with
  | nil => rfl
  | cons e es ih =>
    have hle := rem_len tk es
    unfold remL at ih hle ⊢
    rw [List.any_cons, ih]
    cases hd : dropE tk e
    · rw [List.filter_cons_of_pos (by simp [hd])]
      simp
    · rw [List.filter_cons_of_neg (by simp [hd])]
      simp only [List.length_cons, Bool.true_or]
      exact (decide_eq_true (by omega)).symm
theorem told_all (v0 : Val) (es : List E4) : (toldsL (inB []) v0 es).length = 3 * es.length := by
  induction es with
  | nil => rfl
  | cons e es ih =>
    unfold toldsL at ih ⊢
    rw [List.flatMap_cons, List.length_append, ih]
    have : inB [] e.1.n = false := rfl
    rw [this]
    simp; omega
theorem told_append (L : Int → Bool) (v0 : Val) (es : List E4) (e : E4) : toldsL L v0 (es ++ [e]) = toldsL L v0 es ++ (if L e.1.n then [] else [v0, e.2.1, e.2.2.2]) := by
  unfold toldsL
  rw [List.flatMap_append]
  simp
theorem keep_append (L : Int → Bool) (es : List E4) (e : E4) (h : L e.1.n = true) : keepL L (es ++ [e]) = keepL L es ++ [(e.1, e.2.1, tokD L e.2.2.1, e.2.2.2)] := by
  unfold keepL
  rw [List.filterMap_append]
  simp [keepE, h]
end Go.Proofs.Ytokoigjcakgpdaa
