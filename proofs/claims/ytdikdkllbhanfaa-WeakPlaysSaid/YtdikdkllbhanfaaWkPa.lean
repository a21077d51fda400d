/- Weak maps: the plain law of WeakPlays. No program here. -/
import Derived.Test.YtdikdkllbhanfaaWkV
namespace Go.Proofs.Ytdikdkllbhanfaa
set_option linter.all false
open Go.RowKit Go.Sort Go.Deep

/-- the entries after i deeds: k i the key, d i whether it is deleted -/
def stP (k : Nat → Int) (d : Nat → Bool) : Nat → List PV
  | 0 => []
  | i + 1 => if d i then (stP k d i).filter fun q => !q.1.eq (objV (k i)) else setP (objV (k i)) (numV i) (stP k d i)
/-- the last deed for a key that set it and was not undone -/
def lastP (k : Nat → Int) (d : Nat → Bool) (a : Int) : Nat → Int
  | 0 => -1
  | i + 1 => if k i == a then (if d i then -1 else (i : Int)) else lastP k d a i
theorem obj_eq (a b : Int) : (objV a).eq (objV b) = (a == b) := by
  cases h : a == b
  · refine Val.eq_false.2 fun e => ?_
    have : a = b := by injection e
    simp [this] at h
  · rw [beq_iff_eq.1 h]
    exact Val.eq_self _
theorem find_st (k : Nat → Int) (d : Nat → Bool) (a : Int) : ∀ i, (stP k d i).find? (hasP (objV a)) = if 0 ≤ lastP k d a i then some (objV a, numV (lastP k d a i)) else none
  | 0 => rfl
  | i + 1 => by
    have ih := find_st k d a i
    have hl : lastP k d a (i + 1) = if k i == a then (if d i then -1 else (i : Int)) else lastP k d a i := rfl
    have hs : stP k d (i + 1) = if d i then (stP k d i).filter fun q => !q.1.eq (objV (k i)) else setP (objV (k i)) (numV i) (stP k d i) := rfl
    cases hd : d i
    · rw [hd, if_neg (by simp)] at hs
      cases hk : k i == a
      · rw [hk, if_neg (by simp)] at hl
        rw [hl, hs, find_set_other _ _ _ (by rw [obj_eq]; exact hk), ih]
      · rw [hk, if_pos rfl, hd, if_neg (by simp)] at hl
        rw [hl, hs, ← beq_iff_eq.1 hk, find_set, if_pos (by omega)]
    · rw [hd, if_pos rfl] at hs
      cases hk : k i == a
      · rw [hk, if_neg (by simp)] at hl
        rw [hl, hs, find_del_other _ _ (by rw [obj_eq]; exact hk), ih]
      · rw [hk, if_pos rfl, hd, if_pos rfl] at hl
        rw [hl, hs, ← beq_iff_eq.1 hk, find_del]
        rfl
theorem last_lt (k : Nat → Int) (d : Nat → Bool) (a : Int) : ∀ i, lastP k d a i < i ∧ -1 ≤ lastP k d a i
  | 0 => by unfold lastP; omega
  | i + 1 => by
    have := last_lt k d a i
    unfold lastP
    split <;> (try split) <;> omega
/-! ### the keys are distinct -/
theorem setP_keys (key v : Val) : ∀ ps : List PV, (setP key v ps).map (·.1) = if (ps.find? (hasP key)).isSome then ps.map (·.1) else ps.map (·.1) ++ [key]
  | [] => rfl
  | p :: ps => by
    have ih := setP_keys key v ps
    unfold setP
    rw [List.find?_cons]
    cases he : p.1.eq key
    · have : hasP key p = false := he
      rw [this, if_neg (by simp), List.map_cons, ih]
      simp only [List.map_cons, List.cons_append]
      split <;> rfl
    · have : hasP key p = true := he
      rw [this, if_pos rfl]
      rfl
theorem mem_keys {ps : List PV} {x : Val} : x ∈ ps.map (·.1) ↔ (ps.find? (hasP x)).isSome = true := by
  rw [List.find?_isSome, List.mem_map]
  constructor
  · rintro ⟨p, hp, rfl⟩
    exact ⟨p, hp, Val.eq_self _⟩
  · rintro ⟨p, hp, h⟩
    exact ⟨p, hp, Val.eq_iff.1 h⟩
theorem nodup_st (k : Nat → Int) (d : Nat → Bool) : ∀ i, ((stP k d i).map (·.1)).Nodup
  | 0 => List.nodup_nil
  | i + 1 => by
    have ih := nodup_st k d i
    unfold stP
    cases hd : d i
    · rw [if_neg (by simp), setP_keys]
      cases hs : ((stP k d i).find? (hasP (objV (k i)))).isSome
      · rw [if_neg (by simp)]
        refine List.nodup_append.2 ⟨ih, by simp, fun a ha b hb => ?_⟩
        obtain rfl := List.mem_singleton.1 hb
        rintro rfl
        rw [mem_keys, hs] at ha
        cases ha
      · rw [if_pos rfl]
        exact ih
    · rw [if_pos rfl]
      exact List.Nodup.sublist ((List.filter_sublist).map _) ih
theorem range_st (k : Nat → Int) (d : Nat → Bool) : ∀ i, (∀ j, j < i → 1 ≤ k j ∧ k j ≤ 5) → ∀ q ∈ stP k d i, ∃ (a : Int) (m : Nat), 1 ≤ a ∧ a ≤ 5 ∧ m < i ∧ q = (objV a, numV m)
  | 0, _, q, hq => by cases hq
  | i + 1, hr, q, hq => by
    have ih := range_st k d i fun j hj => hr j (by omega)
    unfold stP at hq
    cases hd : d i
    · rw [hd, if_neg (by simp)] at hq
      rcases mem_setP hq with rfl | hq
      · exact ⟨k i, i, (hr i (by omega)).1, (hr i (by omega)).2, by omega, rfl⟩
      · obtain ⟨a, m, h1, h2, h3, h4⟩ := ih q hq
        exact ⟨a, m, h1, h2, by omega, h4⟩
    · rw [hd, if_pos rfl] at hq
      obtain ⟨a, m, h1, h2, h3, h4⟩ := ih q (List.mem_filter.1 hq).1
      exact ⟨a, m, h1, h2, by omega, h4⟩
/-- how many of the keys 1 .. j are set -/
def manyP (k : Nat → Int) (d : Nat → Bool) (n : Nat) : Nat → Nat
  | 0 => 0
  | j + 1 => manyP k d n j + if 0 ≤ lastP k d ((j + 1 : Nat) : Int) n then 1 else 0
def setKeys (k : Nat → Int) (d : Nat → Bool) (n : Nat) : Nat → List Val
  | 0 => []
  | j + 1 => setKeys k d n j ++ if 0 ≤ lastP k d ((j + 1 : Nat) : Int) n then [objV ((j + 1 : Nat) : Int)] else []
theorem setKeys_len (k : Nat → Int) (d : Nat → Bool) (n : Nat) : ∀ j, (setKeys k d n j).length = manyP k d n j
  | 0 => rfl
  | j + 1 => by
    unfold setKeys manyP
    rw [List.length_append, setKeys_len k d n j]
    split <;> rfl
theorem setKeys_mem (k : Nat → Int) (d : Nat → Bool) (n : Nat) (x : Val) : ∀ j, x ∈ setKeys k d n j ↔ ∃ a : Nat, 1 ≤ a ∧ a ≤ j ∧ 0 ≤ lastP k d a n ∧ x = objV a
  | 0 => by
    constructor
    · intro h; cases h
    · rintro ⟨a, h1, h2, _⟩; omega
  | j + 1 => by
    unfold setKeys
    rw [List.mem_append, setKeys_mem k d n x j]
    constructor
    · rintro (⟨a, h1, h2, h3, h4⟩ | h)
      · exact ⟨a, h1, by omega, h3, h4⟩
      · split at h
        · exact ⟨j + 1, by omega, Nat.le_refl _, by assumption, List.mem_singleton.1 h⟩
        · cases h
    · rintro ⟨a, h1, h2, h3, h4⟩
      by_cases ha : a ≤ j
      · exact .inl ⟨a, h1, ha, h3, h4⟩
      · obtain rfl : a = j + 1 := by omega
        refine .inr ?_
        rw [if_pos h3, h4]
        exact List.mem_singleton.2 rfl
theorem setKeys_nodup (k : Nat → Int) (d : Nat → Bool) (n : Nat) : ∀ j, (setKeys k d n j).Nodup
  | 0 => List.nodup_nil
  | j + 1 => by
    unfold setKeys
    refine List.nodup_append.2 ⟨setKeys_nodup k d n j, by split <;> simp, fun a ha b hb => ?_⟩
    rintro rfl
    obtain ⟨m, h1, h2, _, h4⟩ := (setKeys_mem k d n a j).1 ha
    split at hb
    · rw [List.mem_singleton.1 hb] at h4
      have : ((j + 1 : Nat) : Int) = (m : Int) := by injection h4
      omega
    · cases hb
theorem len_st (k : Nat → Int) (d : Nat → Bool) (n : Nat) (hr : ∀ j, j < n → 1 ≤ k j ∧ k j ≤ 5) : (stP k d n).length = manyP k d n 5 := by
  rw [← setKeys_len, show (stP k d n).length = ((stP k d n).map (·.1)).length from (List.length_map _).symm]
  refine List.Perm.length_eq ((List.perm_ext_iff_of_nodup (nodup_st k d n) (setKeys_nodup k d n 5)).2 fun x => ?_)
  rw [setKeys_mem]
  constructor
  · intro h
    have hx := h
    obtain ⟨q, hq, rfl⟩ := List.mem_map.1 h
    obtain ⟨a, m, h1, h2, h3, rfl⟩ := range_st k d n hr q hq
    have hf := mem_keys.1 hx
    rw [find_st] at hf
    refine ⟨a.toNat, by omega, by omega, ?_, ?_⟩
    · rw [Int.toNat_of_nonneg (by omega)]
      split at hf
      · assumption
      · cases hf
    · rw [Int.toNat_of_nonneg (by omega)]
  · rintro ⟨a, h1, h2, h3, rfl⟩
    rw [mem_keys, find_st, if_pos h3]
    rfl
theorem st_small (k : Nat → Int) (d : Nat → Bool) (n : Nat) (hr : ∀ j, j < n → 1 ≤ k j ∧ k j ≤ 5) : (stP k d n).length ≤ 5 := by
  rw [len_st k d n hr]
  have : ∀ j, manyP k d n j ≤ j := by
    intro j
    induction j with
    | zero => exact Nat.le_refl _
    | succ j ih => unfold manyP; split <;> omega
  exact this 5
theorem many_le (k : Nat → Int) (d : Nat → Bool) (n : Nat) : ∀ j, manyP k d n j ≤ j
  | 0 => Nat.le_refl _
  | j + 1 => by have := many_le k d n j; unfold manyP; split <;> omega
theorem ok_obj {a : Int} (h : 1 ≤ a) (m : Nat) (hm : m ≤ 1000) : okP (objV a, numV m) = true := by
  have h1 : mayB (objV a) = true := by simp [mayB, h]
  have h2 : mayB (numV m) = true := by
    have : (-9007199254740992 : Int) ≤ (m : Int) ∧ (m : Int) ≤ 9007199254740992 := by omega
    simp [mayB, this]
  unfold okP
  rw [h1, h2]
  rfl
abbrev cellS (ps : List PV) : CellD := ⟨8, 0, 0, 0, [⟨1, 0, ⟨#[]⟩⟩], fl ps⟩
theorem base_S (ps : List PV) : baseB (cellS ps) = true := by
  have h : baseB (cellS []) = true := by first | rfl | kernel_rfl | decide +kernel
  exact h
theorem isW_st (k : Nat → Int) (d : Nat → Bool) (n : Nat) (hr : ∀ j, j < n → 1 ≤ k j ∧ k j ≤ 5) (hn : n ≤ 1000) : isW (cellS (stP k d n)) = true := by
  refine isW_of (ps := stP k d n) rfl (base_S _) ?_ ?_
  · have := st_small k d n hr
    rw [fl_len]; omega
  · rw [List.all_eq_true]
    intro q hq
    obtain ⟨a, m, h1, h2, h3, rfl⟩ := range_st k d n hr q hq
    exact ok_obj h1 m (by omega)
theorem ok_st (k : Nat → Int) (d : Nat → Bool) (n : Nat) (hr : ∀ j, j < n → 1 ≤ k j ∧ k j ≤ 5) (hn : n ≤ 1000) : (cellS (stP k d n)).ok := by
  refine ⟨okW1.1, okW1.2.1, okW1.2.2.1, okW1.2.2.2.1, okW1.2.2.2.2.1, fun x hx => ?_⟩
  obtain ⟨q, hq, hx⟩ := fl_mem hx
  obtain ⟨a, m, h1, h2, h3, rfl⟩ := range_st k d n hr q hq
  rcases hx with rfl | rfl
  · exact ⟨(⟨by decide, by decide⟩ : i64ok 7), ⟨by show _ ≤ a; omega, by show a ≤ _; omega⟩, Nat.zero_le _⟩
  · exact ⟨(⟨by decide, by decide⟩ : i64ok 3), ⟨by show _ ≤ (m : Int); omega, by show (m : Int) ≤ _; omega⟩, Nat.zero_le _⟩
theorem fit_st (k : Nat → Int) (d : Nat → Bool) (n : Nat) (hr : ∀ j, j < n → 1 ≤ k j ∧ k j ≤ 5) : (cellS (stP k d n)).fit ∧ (cellS (stP k d n)).mo.length ≤ 10 := by
  have := st_small k d n hr
  have h2 : (fl (stP k d n)).length ≤ 10 := by rw [fl_len]; omega
  exact ⟨fit_of (by show 1 ≤ 1000; omega) (by show (fl (stP k d n)).length ≤ 1000; omega), h2⟩
/-- a deed, as the program does it -/
theorem del_st (k : Nat → Int) (d : Nat → Bool) (i : Nat) (hr : ∀ j, j < i → 1 ≤ k j ∧ k j ≤ 5) (hn : i ≤ 1000) (hd : d i = true) : delC (cellS (stP k d i)) (objV (k i)) = cellS (stP k d (i + 1)) := by
  rw [delC_ps (objV (k i)) (isW_st k d i hr hn) rfl]
  show cellS _ = cellS (if d i then _ else _)
  rw [hd, if_pos rfl]
theorem set_st (k : Nat → Int) (d : Nat → Bool) (i : Nat) (hr : ∀ j, j < i → 1 ≤ k j ∧ k j ≤ 5) (hn : i ≤ 1000) (hk : 1 ≤ k i) (hd : d i = false) : setC (cellS (stP k d i)) (objV (k i)) (numV i) = cellS (stP k d (i + 1)) ∧ setE (cellS (stP k d i)) (objV (k i)) (numV i) = 0 := by
  have hb := isW_st k d i hr hn
  have h := ok_obj hk i hn
  have ho : okSet (objV (k i)) (numV i) = true := by
    unfold okP at h
    rw [Bool.and_eq_true, Bool.and_eq_true] at h
    unfold okSet
    rw [h.1.1, h.1.2]
    rfl
  refine ⟨?_, by unfold setE; rw [if_pos hb, if_pos ho]⟩
  rw [setC_ps hb ho rfl]
  show cellS _ = cellS (if d i then _ else _)
  rw [hd, if_neg (by simp)]
theorem get_st (k : Nat → Int) (d : Nat → Bool) (n : Nat) (hr : ∀ j, j < n → 1 ≤ k j ∧ k j ≤ 5) (hn : n ≤ 1000) (a : Int) :
    (lastP k d a n < 0 ∧ getC (cellS (stP k d n)) (objV a) = Val.zero ∧ getB (cellS (stP k d n)) (objV a) = false) ∨ (0 ≤ lastP k d a n ∧ getC (cellS (stP k d n)) (objV a) = numV (lastP k d a n) ∧ getB (cellS (stP k d n)) (objV a) = true) := by
  obtain ⟨h1, h2⟩ := getC_ps (ps := stP k d n) (isW_st k d n hr hn) rfl (objV a)
  rw [find_st] at h1 h2
  by_cases h : 0 ≤ lastP k d a n
  · rw [if_pos h] at h1 h2
    exact .inr ⟨h, h1, h2⟩
  · rw [if_neg h] at h1 h2
    exact .inl ⟨by omega, h1, h2⟩
theorem len_of_st (k : Nat → Int) (d : Nat → Bool) (n : Nat) (hr : ∀ j, j < n → 1 ≤ k j ∧ k j ≤ 5) (hn : n ≤ 1000) : lenW (cellS (stP k d n)) = manyP k d n 5 := by
  rw [lenW_ps (isW_st k d n hr hn) rfl, len_st k d n hr]
end Go.Proofs.Ytdikdkllbhanfaa
