/- Cells: what moving to unused addresses and back does: no program in sight. -/
import Derived.Test.YteifcgffeplkkaaCelAF
import Derived.Test.YteifcgffeplkkaaCelY
namespace Go.Proofs.Yteifcgffeplkkaa
set_option linter.all false
open Go.RowKit Go.Sort Go.Deep

theorem movV_k (P : List (Int × Int)) (v : Val) : (movV P v).k = v.k := by unfold movV; split <;> rfl
theorem movV_s (P : List (Int × Int)) (v : Val) : (movV P v).s = v.s := by unfold movV; split <;> rfl
theorem movV_leads (P : List (Int × Int)) (v : Val) : leadsB (movV P v) = leadsB v := by unfold leadsB; rw [movV_k]
theorem movV_zero (P : List (Int × Int)) : movV P Val.zero = Val.zero := by rw [movV_no]; rfl
theorem vAt_mov (P : List (Int × Int)) (l : List Val) (i : Nat) : vAt (l.map (movV P)) i = movV P (vAt l i) := by
  unfold vAt
  rw [List.getElem?_map]
  cases l[i]? with
  | none => exact (movV_zero P).symm
  | some v => rfl
theorem numB_mov (P : List (Int × Int)) (v : Val) (lo hi : Int) : numB (movV P v) lo hi = numB v lo hi := by
  unfold movV
  cases h : leadsB v
  · simp
  · unfold leadsB at h
    simp only [Bool.or_eq_true, beq_iff_eq] at h
    have h3 : (v.k == 3) = false := by rcases h with h | h <;> simp [h]
    simp [numB, h3]
theorem orNoneB_mov (P : List (Int × Int)) (v : Val) (k : Int) : orNoneB (movV P v) k = orNoneB v k := by unfold orNoneB; rw [movV_k]
theorem entryB_mov (P : List (Int × Int)) (each : Nat) (l : List Val) : entryB each (l.map (movV P)) = entryB each l := by
  funext j
  simp only [entryB, vAt_mov, movV_k, numB_mov, orNoneB_mov]
theorem entriesB_mov (P : List (Int × Int)) (each : Nat) (l : List Val) : entriesB each (l.map (movV P)) = entriesB each l := by
  simp only [entriesB, List.length_map, entryB_mov]
theorem moreB_mov (P : List (Int × Int)) (k : Int) (l : List Val) : moreB k (l.map (movV P)) = moreB k l := by
  simp only [moreB, List.length_map, vAt_mov, movV_k, numB_mov, orNoneB_mov, entriesB_mov, ← List.map_drop]
theorem slotsB_mov (P : List (Int × Int)) (c : CellD) : slotsB (c.mov P) = slotsB c := by
  simp only [slotsB, CellD.mov, List.length_map, vAt_mov, movV_k, orNoneB_mov]
theorem mayB_mov (P : List (Int × Int)) (v : Val) (h : leadsB v = true → 1 ≤ v.n ∧ 1 ≤ (movV P v).n) : mayB (movV P v) = mayB v := by
  cases hl : leadsB v
  · rw [movV_no hl]
  · obtain ⟨h1, h2⟩ := h hl
    rw [movV_yes hl] at h2 ⊢
    unfold leadsB at hl
    simp only [Bool.or_eq_true, beq_iff_eq] at hl
    have e2 : decide (1 ≤ (lookP P v.n).getD v.n) = decide (1 ≤ v.n) := by rw [decide_eq_true h1, decide_eq_true h2]
    rcases hl with hk | hk <;> simp [mayB, hk, e2]
theorem all_mov (P : List (Int × Int)) (l : List Val) (h : ∀ v ∈ l, leadsB v = true → 1 ≤ v.n ∧ 1 ≤ (movV P v).n) : (l.map (movV P)).all mayB = l.all mayB := by
  rw [List.all_map, Bool.eq_iff_iff, List.all_eq_true, List.all_eq_true]
  constructor
  · intro k v hv
    have := k v hv
    rwa [Function.comp, mayB_mov P v (h v hv)] at this
  · intro k v hv
    rw [Function.comp, mayB_mov P v (h v hv)]
    exact k v hv
theorem rightB_mov (P : List (Int × Int)) (c : CellD) (h : ∀ v ∈ c.sl ++ c.mo, leadsB v = true → 1 ≤ v.n ∧ 1 ≤ (movV P v).n) : rightB (c.mov P) = rightB c := by
  unfold rightB
  rw [slotsB_mov]
  have e1 := all_mov P c.sl (fun v hv => h v (List.mem_append_left _ hv))
  have e2 := all_mov P c.mo (fun v hv => h v (List.mem_append_right _ hv))
  show (headB (c.mov P) && (((c.sl.map (movV P)).all mayB && (c.mo.map (movV P)).all mayB) && (slotsB c && moreB c.k (c.mo.map (movV P))))) = _
  rw [e1, e2, moreB_mov]
  rfl
theorem elemsD_mov (P : List (Int × Int)) (c : CellD) : elemsD (c.mov P) = (elemsD c).map fun x => (x.1, movV P x.2) := by
  unfold elemsD moreD CellD.mov
  rw [List.map_append]
  congr 1
  · simp
  · apply List.ext_getElem
    · simp
    · intro i h1 h2
      simp
theorem addrD_mov (P : List (Int × Int)) (b : Bool) (c : CellD) : (addrD b (elemsD (c.mov P))).length = (addrD b (elemsD c)).length := by
  rw [elemsD_mov]
  unfold addrD
  rw [List.length_map, List.length_map, List.filter_map, List.length_map]
  congr 1
  apply List.filter_congr
  intro x _
  simp [movV_leads]
/-- all addresses of a cell -/
def allA (c : CellD) : List Int := addrD true (elemsD c) ++ addrD false (elemsD c)
theorem allA_mem {c : CellD} {v : Val} (hv : v ∈ c.sl ++ c.mo) (hl : leadsB v = true) : v.n ∈ allA c := by
  rw [← elemsD_snd] at hv
  obtain ⟨⟨b, u⟩, hx, rfl⟩ := List.mem_map.1 hv
  have : u.n ∈ addrD b (elemsD c) := by
    unfold addrD
    exact List.mem_map.2 ⟨(b, u), List.mem_filter.2 ⟨hx, by simpa using hl⟩, rfl⟩
  unfold allA
  cases b
  · exact List.mem_append_right _ this
  · exact List.mem_append_left _ this
/-- the unused addresses -/
def tlOf (n : Nat) : List Int := (List.range n).map fun (i : Nat) => 2199023255552 + (i : Int)
theorem tlOf_len (n : Nat) : (tlOf n).length = n := by simp [tlOf]
theorem tlOf_at {n i : Nat} (h : i < n) : (tlOf n)[i]? = some (2199023255552 + (i : Int)) := by simp [tlOf, h]
theorem tlOf_succ (n : Nat) : tlOf (n + 1) = tlOf n ++ [2199023255552 + (n : Int)] := by simp [tlOf, List.range_succ]
theorem tlOf_ok {n : Nat} (h : n ≤ 100000) : ∀ x ∈ tlOf n, i64ok x := by
  intro x hx
  obtain ⟨i, hi, rfl⟩ := List.mem_map.1 hx
  have := List.mem_range.1 hi
  constructor <;> omega
theorem tlOf_inj {n i j : Nat} {a : Int} (h1 : (tlOf n)[i]? = some a) (h2 : (tlOf n)[j]? = some a) : i = j := by
  have l1 := (List.getElem?_eq_some_iff.1 h1).1
  have l2 := (List.getElem?_eq_some_iff.1 h2).1
  rw [tlOf_len] at l1 l2
  rw [tlOf_at l1] at h1
  rw [tlOf_at l2] at h2
  simp only [Option.some.injEq] at h1 h2
  omega
theorem lookP_at {fr tl : List Int} (hd : ∀ (i j : Nat) (a : Int), fr[i]? = some a → fr[j]? = some a → i = j) {i : Nat} {a : Int} (h : fr[i]? = some a) : lookP (pairsM fr tl) a = some ((tl[i]?).getD a) := by
  have hn : ∀ k, k ≤ i → lookP ((pairsM fr tl).take k) a = none := by
    intro k
    induction k with
    | zero => intro _; rfl
    | succ k ih =>
      intro hk
      have hl : k < fr.length := by have := (List.getElem?_eq_some_iff.1 h).1; omega
      have hx : fr[k]? = some fr[k] := List.getElem?_eq_getElem hl
      rw [lookP_step (pairsM_at hx), ih (by omega)]
      have : (fr[k] == a) = false := by
        rw [beq_eq_false_iff_ne]
        intro e
        rw [e] at hx
        have := hd k i a hx h
        omega
      rw [this]; rfl
  apply lookP_more (k := i + 1)
  rw [lookP_step (pairsM_at h), hn i (Nat.le_refl _)]
  simp
/-- what the law's loop has gathered -/
def Gath (fr : List Int) (l : List Int) : Prop := (∀ n ∈ l, n ∈ fr) ∧ (∀ (i j : Nat) (a : Int), fr[i]? = some a → fr[j]? = some a → i = j) ∧ (∀ n ∈ fr, 1 ≤ n ∧ n ≤ 1099511627776)
theorem Gath.nil : Gath [] [] := ⟨fun _ h => (by cases h), fun i j a h => (by simp at h), fun _ h => (by cases h)⟩
theorem Gath.old {fr l : List Int} {n : Int} (h : Gath fr l) (hn : n ∈ fr) : Gath fr (l ++ [n]) :=
  ⟨fun m hm => by rcases List.mem_append.1 hm with hm | hm
                  · exact h.1 m hm
                  · rw [List.mem_singleton.1 hm]; exact hn, h.2.1, h.2.2⟩
theorem Gath.new {fr l : List Int} {n : Int} (h : Gath fr l) (hn : n ∉ fr) (h1 : 1 ≤ n) (h2 : n ≤ 1099511627776) : Gath (fr ++ [n]) (l ++ [n]) := by
  refine ⟨fun m hm => ?_, fun i j a hi hj => ?_, fun m hm => ?_⟩
  · rcases List.mem_append.1 hm with hm | hm
    · exact List.mem_append_left _ (h.1 m hm)
    · exact List.mem_append_right _ hm
  · by_cases ai : i < fr.length <;> by_cases aj : j < fr.length
    · rw [List.getElem?_append_left ai] at hi
      rw [List.getElem?_append_left aj] at hj
      exact h.2.1 i j a hi hj
    · rw [List.getElem?_append_left ai] at hi
      have lj := (List.getElem?_eq_some_iff.1 hj).1
      rw [List.getElem?_append_right (by omega)] at hj
      have : j - fr.length = 0 := by simp at lj; omega
      rw [this] at hj
      simp at hj
      subst hj
      exact absurd (List.mem_of_getElem? hi) hn
    · rw [List.getElem?_append_left aj] at hj
      have lj := (List.getElem?_eq_some_iff.1 hi).1
      rw [List.getElem?_append_right (by omega)] at hi
      have : i - fr.length = 0 := by simp at lj; omega
      rw [this] at hi
      simp at hi
      subst hi
      exact absurd (List.mem_of_getElem? hj) hn
    · have l1 := (List.getElem?_eq_some_iff.1 hi).1
      have l2 := (List.getElem?_eq_some_iff.1 hj).1
      simp at l1 l2
      omega
  · rcases List.mem_append.1 hm with hm | hm
    · exact h.2.2 m hm
    · rw [List.mem_singleton.1 hm]; exact ⟨h1, h2⟩
theorem mov_new {c : CellD} {fr : List Int} (h : Gath fr (allA c)) {v : Val} (hv : v ∈ c.sl ++ c.mo) (hl : leadsB v = true) : ∃ i : Nat, fr[i]? = some v.n ∧ i < fr.length ∧ movV (pairsM fr (tlOf fr.length)) v = ⟨v.k, 2199023255552 + (i : Int), v.s⟩ := by
  obtain ⟨i, hi, e⟩ := List.getElem_of_mem (h.1 _ (allA_mem hv hl))
  have hf : fr[i]? = some v.n := by rw [List.getElem?_eq_getElem hi, e]
  refine ⟨i, hf, hi, ?_⟩
  rw [movV_yes hl, lookP_at h.2.1 hf, tlOf_at hi]
  rfl
theorem mov_back {c : CellD} {fr : List Int} (h : Gath fr (allA c)) {v : Val} (hv : v ∈ c.sl ++ c.mo) : movV (pairsM (tlOf fr.length) fr) (movV (pairsM fr (tlOf fr.length)) v) = v := by
  cases hl : leadsB v
  · rw [movV_no hl, movV_no hl]
  · obtain ⟨i, hi, hlt, e⟩ := mov_new h hv hl
    rw [e, movV_yes (v := ⟨v.k, 2199023255552 + (i : Int), v.s⟩) hl, lookP_at (fun i j a h1 h2 => tlOf_inj h1 h2) (tlOf_at hlt), hi]
    rfl
theorem map_back {c : CellD} {fr : List Int} (h : Gath fr (allA c)) {l : List Val} (hl : ∀ v ∈ l, v ∈ c.sl ++ c.mo) : (l.map (movV (pairsM fr (tlOf fr.length)))).map (movV (pairsM (tlOf fr.length) fr)) = l := by
  rw [List.map_map]
  have : ∀ v ∈ l, (movV (pairsM (tlOf fr.length) fr) ∘ movV (pairsM fr (tlOf fr.length))) v = v := fun v hv => mov_back h (hl v hv)
  rw [List.map_congr_left this, List.map_id']
theorem right_back {c : CellD} {fr : List Int} (h : Gath fr (allA c)) : rightB (c.mov (pairsM fr (tlOf fr.length))) = rightB c := by
  apply rightB_mov
  intro v hv hl
  obtain ⟨i, hi, _, e⟩ := mov_new h hv hl
  rw [e]
  refine ⟨(h.2.2 _ (List.mem_of_getElem? hi)).1, ?_⟩
  show (1 : Int) ≤ 2199023255552 + (i : Int)
  omega
theorem ok_mov {c : CellD} {fr : List Int} (hc : c.ok) (h : Gath fr (allA c)) (hn : fr.length ≤ 100000) : (c.mov (pairsM fr (tlOf fr.length))).ok := by
  obtain ⟨h1, h2, h3, h4, h5, h6⟩ := hc
  have hv : ∀ v ∈ c.sl ++ c.mo, v.ok → (movV (pairsM fr (tlOf fr.length)) v).ok := by
    intro v hv hok
    cases hl : leadsB v
    · rw [movV_no hl]; exact hok
    · obtain ⟨i, _, hlt, e⟩ := mov_new h hv hl
      rw [e]
      exact ⟨hok.1, ⟨by show (_ : Int) ≤ 2199023255552 + (i : Int); omega, by show 2199023255552 + (i : Int) ≤ _; omega⟩, hok.2.2⟩
  refine ⟨h1, h2, h3, h4, fun x hx => ?_, fun x hx => ?_⟩
  · obtain ⟨v, hm, rfl⟩ := List.mem_map.1 hx
    exact hv v (List.mem_append_left _ hm) (h5 v hm)
  · obtain ⟨v, hm, rfl⟩ := List.mem_map.1 hx
    exact hv v (List.mem_append_right _ hm) (h6 v hm)
end Go.Proofs.Yteifcgffeplkkaa
