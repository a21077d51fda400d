/- Inline caches: plain laws for CacheFew, and the reference's test. -/
import Derived.Test.YtbgcjgnhblhohaaCaL
namespace Go.Proofs.Ytbgcjgnhblhohaa
set_option linter.all false
open Go.RowKit Go.Sort Go.Deep

theorem fits_any (x : Ent) (k : Val) (sh ep : Int) (w : World) : Calls Try.prog 13 #[x.agg, k.agg, .int .i64 sh, .int .i64 ep] w fun e w' => e = .returned (.bool (fitB x k sh ep)) ∧ Below w.heap.size w w' := by
  have H := Lib.hid (show fitB x k sh ep = (((Val.mk x.k.k x.k.n x.k.s).eq ⟨k.k, k.n, k.s⟩ && x.sh == sh) && (x.ho == 0 || x.ep == ep)) from rfl)
  cases h1 : (Val.mk x.k.k x.k.n x.k.s).eq ⟨k.k, k.n, k.s⟩ <;> cases h2 : x.sh == sh <;> cases h3 : x.ep == ep <;> cases h4 : x.ho == 0
  all_goals
    rw [h1, h2, h3, h4] at H
    go_enter Try.func13, Try.ntmps13
    go_wp2
    go_ret
    exact ⟨ret_bool H.out.symm, by (repeat (with_reducible first | exact Below.refl _ _ | (refine bl_set ?_ (by first | omega | (simp; done) | (simp; omega)) _) | refine bl_gr ?_ _ | refine bl_al ?_ _ | refine below_setRow ?_ (by first | omega | (simp; done) | (simp; omega)) _ | refine bl_drewN ?_ _ | refine Below.drew ?_ | (refine bl_tr ?_ (by assumption))))⟩

/-- no two entries of one key and one shape -/
def DistL (l : List Ent) : Prop := ∀ (i j : Nat) (a b : Ent), i < j → l[i]? = some a → l[j]? = some b → ofB b a.k a.sh = false
theorem dist_nil : DistL [] := fun i j a b _ h _ => by simp at h
theorem ofB_trans {x y z : Ent} (h : ofB y x.k x.sh = true) : ofB z y.k y.sh = ofB z x.k x.sh := by
  unfold ofB at h ⊢
  rw [Bool.and_eq_true, beq_iff_eq] at h
  rw [Val.eq_iff.1 h.1, h.2]
theorem ofB_symm {x y : Ent} : ofB y x.k x.sh = ofB x y.k y.sh := by
  cases h : ofB y x.k x.sh
  · exact (ofB_comm h).symm
  · cases h2 : ofB x y.k y.sh
    · rw [ofB_comm h2] at h
      cases h
    · rfl
theorem dist_set {l : List Ent} (h : DistL l) {i : Nat} {x : Ent} (hi : i < l.length) (hx : ofB l[i] x.k x.sh = true) : DistL (l.set i x) := fun p q a b hpq ha hb => by
  have ha' : ∃ a', l[p]? = some a' ∧ ∀ z : Ent, ofB z a.k a.sh = ofB z a'.k a'.sh := by
    by_cases hp : p = i
    · subst hp
      rw [List.getElem?_set_self hi] at ha
      cases ha
      exact ⟨_, List.getElem?_eq_getElem hi, fun z => (ofB_trans hx).symm⟩
    · rw [List.getElem?_set_ne (fun e => hp e.symm)] at ha
      exact ⟨a, ha, fun _ => rfl⟩
  have hb' : ∃ b', l[q]? = some b' ∧ ∀ z : Ent, ofB b z.k z.sh = ofB b' z.k z.sh := by
    by_cases hq : q = i
    · subst hq
      rw [List.getElem?_set_self hi] at hb
      cases hb
      exact ⟨_, List.getElem?_eq_getElem hi, fun z => by rw [ofB_symm, ofB_symm (y := l[q])]; exact (ofB_trans hx).symm⟩
    · rw [List.getElem?_set_ne (fun e => hq e.symm)] at hb
      exact ⟨b, hb, fun _ => rfl⟩
  obtain ⟨a', h1, h2⟩ := ha'
  obtain ⟨b', h3, h4⟩ := hb'
  rw [h2, h4]
  exact h p q a' b' hpq h1 h3
theorem dist_snoc {l : List Ent} (h : DistL l) {x : Ent} (hx : ∀ y ∈ l, ofB y x.k x.sh = false) : DistL (l ++ [x]) := fun p q a b hpq ha hb => by
  have hq := (List.getElem?_eq_some_iff.1 hb).1
  simp at hq
  rw [List.getElem?_append_left (by omega)] at ha
  by_cases hql : q < l.length
  · rw [List.getElem?_append_left hql] at hb
    exact h p q a b hpq ha hb
  · obtain rfl : q = l.length := by omega
    simp at hb
    subst hb
    exact ofB_comm (hx a (List.mem_of_getElem? ha))
def FewW (c : CacheD) (m : Nat) (looks : Int) : Prop := c.most = m ∧ c.sites.length = 3 ∧ (∀ s ∈ c.sites, s.l.length ≤ m ∧ DistL s.l) ∧ 0 ≤ c.hits ∧ 0 ≤ c.miss ∧ c.hits + c.miss = looks
theorem few_new (m : Nat) : FewW (newD 3 m) m 0 := ⟨rfl, by simp [newD], fun s hs => by
  simp [newD] at hs
  rw [hs]
  exact ⟨by simp, dist_nil⟩, Int.le_refl _, Int.le_refl _, rfl⟩
theorem few_put {c : CacheD} {m : Nat} {lk : Int} (h : FewW c m lk) (n : Int) {s : SiteD} (hs : s.l.length ≤ m ∧ DistL s.l) : FewW (putS c n s) m lk :=
  ⟨h.1, by simpa [putS] using h.2.1, fun s' hs' => by
    rcases List.mem_or_eq_of_mem_set hs' with h' | h'
    · exact h.2.2.1 s' h'
    · rw [h']; exact hs, h.2.2.2.1, h.2.2.2.2.1, h.2.2.2.2.2⟩
theorem few_note {c : CacheD} {m : Nat} {lk : Int} (h : FewW c m lk) (n : Int) (x : Ent) : FewW (noteC c n x).1 m lk := by
  cases hs : siteD c n with
  | none => rw [note_none hs]; exact h
  | some s =>
    obtain ⟨j, rfl, hj, hsj⟩ := siteD_some hs
    have hw := h.2.2.1 s (List.mem_of_getElem? hsj)
    by_cases h0 : c.most = 0
    · rw [note_shut hs (.inl h0)]; exact h
    · cases hm : s.many with
      | true => rw [note_shut hs (.inr hm)]; exact h
      | false =>
        cases hf : s.l.findIdx? (fun y => ofB y x.k x.sh) with
        | some i =>
          rw [note_some hs h0 hm hf]
          rw [List.findIdx?_eq_some_iff_getElem] at hf
          obtain ⟨hi, hfi, _⟩ := hf
          exact few_put h _ ⟨by simpa using hw.1, dist_set hw.2 hi hfi⟩
        | none =>
          by_cases hl : s.l.length < c.most
          · rw [note_new hs h0 hm hf hl]
            rw [List.findIdx?_eq_none_iff] at hf
            exact few_put h _ ⟨by have := h.1; simp; omega, dist_snoc hw.2 hf⟩
          · rw [note_gone hs h0 hm hf hl]
            exact few_put h _ ⟨by simp, dist_nil⟩
theorem few_look {c : CacheD} {m : Nat} {lk : Int} (h : FewW c m lk) (n : Int) (k : Val) (sh ep : Int) : FewW (lookC c n k sh ep) m (if 0 ≤ n ∧ n < 3 then lk + 1 else lk) := by
  obtain ⟨h1, h2, h3, h4, h5, h6⟩ := h
  cases hs : siteD c n with
  | none =>
    rw [if_neg]
    · simp only [lookC, hs]
      exact ⟨h1, h2, h3, h4, h5, h6⟩
    · rintro ⟨a, b⟩
      unfold siteD at hs
      rw [if_pos a, List.getElem?_eq_none_iff] at hs
      omega
  | some s =>
    obtain ⟨j, rfl, hj, hsj⟩ := siteD_some hs
    rw [if_pos (by omega)]
    simp only [lookC, hs]
    split
    · exact ⟨h1, h2, h3, by simp only; omega, h5, by simp only; omega⟩
    · exact ⟨h1, h2, h3, h4, by simp only; omega, by simp only; omega⟩
theorem few_entries {c : CacheD} {m : Nat} {lk : Int} (h : FewW c m lk) (n : Int) : (entriesD c n).length ≤ m ∧ DistL (entriesD c n) := by
  unfold entriesD
  cases hs : siteD c n with
  | none => exact ⟨by simp, dist_nil⟩
  | some s =>
    obtain ⟨j, rfl, hj, hsj⟩ := siteD_some hs
    exact h.2.2.1 s (List.mem_of_getElem? hsj)
theorem lookS_fit {c : CacheD} {n : Int} {k : Val} {sh ep : Int} {e : Ent} (h : lookS c n k sh ep = some e) : fitB e k sh ep = true := by
  unfold lookS at h
  cases hs : siteD c n with
  | none => rw [hs] at h; cases h
  | some s =>
    rw [hs] at h
    have h' : s.l.find? (fun x => fitB x k sh ep) = some e := h
    exact List.find?_some (p := fun x => fitB x k sh ep) h'
end Go.Proofs.Ytbgcjgnhblhohaa
