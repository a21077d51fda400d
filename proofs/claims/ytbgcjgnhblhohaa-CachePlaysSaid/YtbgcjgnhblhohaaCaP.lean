/- Inline caches: the reference's caches as they stand in memory; has, State, Entries, New. -/
import Derived.Test.YtbgcjgnhblhohaaCaN
import Derived.Test.YtbgcjgnhblhohaaCaJ
namespace Go.Proofs.Ytbgcjgnhblhohaa
set_option linter.all false
open Go.RowKit Go.Sort Go.Deep Go.Shelf

/-- the cells of a site of the reference, its list as it stands -/
structure SiteR where
  many : Bool
  lv : Value
abbrev SiteR.cs (r : SiteR) : List Value := [.bool r.many, r.lv]
instance : Inhabited SiteR := ⟨⟨false, .slice none 0 0⟩⟩
theorem siter_len (x : SiteR) : (SiteR.cs x).length = 2 := rfl
/-- the block of a slice is of the type T -/
def TagV (w : World) (T : TypeId) (v : Value) : Prop := ∀ b off n c, v = .slice (some ⟨b, off, none⟩) n c → ∃ arr, w.heap[b]? = some (.cells arr T)
theorem TagV.nil_ {w : World} {T : TypeId} : TagV w T (.slice none 0 0) := fun b off n c h => by cases h
theorem TagV.below {w w' : World} {T : TypeId} {v : Value} (h : TagV w T v) (hb : Below w.heap.size w w') : TagV w' T v := fun b off n c e => by
  obtain ⟨arr, ha⟩ := h b off n c e
  exact ⟨arr, (hb.block _ (Array.getElem?_eq_some_iff.1 ha).1).trans ha⟩
theorem TagV.touch {F : Nat → Prop} {w w' : World} {T : TypeId} {v : Value} (h : TagV w T v) (ht : Touch F w w') (hF : ∀ k arr, F k → w.heap[k]? ≠ some (.cells arr T)) : TagV w' T v := fun b off n c e => by
  obtain ⟨arr, ha⟩ := h b off n c e
  exact ⟨arr, (ht.block _ (Array.getElem?_eq_some_iff.1 ha).1 (fun hf => hF _ _ hf ha)).trans ha⟩
theorem tag_own {w : World} {lo : Nat} {E : TypeId} {size n : Nat} {v : Value} {xs : List Value} (h : w.ownsRow lo E size v n xs) : TagV w E v := fun b off k c e => by
  subst e
  rcases h.2 with ⟨h0, _⟩ | ⟨g, cap, cur, e1, h3, h4, _⟩
  · cases h0
  · simp only [Value.slice.injEq, Option.some.injEq, Addr.mk.injEq, and_true] at e1
    obtain ⟨⟨rfl, rfl⟩, _⟩ := e1
    exact ⟨cur, h4⟩
/-- a slice of entries of the reference's type -/
def IsL (w : World) (v : Value) (xs : List Ent) : Prop := IsE w v xs ∧ TagV w 25 v
theorem IsL.nil_ {w : World} : IsL w (.slice none 0 0) [] := ⟨.nil_, .nil_⟩
theorem IsL.below {w w' : World} {v : Value} {l : List Ent} (h : IsL w v l) (hb : Below w.heap.size w w') : IsL w' v l := ⟨h.1.below hb, h.2.below hb⟩
theorem IsL.own {w : World} {lo n : Nat} {v : Value} {xs : List Ent} (h : w.ownsRow lo 25 8 v n (flat Ent.cs xs)) (hs : IsE w v xs) : IsL w v xs := ⟨hs, tag_own h⟩
def HoldsR (w : World) (r : SiteR) (s : SiteD) : Prop := r.many = s.many ∧ IsL w r.lv s.l
theorem HoldsR.below {w w' : World} {r : SiteR} {s : SiteD} (h : HoldsR w r s) (hb : Below w.heap.size w w') : HoldsR w' r s := ⟨h.1, h.2.below hb⟩
/-- v is a slice of sites that reads as l -/
def IsR (w : World) (v : Value) (l : List SiteD) : Prop := ∃ rs : List SiteR, (SlOf w 2 SiteR.cs v rs ∧ TagV w 79 v) ∧ rs.length = l.length ∧ ∀ (i : Nat) (r : SiteR) (s : SiteD), rs[i]? = some r → l[i]? = some s → HoldsR w r s
theorem IsR.below {w w' : World} {v : Value} {l : List SiteD} (h : IsR w v l) (hb : Below w.heap.size w w') : IsR w' v l := by
  obtain ⟨rs, h1, h2, h3⟩ := h
  exact ⟨rs, ⟨h1.1.below hb, h1.2.below hb⟩, h2, fun i r s hr hs => (h3 i r s hr hs).below hb⟩
theorem IsR.form {w : World} {v : Value} {l : List SiteD} (h : IsR w v l) : ∃ A cap, v = .slice A l.length cap ∧ l.length ≤ cap ∧ l.length ≤ maxLen := by
  obtain ⟨rs, h1, h2, h3⟩ := h
  rw [← h2]
  exact h1.1.form
/-- the cells of site i -/
theorem IsR.at_ {w : World} {v : Value} {l : List SiteD} (h : IsR w v l) {i : Nat} {s : SiteD} (hi : l[i]? = some s) : ∃ b off cap A n, v = .slice (some ⟨b, off, none⟩) l.length cap ∧ b < w.heap.size ∧ w.cell? ⟨b, off + i * 2, none⟩ = some (.bool s.many) ∧ w.cell? ⟨b, off + i * 2 + 1, none⟩ = some (.slice A s.l.length n) ∧ IsE w (.slice A s.l.length n) s.l := by
  obtain ⟨rs, h1, h2, h3⟩ := h
  have hl := (List.getElem?_eq_some_iff.1 hi).1
  obtain ⟨b, off, cap, rfl, hc, hb, hx⟩ := h1.1.at_ (by omega)
  obtain ⟨r, hr⟩ : ∃ r, rs[i]? = some r := ⟨_, List.getElem?_eq_getElem (by omega)⟩
  obtain ⟨e1, e2⟩ := h3 i r s hr hi
  obtain ⟨A, n, e, _, _⟩ := e2.1.form
  refine ⟨b, off, cap, A, n, by rw [h2], hb, by have := hx i r hr 0 _ rfl; rw [Nat.add_zero, e1] at this; exact this, by have := hx i r hr 1 _ rfl; rw [e] at this; exact this, by rw [← e]; exact e2.1⟩
theorem isE_touch {F : Nat → Prop} {w w' : World} {v : Value} {l : List Ent} (h : IsL w v l) (ht : Touch F w w') (hF : ∀ k arr, F k → w.heap[k]? ≠ some (.cells arr 25)) : IsL w' v l :=
  ⟨SlOf.touch h.1 ht fun b off cap hv _ hb => by
    obtain ⟨arr, ha⟩ := h.2 b off _ _ hv
    exact hF _ _ hb ha, h.2.touch ht hF⟩
/-- what is written is of other types -/
theorem isR_touch {F : Nat → Prop} {w w' : World} {v : Value} {l : List SiteD} (h : IsR w v l) (ht : Touch F w w') (hF : ∀ k arr, F k → w.heap[k]? ≠ some (.cells arr 25) ∧ w.heap[k]? ≠ some (.cells arr 79)) : IsR w' v l := by
  obtain ⟨rs, h1, h2, h3⟩ := h
  exact ⟨rs, ⟨SlOf.touch h1.1 ht fun b off cap hv _ hb => by
    obtain ⟨arr, ha⟩ := h1.2 b off _ _ hv
    exact (hF _ arr hb).2 ha, h1.2.touch ht fun k arr hk => (hF k arr hk).2⟩, h2, fun i r s hr hs => ⟨(h3 i r s hr hs).1, isE_touch (h3 i r s hr hs).2 ht fun k arr hk => (hF k arr hk).1⟩⟩
abbrev refV (m : Int) (sv : Value) (h s : Int) : Value := .agg #[.int .i64 m, sv, .int .i64 h, .int .i64 s]
abbrev refO (m : Int) (sv : Value) (h s : Int) : Obj := .cells #[.int .i64 m, sv, .int .i64 h, .int .i64 s] 50

/-! has -/
def hasB (n : Int) (k : Nat) : Bool := decide (0 ≤ n ∧ n < k)
theorem has_siteD (c : CacheD) (n : Int) : hasB n c.sites.length = (siteD c n).isSome := by
  unfold hasB siteD
  by_cases h : 0 ≤ n
  · rw [if_pos h]
    by_cases h2 : n < c.sites.length
    · rw [decide_eq_true ⟨h, h2⟩, List.getElem?_eq_getElem (by omega)]
      rfl
    · rw [decide_eq_false (fun h' => h2 h'.2), List.getElem?_eq_none (by omega)]
      rfl
  · rw [if_neg h, decide_eq_false (fun h' => h h'.1)]
    rfl
theorem has_any (m h s n : Int) (A : Option Addr) (k cap : Nat) (w : World) : Calls Try.prog 31 #[refV m (.slice A k cap) h s, .int .i64 n] w fun e w' => e = .returned (.bool (hasB n k)) ∧ Below w.heap.size w w' := by
  by_cases h0 : n ≥ 0
  · by_cases h1 : n < k
    · have H := Lib.hid (show hasB n k = true from decide_eq_true ⟨h0, h1⟩)
      go_enter Try.func31, Try.ntmps31
      go_wp2
      go_ret
      exact ⟨ret_bool H.out.symm, by (repeat (with_reducible first | exact Below.refl _ _ | (refine bl_set ?_ (by first | omega | (simp; done) | (simp; omega)) _) | refine bl_gr ?_ _ | refine bl_al ?_ _ | refine below_setRow ?_ (by first | omega | (simp; done) | (simp; omega)) _ | refine bl_drewN ?_ _ | refine Below.drew ?_ | (refine bl_tr ?_ (by assumption))))⟩
    · have H := Lib.hid (show hasB n k = false from decide_eq_false fun h' => h1 h'.2)
      go_enter Try.func31, Try.ntmps31
      go_wp2
      go_ret
      exact ⟨ret_bool H.out.symm, by (repeat (with_reducible first | exact Below.refl _ _ | (refine bl_set ?_ (by first | omega | (simp; done) | (simp; omega)) _) | refine bl_gr ?_ _ | refine bl_al ?_ _ | refine below_setRow ?_ (by first | omega | (simp; done) | (simp; omega)) _ | refine bl_drewN ?_ _ | refine Below.drew ?_ | (refine bl_tr ?_ (by assumption))))⟩
  · have H := Lib.hid (show hasB n k = false from decide_eq_false fun h' => h0 h'.1)
    go_enter Try.func31, Try.ntmps31
    go_wp2
    go_ret
    exact ⟨ret_bool H.out.symm, by (repeat (with_reducible first | exact Below.refl _ _ | (refine bl_set ?_ (by first | omega | (simp; done) | (simp; omega)) _) | refine bl_gr ?_ _ | refine bl_al ?_ _ | refine below_setRow ?_ (by first | omega | (simp; done) | (simp; omega)) _ | refine bl_drewN ?_ _ | refine Below.drew ?_ | (refine bl_tr ?_ (by assumption))))⟩
theorem hasC {c : CacheD} {n : Int} {sv : Value} {W : World} (hR : IsR W sv c.sites) (b : Bool) (hb : (siteD c n).isSome = b) (m h s : Int) (w : World) : Calls Try.prog 31 #[refV m sv h s, .int .i64 n] w fun e w' => e = .returned (.bool b) ∧ Below w.heap.size w w' := by
  obtain ⟨A, cap, rfl, _, _⟩ := hR.form
  have := has_any m h s n A c.sites.length cap w
  rwa [has_siteD, hb] at this

/-! State and Entries -/
theorem rstate_any (c : CacheD) (sv : Value) (m h s n : Int) (w : World) (hR : IsR w sv c.sites) : Calls Try.prog 29 #[refV m sv h s, .int .i64 n] w fun e w' => e = .returned (.int .i64 (stateD c n)) ∧ Below w.heap.size w w' := by
  obtain ⟨A, cap, rfl, _, _⟩ := hR.form
  have H := Lib.hid hR
  cases hs : siteD c n with
  | none =>
    have E := Lib.hid (show stateD c n = 0 by simp [stateD, hs])
    have HA := Lib.hid (fun W => hasC (W := w) hR false (by rw [hs]; rfl) m h s W)
    clear hs hR
    go_enter Try.func29, Try.ntmps29
    go_wp2_with (go_at_call 31; refine (callGr (HA.out _)).mono ?_; rintro e w' ⟨pp, rfl, rfl⟩)
    go_ret
    exact ⟨by rw [E.out]; rfl, by (repeat (with_reducible first | exact Below.refl _ _ | (refine bl_set ?_ (by first | omega | (simp; done) | (simp; omega)) _) | refine bl_gr ?_ _ | refine bl_al ?_ _ | refine below_setRow ?_ (by first | omega | (simp; done) | (simp; omega)) _ | refine bl_drewN ?_ _ | refine Below.drew ?_ | (refine bl_tr ?_ (by assumption))))⟩
  | some st =>
    obtain ⟨j, rfl, hj, hsj⟩ := siteD_some hs
    obtain ⟨b, off, cap', A2, n2, e, hb, c0, c1, hE⟩ := hR.at_ hsj
    simp only [Value.slice.injEq, true_and] at e
    obtain ⟨rfl, rfl⟩ := e
    have HA := Lib.hid (fun W => hasC (W := w) hR true (by rw [hs]; rfl) m h s W)
    have j0 : ¬ (j : Int) < 0 := by omega
    have j1 : (j : Int) < c.sites.length := by omega
    have lb : ∀ n, b < w.heap.size + n := fun n => by omega
    cases hm : st.many
    · rw [hm] at c0
      have E := Lib.hid (show stateD c j = min (st.l.length : Int) 2 by simp [stateD, hs, hm])
      clear hs hR hsj hm hE
      go_enter Try.func29, Try.ntmps29
      go_wp2_with (go_at_call 31; refine (callGr (HA.out _)).mono ?_; rintro e w' ⟨pp, rfl, rfl⟩)
      all_goals go_ret
      all_goals exact ⟨ret_int (by rw [E.out]; first | omega | (split <;> omega)), by (repeat (with_reducible first | exact Below.refl _ _ | (refine bl_set ?_ (by first | omega | (simp; done) | (simp; omega)) _) | refine bl_gr ?_ _ | refine bl_al ?_ _ | refine below_setRow ?_ (by first | omega | (simp; done) | (simp; omega)) _ | refine bl_drewN ?_ _ | refine Below.drew ?_ | (refine bl_tr ?_ (by assumption))))⟩
    · rw [hm] at c0
      have E := Lib.hid (show stateD c j = 3 by simp [stateD, hs, hm])
      clear hs hR hsj hm hE
      go_enter Try.func29, Try.ntmps29
      go_wp2_with (go_at_call 31; refine (callGr (HA.out _)).mono ?_; rintro e w' ⟨pp, rfl, rfl⟩)
      go_ret
      exact ⟨by rw [E.out]; rfl, by (repeat (with_reducible first | exact Below.refl _ _ | (refine bl_set ?_ (by first | omega | (simp; done) | (simp; omega)) _) | refine bl_gr ?_ _ | refine bl_al ?_ _ | refine below_setRow ?_ (by first | omega | (simp; done) | (simp; omega)) _ | refine bl_drewN ?_ _ | refine Below.drew ?_ | (refine bl_tr ?_ (by assumption))))⟩
theorem rentries_any (c : CacheD) (sv : Value) (m h s n : Int) (w : World) (hR : IsR w sv c.sites) : Calls Try.prog 28 #[refV m sv h s, .int .i64 n] w fun e w' => ∃ A k, e = .returned (.slice A (entriesD c n).length k) ∧ IsE w (.slice A (entriesD c n).length k) (entriesD c n) ∧ Below w.heap.size w w' := by
  obtain ⟨A, cap, rfl, _, _⟩ := hR.form
  cases hs : siteD c n with
  | none =>
    have E := Lib.hid (show entriesD c n = [] by simp [entriesD, hs])
    have HA := Lib.hid (fun W => hasC (W := w) hR false (by rw [hs]; rfl) m h s W)
    clear hs hR
    go_enter Try.func28, Try.ntmps28
    go_wp2_with (go_at_call 31; refine (callGr (HA.out _)).mono ?_; rintro e w' ⟨pp, rfl, rfl⟩)
    go_ret
    rw [E.out]
    exact ⟨none, 0, rfl, .nil_, by (repeat (with_reducible first | exact Below.refl _ _ | (refine bl_set ?_ (by first | omega | (simp; done) | (simp; omega)) _) | refine bl_gr ?_ _ | refine bl_al ?_ _ | refine below_setRow ?_ (by first | omega | (simp; done) | (simp; omega)) _ | refine bl_drewN ?_ _ | refine Below.drew ?_ | (refine bl_tr ?_ (by assumption))))⟩
  | some st =>
    obtain ⟨j, rfl, hj, hsj⟩ := siteD_some hs
    obtain ⟨b, off, cap', A2, n2, e, hb, c0, c1, hE⟩ := hR.at_ hsj
    simp only [Value.slice.injEq, true_and] at e
    obtain ⟨rfl, rfl⟩ := e
    have HA := Lib.hid (fun W => hasC (W := w) hR true (by rw [hs]; rfl) m h s W)
    have E := Lib.hid (show entriesD c j = st.l by simp [entriesD, hs])
    have HE := Lib.hid hE
    have j0 : ¬ (j : Int) < 0 := by omega
    have j1 : (j : Int) < c.sites.length := by omega
    have lb : ∀ n, b < w.heap.size + n := fun n => by omega
    clear hs hR hsj hE
    go_enter Try.func28, Try.ntmps28
    go_wp2_with (go_at_call 31; refine (callGr (HA.out _)).mono ?_; rintro e w' ⟨pp, rfl, rfl⟩)
    go_ret
    rw [E.out]
    exact ⟨A2, n2, rfl, HE.out, by (repeat (with_reducible first | exact Below.refl _ _ | (refine bl_set ?_ (by first | omega | (simp; done) | (simp; omega)) _) | refine bl_gr ?_ _ | refine bl_al ?_ _ | refine below_setRow ?_ (by first | omega | (simp; done) | (simp; omega)) _ | refine bl_drewN ?_ _ | refine Below.drew ?_ | (refine bl_tr ?_ (by assumption))))⟩
end Go.Proofs.Ytbgcjgnhblhohaa
