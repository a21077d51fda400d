/- The reference's merge of two sorted lists of indices: the plain law. -/
import Derived.Test.YtippimonpdeioaaSrI
namespace Go.Proofs.Ytippimonpdeioaa
set_option linter.all false

structure MgI (A B : List Val) (i k : Nat) (out : List Val) : Prop where
  hi : i ≤ A.length
  hk : k ≤ B.length
  so : SoK out
  fl : FlK (A.take i ++ B.take k) out
  gt : ∀ x ∈ A.drop i, ∀ y ∈ B.take k, ltK y x = true
  le : ∀ x ∈ A.take i, ∀ y ∈ B.drop k, leK x y
theorem MgI.start (A B : List Val) : MgI A B 0 0 [] := ⟨Nat.zero_le _, Nat.zero_le _, List.Pairwise.nil, FlK.refl _, by simp, by simp⟩
theorem MgI.mem {A B out : List Val} {i k : Nat} (h : MgI A B i k out) {x : Val} (hx : x ∈ out) : x ∈ A.take i ∨ x ∈ B.take k := List.mem_append.1 ((h.fl.mem x).1 hx)
theorem MgI.len {A B out : List Val} {i k : Nat} (h : MgI A B i k out) : out.length = i + k := by
  rw [h.fl.len, List.length_append, List.length_take, List.length_take]
  have := h.hi
  have := h.hk
  omega
theorem take_le {l : List Val} (h : SoK l) {i : Nat} (hi : i < l.length) {x : Val} (hx : x ∈ l.take i) : leK x (kAt l i) := by
  obtain ⟨t, t1, t2, rfl⟩ := mem_take hx
  exact so_kAt h (by omega) hi
theorem le_drop {l : List Val} (h : SoK l) {i : Nat} {x : Val} (hx : x ∈ l.drop i) : leK (kAt l i) x := by
  obtain ⟨t, t1, t2, rfl⟩ := mem_drop hx
  exact so_kAt h t1 t2
theorem take_succ {l : List Val} {i : Nat} (hi : i < l.length) : l.take (i + 1) = l.take i ++ [kAt l i] := by
  rw [List.take_add_one, kAt_lt hi]
  rfl
theorem kAt_drop {l : List Val} {i : Nat} (hi : i < l.length) : kAt l i ∈ l.drop i := by
  have := kAt_lt hi
  rw [List.getElem?_eq_getElem hi] at this
  have e : kAt l i = l[i] := (Option.some.inj this).symm
  rw [e, List.drop_eq_getElem_cons hi]
  exact List.mem_cons_self ..
theorem drop_sub {l : List Val} {i : Nat} {x : Val} (hx : x ∈ l.drop (i + 1)) : x ∈ l.drop i := by
  rw [← List.drop_drop] at hx
  exact List.mem_of_mem_drop hx
theorem so_snoc {out : List Val} {x : Val} (h : SoK out) (hx : ∀ y ∈ out, leK y x) : SoK (out ++ [x]) := List.pairwise_append.2 ⟨h, List.pairwise_singleton _ _, fun y hy z hz => by rw [List.mem_singleton.1 hz]; exact hx y hy⟩
theorem MgI.stepA {A B out : List Val} {i k : Nat} (h : MgI A B i k out) (hA : SoK A) (hB : SoK B) (hi : i < A.length) (hk : k < B.length) (hc : leK (kAt A i) (kAt B k)) : MgI A B (i + 1) k (out ++ [kAt A i]) := by
  refine ⟨hi, h.hk, so_snoc h.so fun y hy => ?_, ?_, fun x hx y hy => h.gt x (drop_sub hx) y hy, fun x hx y hy => ?_⟩
  · rcases h.mem hy with hy | hy
    · exact take_le hA hi hy
    · exact lt_leK (h.gt _ (kAt_drop hi) y hy)
  · rw [take_succ hi]
    have e1 : FlK ([kAt A i] ++ B.take k) (B.take k ++ [kAt A i]) := FlK.comm fun x hx y hy => by
      rw [List.mem_singleton.1 hx]
      exact h.gt _ (kAt_drop hi) y hy
    have e2 := (FlK.refl (A.take i)).app e1
    have e3 := h.fl.app (FlK.refl [kAt A i])
    rw [List.append_assoc] at e3
    have e4 := e2.trans e3
    simpa [List.append_assoc] using e4
  · rw [take_succ hi] at hx
    rcases List.mem_append.1 hx with hx | hx
    · exact h.le x hx y hy
    · rw [List.mem_singleton.1 hx]
      exact leK_trans hc (le_drop hB hy)
theorem MgI.stepB {A B out : List Val} {i k : Nat} (h : MgI A B i k out) (hA : SoK A) (hB : SoK B) (hk : k < B.length) (hc : i = A.length ∨ ltK (kAt B k) (kAt A i) = true) : MgI A B i (k + 1) (out ++ [kAt B k]) := by
  refine ⟨h.hi, hk, so_snoc h.so fun y hy => ?_, ?_, fun x hx y hy => ?_, fun x hx y hy => h.le x hx y (drop_sub hy)⟩
  · rcases h.mem hy with hy | hy
    · exact h.le y hy _ (kAt_drop hk)
    · exact take_le hB hk hy
  · rw [take_succ hk]
    have e3 := h.fl.app (FlK.refl [kAt B k])
    rw [List.append_assoc] at e3
    exact e3
  · rw [take_succ hk] at hy
    rcases List.mem_append.1 hy with hy | hy
    · exact h.gt x hx y hy
    · rw [List.mem_singleton.1 hy]
      rcases hc with hc | hc
      · subst hc
        simp at hx
      · exact lt_le_lt hc (le_drop hA hx)
theorem MgI.done {A B out : List Val} {i : Nat} (h : MgI A B i B.length out) (hA : SoK A) : StS (A ++ B) (out ++ A.drop i) := by
  have hg := h.gt
  rw [List.take_length] at hg
  refine ⟨List.pairwise_append.2 ⟨h.so, (List.pairwise_append.1 (by rw [List.take_append_drop]; exact hA : SoK (A.take i ++ A.drop i))).2.1, fun x hx y hy => ?_⟩, ?_⟩
  · rcases h.mem hx with hx | hx
    · exact (List.pairwise_append.1 (by rw [List.take_append_drop]; exact hA : SoK (A.take i ++ A.drop i))).2.2 x hx y hy
    · exact lt_leK (h.gt y hy x hx)
  · have e1 : FlK (A.drop i ++ B) (B ++ A.drop i) := FlK.comm hg
    have e2 := (FlK.refl (A.take i)).app e1
    have e3 := h.fl.app (FlK.refl (A.drop i))
    rw [List.take_length, List.append_assoc] at e3
    have e4 := e2.trans e3
    rw [← List.append_assoc, List.take_append_drop] at e4
    exact e4

/-- a list cut in two, what is less ahead -/
theorem FlK.part {p : Val → Bool} : ∀ l : List Val, (∀ x ∈ l, ∀ y ∈ l, p x = true → p y = false → ltK x y = true) → FlK l (l.filter p ++ l.filter (fun x => !p x))
  | [], _ => FlK.refl _
  | x :: l, h => by
    have ih := FlK.part (p := p) l (fun a ha b hb => h a (List.mem_cons_of_mem _ ha) b (List.mem_cons_of_mem _ hb))
    cases hx : p x
    · rw [List.filter_cons, if_neg (by simp [hx]), List.filter_cons, if_pos (by simp [hx])]
      have e1 : FlK (x :: l) ([x] ++ (l.filter p ++ l.filter (fun x => !p x))) := (FlK.refl [x]).app ih
      have e2 : FlK ([x] ++ l.filter p) (l.filter p ++ [x]) := FlK.comm fun a ha y hy => by
        rw [List.mem_singleton.1 ha]
        exact h y (List.mem_cons_of_mem _ (List.mem_filter.1 hy).1) x (List.mem_cons_self ..) (List.mem_filter.1 hy).2 hx
      have e3 := e2.app (FlK.refl (l.filter fun x => !p x))
      rw [List.append_assoc, List.append_assoc] at e3
      exact e1.trans e3
    · rw [List.filter_cons, if_pos hx, List.filter_cons, if_neg (by simp [hx])]
      exact (FlK.refl [x]).app ih
/-- the keys of one kind of a list of keys -/
def kindL (k : Int) (l : List Val) : List Val := (l.filter keyM).filter fun x => x.k == k
theorem keyM_kinds {x : Val} (h : keyM x = true) : x.k = 0 ∨ x.k = 1 ∨ x.k = 2 := by
  unfold keyM at h
  split at h
  · exact .inl ‹_›
  · split at h
    · exact .inr (.inl ‹_›)
    · split at h
      · exact .inr (.inr ‹_›)
      · cases h
theorem kindL_k {k : Int} {l : List Val} {x : Val} (h : x ∈ kindL k l) : x.k = k := by
  have := (List.mem_filter.1 h).2
  simpa using this
theorem kindL_len (k : Int) (l : List Val) : (kindL k l).length ≤ l.length := Nat.le_trans (List.length_filter_le _ _) (List.length_filter_le _ _)
theorem so_kind {k : Int} (hk : k ≠ 0) {l : List Val} (h : ∀ x ∈ l, x.k = k) : SoK l := by
  refine List.pairwise_iff_forall_sublist.2 fun {a b} hab => ?_
  have ha := h a (hab.subset (by simp))
  have hb := h b (hab.subset (by simp))
  rw [leK_iff]
  omega
theorem kinds_all {l I : List Val} (hI : StS (kindL 0 l) I) : StS (l.filter keyM) (I ++ (kindL 1 l ++ kindL 2 l)) := by
  have hv : ∀ x ∈ l.filter keyM, x.k = 0 ∨ x.k = 1 ∨ x.k = 2 := fun x hx => keyM_kinds (List.mem_filter.1 hx).2
  have z0 : ∀ x ∈ I, x.k = 0 := fun x hx => kindL_k ((hI.2.mem x).1 hx)
  have z1 : ∀ x ∈ kindL 1 l, x.k = 1 := fun x hx => kindL_k hx
  have z2 : ∀ x ∈ kindL 2 l, x.k = 2 := fun x hx => kindL_k hx
  refine ⟨List.pairwise_append.2 ⟨hI.1, List.pairwise_append.2 ⟨so_kind (by decide) z1, so_kind (by decide) z2, fun x hx y hy => ?_⟩, fun x hx y hy => ?_⟩, ?_⟩
  · rw [leK_iff, z1 x hx, z2 y hy]
    omega
  · have h0 := z0 x hx
    rw [leK_iff, h0]
    rcases List.mem_append.1 hy with hy | hy
    · rw [z1 y hy]
      omega
    · rw [z2 y hy]
      omega
  · have p1 := FlK.part (p := fun x => x.k == 0) (l.filter keyM) (fun x hx y hy h1 h2 => by
      have a1 : x.k = 0 := by simpa using h1
      have a2 : y.k ≠ 0 := by simpa using h2
      rw [ltK_iff]
      rcases hv y hy with h | h | h <;> omega)
    have p2 := FlK.part (p := fun x => x.k == 1) ((l.filter keyM).filter fun x => !(x.k == 0)) (fun x hx y hy h1 h2 => by
      have a1 : x.k = 1 := by simpa using h1
      have a2 : y.k ≠ 1 := by simpa using h2
      have a3 : y.k ≠ 0 := by simpa using (List.mem_filter.1 hy).2
      rw [ltK_iff]
      rcases hv y (List.mem_filter.1 hy).1 with h | h | h <;> omega)
    have e1 : ((l.filter keyM).filter fun x => !(x.k == 0)).filter (fun x => x.k == 1) = kindL 1 l := by
      rw [List.filter_filter]
      refine List.filter_congr fun x hx => ?_
      by_cases h : x.k = 1
      · simp [h]
      · simp [h]
    have e2 : ((l.filter keyM).filter fun x => !(x.k == 0)).filter (fun x => !(x.k == 1)) = kindL 2 l := by
      rw [List.filter_filter]
      refine List.filter_congr fun x hx => ?_
      rcases hv x hx with h | h | h <;> simp [h]
    rw [e1, e2] at p2
    have p3 := hI.2.app p2
    exact p1.trans p3
/-- a key more -/
theorem kindL_snoc (k : Int) {xs : List Val} {i : Nat} {x : Val} (h : xs[i]? = some x) : kindL k (xs.take (i + 1)) = kindL k (xs.take i) ++ if keyM x && x.k == k then [x] else [] := by
  unfold kindL
  rw [filt_step h, List.filter_append]
  cases keyM x <;> cases hk : (x.k == k) <;> simp [hk]
end Go.Proofs.Ytippimonpdeioaa
