/- The plain laws of symMerge: its binary searches, what it moves, its halves. -/
import Derived.Test.YtippimonpdeioaaSrC
namespace Go.Proofs.Ytippimonpdeioaa
set_option linter.all false

/-- a binary search for the place where q turns from true to false -/
def BsI (q : Nat → Bool) (lo hi i j : Nat) : Prop := lo ≤ i ∧ i ≤ j ∧ j ≤ hi ∧ (∀ c, lo ≤ c → c < i → q c = true) ∧ ∀ c, j ≤ c → c < hi → q c = false
def MoQ (q : Nat → Bool) (lo hi : Nat) : Prop := ∀ c c', lo ≤ c → c ≤ c' → c' < hi → q c' = true → q c = true
theorem BsI.start (q : Nat → Bool) {lo hi : Nat} (h : lo ≤ hi) : BsI q lo hi lo hi := ⟨Nat.le_refl _, h, Nat.le_refl _, fun c h1 h2 => by omega, fun c h1 h2 => by omega⟩
theorem BsI.up {q : Nat → Bool} {lo hi i j h : Nat} (H : BsI q lo hi i j) (M : MoQ q lo hi) (h1 : i ≤ h) (h2 : h < j) (hq : q h = true) : BsI q lo hi (h + 1) j := by
  obtain ⟨a1, a2, a3, a4, a5⟩ := H
  exact ⟨by omega, by omega, a3, fun c c1 c2 => M c h c1 (by omega) (by omega) hq, a5⟩
theorem BsI.dn {q : Nat → Bool} {lo hi i j h : Nat} (H : BsI q lo hi i j) (M : MoQ q lo hi) (h1 : i ≤ h) (h2 : h < j) (hq : q h = false) : BsI q lo hi i h := by
  obtain ⟨a1, a2, a3, a4, a5⟩ := H
  refine ⟨a1, h1, by omega, a4, fun c c1 c2 => ?_⟩
  cases hc : q c
  · rfl
  · rw [M h c (by omega) c1 c2 hc] at hq
    cases hq

theorem kAt_app {A B : List Val} (t : Nat) : kAt (A ++ B) (A.length + t) = kAt B t := by
  unfold kAt
  rw [List.getD_eq_getElem?_getD, List.getD_eq_getElem?_getD, List.getElem?_append_right (by omega)]
  congr 2
  omega
theorem kAt_lapp {A B : List Val} {t : Nat} (h : t < A.length) : kAt (A ++ B) t = kAt A t := by
  unfold kAt
  rw [List.getD_eq_getElem?_getD, List.getD_eq_getElem?_getD, List.getElem?_append_left h]
theorem kAt_mem {l : List Val} {t : Nat} (h : t < l.length) : kAt l t ∈ l := by
  have := kAt_lt h
  exact List.mem_of_getElem? this
theorem so_kAt {l : List Val} (h : SoK l) {i j : Nat} (hij : i ≤ j) (hj : j < l.length) : leK (kAt l i) (kAt l j) := so_at h (kAt_lt (by omega)) (kAt_lt hj) hij
theorem mem_take {l : List Val} {n : Nat} {x : Val} (h : x ∈ l.take n) : ∃ t, t < n ∧ t < l.length ∧ x = kAt l t := by
  obtain ⟨t, ht, rfl⟩ := List.mem_iff_getElem.1 h
  rw [List.length_take] at ht
  have h2 := kAt_lt (xs := l) (i := t) (by omega)
  rw [List.getElem?_eq_getElem (by omega)] at h2
  refine ⟨t, by omega, by omega, ?_⟩
  rw [List.getElem_take]
  exact Option.some.inj h2
theorem mem_drop {l : List Val} {n : Nat} {x : Val} (h : x ∈ l.drop n) : ∃ t, n ≤ t ∧ t < l.length ∧ x = kAt l t := by
  obtain ⟨t, ht, rfl⟩ := List.mem_iff_getElem.1 h
  rw [List.length_drop] at ht
  have h2 := kAt_lt (xs := l) (i := n + t) (by omega)
  rw [List.getElem?_eq_getElem (by omega)] at h2
  refine ⟨n + t, by omega, by omega, ?_⟩
  rw [List.getElem_drop]
  exact Option.some.inj h2

/-- one key, x, ahead of the sorted T: x on its way up to place k -/
def UpI (A : List Val) (x : Val) (T1 R : List Val) (k : Nat) (L : List Val) : Prop := ∃ P Q, T1 = P ++ Q ∧ L = A ++ (P ++ (x :: (Q ++ R))) ∧ A.length + P.length = k
theorem UpI.start (A : List Val) (x : Val) (T1 R : List Val) : UpI A x T1 R A.length (A ++ (x :: (T1 ++ R))) := ⟨[], T1, rfl, rfl, rfl⟩
theorem UpI.go {A T1 R L : List Val} {x : Val} {k : Nat} (h : UpI A x T1 R k L) (hk : k < A.length + T1.length) : UpI A x T1 R (k + 1) (swL L k (k + 1)) := by
  obtain ⟨P, Q, rfl, rfl, rfl⟩ := h
  cases Q with
  | nil =>
    simp at hk
  | cons s Q =>
    refine ⟨P ++ [s], Q, by simp, ?_, by rw [List.length_append, List.length_singleton]; omega⟩
    have := swL_up (A ++ P) x s (Q ++ R)
    rw [List.length_append] at this
    simpa using this
theorem UpI.done {A T1 R L : List Val} {x : Val} {k : Nat} (h : UpI A x T1 R k L) (hk : ¬ k < A.length + T1.length) : L = A ++ (T1 ++ (x :: R)) := by
  obtain ⟨P, Q, rfl, rfl, rfl⟩ := h
  rw [List.length_append] at hk
  obtain rfl : Q = [] := List.eq_nil_of_length_eq_zero (by omega)
  simp
theorem UpI.len {A T1 R L : List Val} {x : Val} {k : Nat} (h : UpI A x T1 R k L) : L.length = A.length + T1.length + 1 + R.length ∧ A.length ≤ k ∧ k ≤ A.length + T1.length := by
  obtain ⟨P, Q, rfl, rfl, rfl⟩ := h
  simp only [List.length_append, List.length_cons]
  omega
/-- one key, y, behind the sorted S: y on its way down to place k -/
def DnI (A S1 S2 : List Val) (y : Val) (R : List Val) (k : Nat) (L : List Val) : Prop := ∃ P Q, S2 = P ++ Q ∧ L = A ++ (S1 ++ (P ++ (y :: (Q ++ R)))) ∧ A.length + S1.length + P.length = k
theorem DnI.start (A S1 S2 : List Val) (y : Val) (R : List Val) : DnI A S1 S2 y R (A.length + S1.length + S2.length) (A ++ (S1 ++ (S2 ++ (y :: R)))) := ⟨S2, [], by simp, by simp, rfl⟩
theorem DnI.go {A S1 S2 R L : List Val} {y : Val} {k : Nat} (h : DnI A S1 S2 y R k L) (hk : A.length + S1.length < k) : DnI A S1 S2 y R (k - 1) (swL L k (k - 1)) := by
  obtain ⟨P, Q, rfl, rfl, rfl⟩ := h
  rcases List.eq_nil_or_concat P with rfl | ⟨P, s, rfl⟩
  · simp at hk
  · refine ⟨P, s :: Q, by simp, ?_, by simp only [List.concat_eq_append, List.length_append, List.length_singleton]; omega⟩
    have := swL_down (A ++ (S1 ++ P)) s y (Q ++ R)
    simp only [List.concat_eq_append, List.length_append, List.length_singleton] at this ⊢
    rw [show A.length + S1.length + (P.length + 1) - 1 = A.length + (S1.length + P.length) by omega, show A.length + S1.length + (P.length + 1) = A.length + (S1.length + P.length) + 1 by omega]
    simpa using this
theorem DnI.done {A S1 S2 R L : List Val} {y : Val} {k : Nat} (h : DnI A S1 S2 y R k L) (hk : ¬ A.length + S1.length < k) : L = A ++ (S1 ++ (y :: (S2 ++ R))) := by
  obtain ⟨P, Q, rfl, rfl, rfl⟩ := h
  obtain rfl : P = [] := List.eq_nil_of_length_eq_zero (by omega)
  simp
theorem DnI.len {A S1 S2 R L : List Val} {y : Val} {k : Nat} (h : DnI A S1 S2 y R k L) : L.length = A.length + S1.length + S2.length + 1 + R.length ∧ A.length + S1.length ≤ k ∧ k ≤ A.length + S1.length + S2.length := by
  obtain ⟨P, Q, rfl, rfl, rfl⟩ := h
  simp only [List.length_append, List.length_cons]
  omega

/-- the search of the first case: which keys from m on are less than x -/
theorem mo_up {A T R : List Val} {x : Val} (hT : SoK T) : MoQ (fun h => ltK (kAt (A ++ (x :: (T ++ R))) h) x) (A.length + 1) (A.length + 1 + T.length) := by
  intro c c' h1 h2 h3 hq
  have e : ∀ t, A.length + 1 ≤ t → t < A.length + 1 + T.length → kAt (A ++ (x :: (T ++ R))) t = kAt T (t - (A.length + 1)) := fun t t1 t2 => by
    have := kAt_app (A := A ++ [x]) (B := T ++ R) (t - (A.length + 1))
    rw [List.length_append, List.length_singleton, show A.length + 1 + (t - (A.length + 1)) = t by omega] at this
    rw [← kAt_lapp (A := T) (B := R) (by omega), ← this]
    simp
  show ltK _ _ = true
  rw [e c (by omega) (by omega)]
  replace hq : ltK _ _ = true := hq
  rw [e c' (by omega) (by omega)] at hq
  exact le_lt_lt (so_kAt hT (by omega) (by omega)) hq
theorem up_cut {A T R : List Val} {x : Val} {i : Nat} (hT : SoK T) (h : BsI (fun h => ltK (kAt (A ++ (x :: (T ++ R))) h) x) (A.length + 1) (A.length + 1 + T.length) i i) :
    ∃ T1 T2, T = T1 ++ T2 ∧ A.length + 1 + T1.length = i ∧ StS (x :: T) (T1 ++ (x :: T2)) := by
  obtain ⟨a1, _, a3, a4, a5⟩ := h
  have e : ∀ t, A.length + 1 ≤ t → t < A.length + 1 + T.length → kAt (A ++ (x :: (T ++ R))) t = kAt T (t - (A.length + 1)) := fun t t1 t2 => by
    have := kAt_app (A := A ++ [x]) (B := T ++ R) (t - (A.length + 1))
    rw [List.length_append, List.length_singleton, show A.length + 1 + (t - (A.length + 1)) = t by omega] at this
    rw [← kAt_lapp (A := T) (B := R) (by omega), ← this]
    simp
  refine ⟨T.take (i - (A.length + 1)), T.drop (i - (A.length + 1)), (List.take_append_drop _ _).symm, by rw [List.length_take]; omega, ?_⟩
  have hc : T = T.take (i - (A.length + 1)) ++ T.drop (i - (A.length + 1)) := (List.take_append_drop _ _).symm
  have h0 : SoK (T.take (i - (A.length + 1)) ++ T.drop (i - (A.length + 1))) := by rw [← hc]; exact hT
  have := StS.ins0 (x := x) h0 (fun s hs => ?_) (fun s hs => ?_)
  · rwa [← hc] at this
  · obtain ⟨t, t1, t2, rfl⟩ := mem_take hs
    have := a4 (A.length + 1 + t) (by omega) (by omega)
    dsimp only at this
    rw [e _ (by omega) (by omega)] at this
    rwa [show A.length + 1 + t - (A.length + 1) = t by omega] at this
  · obtain ⟨t, t1, t2, rfl⟩ := mem_drop hs
    have := a5 (A.length + 1 + t) (by omega) (by omega)
    dsimp only at this
    rw [e _ (by omega) (by omega)] at this
    rwa [show A.length + 1 + t - (A.length + 1) = t by omega] at this

/-- the search of the second case: which keys ahead of m are not greater than y -/
theorem dn_at {A S R : List Val} {y : Val} (t : Nat) (t1 : A.length ≤ t) (t2 : t < A.length + S.length) : kAt (A ++ (S ++ (y :: R))) t = kAt S (t - A.length) := by
  have := kAt_app (A := A) (B := S ++ (y :: R)) (t - A.length)
  rw [show A.length + (t - A.length) = t by omega] at this
  rw [this, kAt_lapp (by omega)]
theorem mo_dn {A S R : List Val} {y : Val} (hS : SoK S) : MoQ (fun h => !ltK y (kAt (A ++ (S ++ (y :: R))) h)) A.length (A.length + S.length) := by
  intro c c' h1 h2 h3 hq
  replace hq : (!ltK _ _) = true := hq
  show (!ltK _ _) = true
  rw [dn_at c (by omega) (by omega)]
  rw [dn_at c' (by omega) (by omega)] at hq
  have h4 : leK (kAt S (c' - A.length)) y := by simpa [leK] using hq
  have := leK_trans (so_kAt hS (i := c - A.length) (j := c' - A.length) (by omega) (by omega)) h4
  unfold leK at this
  rw [this]
  rfl
theorem dn_cut {A S R : List Val} {y : Val} {i : Nat} (hS : SoK S) (h : BsI (fun h => !ltK y (kAt (A ++ (S ++ (y :: R))) h)) A.length (A.length + S.length) i i) :
    ∃ S1 S2, S = S1 ++ S2 ∧ A.length + S1.length = i ∧ StS (S ++ [y]) (S1 ++ (y :: S2)) := by
  obtain ⟨a1, _, a3, a4, a5⟩ := h
  refine ⟨S.take (i - A.length), S.drop (i - A.length), (List.take_append_drop _ _).symm, by rw [List.length_take]; omega, ?_⟩
  have hc : S = S.take (i - A.length) ++ S.drop (i - A.length) := (List.take_append_drop _ _).symm
  have h0 : StS S (S.take (i - A.length) ++ S.drop (i - A.length)) := by rw [← hc]; exact .self hS
  refine h0.ins (fun s hs => ?_) (fun s hs => ?_)
  · obtain ⟨t, t1, t2, rfl⟩ := mem_take hs
    have := a4 (A.length + t) (by omega) (by omega)
    dsimp only at this
    rw [dn_at _ (by omega) (by omega), show A.length + t - A.length = t by omega] at this
    simpa [leK] using this
  · obtain ⟨t, t1, t2, rfl⟩ := mem_drop hs
    have := a5 (A.length + t) (by omega) (by omega)
    dsimp only at this
    rw [dn_at _ (by omega) (by omega), show A.length + t - A.length = t by omega] at this
    simpa using this

/-- the search of the general case -/
def symQ (X : List Val) (p : Nat) (c : Nat) : Bool := !ltK (kAt X (p - c)) (kAt X c)
theorem sy_S {A S T R : List Val} (t : Nat) (t1 : A.length ≤ t) (t2 : t < A.length + S.length) : kAt (A ++ (S ++ (T ++ R))) t = kAt S (t - A.length) := by
  have := kAt_app (A := A) (B := S ++ (T ++ R)) (t - A.length)
  rw [show A.length + (t - A.length) = t by omega] at this
  rw [this, kAt_lapp (by omega)]
theorem sy_T {A S T R : List Val} (t : Nat) (t1 : A.length + S.length ≤ t) (t2 : t < A.length + S.length + T.length) : kAt (A ++ (S ++ (T ++ R))) t = kAt T (t - (A.length + S.length)) := by
  have := kAt_app (A := A ++ S) (B := T ++ R) (t - (A.length + S.length))
  rw [List.length_append, show A.length + S.length + (t - (A.length + S.length)) = t by omega] at this
  rw [← kAt_lapp (A := T) (B := R) (by omega), ← this]
  simp
/-- what the general case is told of its numbers -/
structure SymN (A S T : List Val) (mid n lo hi : Nat) : Prop where
  h1 : A.length < mid
  h2 : mid < A.length + S.length + T.length
  h3 : n = mid + (A.length + S.length)
  h4 : lo ≤ hi
  h5 : (mid < A.length + S.length ∧ lo = n - (A.length + S.length + T.length) ∧ n - (A.length + S.length + T.length) + (A.length + S.length + T.length) = n ∧ hi = mid ∧ A.length ≤ lo) ∨ (A.length + S.length ≤ mid ∧ lo = A.length ∧ hi = A.length + S.length ∧ n ≤ A.length + S.length + T.length + A.length)
theorem SymN.at_ {A S T : List Val} {mid n lo hi : Nat} (h : SymN A S T mid n lo hi) {c : Nat} (h1 : lo ≤ c) (h2 : c < hi) : A.length ≤ c ∧ c < A.length + S.length ∧ A.length + S.length ≤ n - 1 - c ∧ n - 1 - c < A.length + S.length + T.length := by
  obtain ⟨h3, h4, rfl, h5, h6⟩ := h
  omega
theorem mo_sy {A S T R : List Val} {mid n lo hi : Nat} (hS : SoK S) (hT : SoK T) (h : SymN A S T mid n lo hi) : MoQ (symQ (A ++ (S ++ (T ++ R))) (n - 1)) lo hi := by
  intro c c' h1 h2 h3 hq
  obtain ⟨b1, b2, b3, b4⟩ := h.at_ h1 (by omega)
  obtain ⟨d1, d2, d3, d4⟩ := h.at_ (c := c') (by omega) h3
  unfold symQ at *
  rw [sy_S c b1 b2, sy_T (n - 1 - c) b3 b4]
  rw [sy_S c' d1 d2, sy_T (n - 1 - c') d3 d4] at hq
  have k0 : leK (kAt S (c' - A.length)) (kAt T (n - 1 - c' - (A.length + S.length))) := by simpa [leK] using hq
  have k1 := so_kAt hS (i := c - A.length) (j := c' - A.length) (by omega) (by omega)
  have k2 := so_kAt hT (i := n - 1 - c' - (A.length + S.length)) (j := n - 1 - c - (A.length + S.length)) (by omega) (by omega)
  have := leK_trans k1 (leK_trans k0 k2)
  unfold leK at this
  rw [this]
  rfl
theorem sy_cut {A S T R : List Val} {mid n lo hi s : Nat} (hS : SoK S) (hT : SoK T) (h : SymN A S T mid n lo hi) (hb : BsI (symQ (A ++ (S ++ (T ++ R))) (n - 1)) lo hi s s) :
    ∃ S1 S2 T1 T2, S = S1 ++ S2 ∧ T = T1 ++ T2 ∧ A.length + S1.length = s ∧ A.length + S.length + T1.length = n - s ∧ s ≤ n ∧ A.length + S1.length + T1.length = mid ∧ (∀ x ∈ S2, ∀ y ∈ T1, ltK y x = true) ∧ ∀ x ∈ S1, ∀ y ∈ T2, leK x y := by
  obtain ⟨a1, _, a3, a4, a5⟩ := hb
  have hN := h
  obtain ⟨h3, h4, h6, h5, h7⟩ := h
  have s1 : A.length ≤ s ∧ s ≤ A.length + S.length ∧ A.length + S.length ≤ n - s ∧ n - s ≤ A.length + S.length + T.length ∧ s ≤ n := by omega
  refine ⟨S.take (s - A.length), S.drop (s - A.length), T.take (n - s - (A.length + S.length)), T.drop (n - s - (A.length + S.length)), (List.take_append_drop _ _).symm, (List.take_append_drop _ _).symm, by rw [List.length_take]; omega, by rw [List.length_take]; omega, s1.2.2.2.2, by rw [List.length_take, List.length_take]; omega, fun x hx y hy => ?_, fun x hx y hy => ?_⟩
  · obtain ⟨t, t1, t2, rfl⟩ := mem_drop hx
    obtain ⟨u, u1, u2, rfl⟩ := mem_take hy
    have k := a5 s (Nat.le_refl _) (by omega)
    obtain ⟨b1, b2, b3, b4⟩ := hN.at_ a1 (by omega)
    unfold symQ at k
    rw [sy_S s b1 b2, sy_T (n - 1 - s) b3 b4] at k
    have k0 : ltK (kAt T (n - 1 - s - (A.length + S.length))) (kAt S (s - A.length)) = true := by simpa using k
    have k1 := so_kAt hS (i := s - A.length) (j := t) t1 t2
    have k2 := so_kAt hT (i := u) (j := n - 1 - s - (A.length + S.length)) (by omega) (by omega)
    exact lt_le_lt (le_lt_lt k2 k0) k1
  · obtain ⟨t, t1, t2, rfl⟩ := mem_take hx
    obtain ⟨u, u1, u2, rfl⟩ := mem_drop hy
    have k := a4 (s - 1) (by omega) (by omega)
    obtain ⟨b1, b2, b3, b4⟩ := hN.at_ (c := s - 1) (by omega) (by omega)
    unfold symQ at k
    rw [sy_S (s - 1) b1 b2, sy_T (n - 1 - (s - 1)) b3 b4] at k
    have k0 : leK (kAt S (s - 1 - A.length)) (kAt T (n - 1 - (s - 1) - (A.length + S.length))) := by simpa [leK] using k
    have k1 := so_kAt hS (i := t) (j := s - 1 - A.length) (by omega) (by omega)
    have k2 := so_kAt hT (i := n - 1 - (s - 1) - (A.length + S.length)) (j := u) (by omega) u2
    exact leK_trans (leK_trans k1 k0) k2
end Go.Proofs.Ytippimonpdeioaa
