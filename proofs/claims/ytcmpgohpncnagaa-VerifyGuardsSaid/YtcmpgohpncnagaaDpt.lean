/- Plain: depths of the nodes of a graph, found by a worklist and by passes to a fixed point. -/
import Derived.Test.YtcmpgohpncnagaaRch
namespace Go.Proofs.Ytcmpgohpncnagaa
set_option linter.all false
open Go.Sort

/-! ### labels -/
def cn (o : List Int) : Nat := o.countP fun v => decide (v < 0)
theorem cn_set {o : List Int} {t : Nat} {u v : Int} (h : o[t]? = some u) (hu : u < 0) (hv : 0 ≤ v) : cn (o.set t v) + 1 = cn o := by
  unfold cn
  induction o generalizing t with
  | nil => simp at h
  | cons a o ih =>
    cases t with
    | zero =>
      simp only [List.getElem?_cons_zero, Option.some.injEq] at h
      subst h
      have : ¬ v < 0 := by omega
      simp [hu, this]
    | succ t =>
      simp only [List.getElem?_cons_succ] at h
      have := ih h
      simp only [List.set_cons_succ, List.countP_cons]
      omega
theorem cn_le (o : List Int) : cn o ≤ o.length := List.countP_le_length
theorem cn_all : ∀ n : Nat, cn (List.replicate n (-1)) = n
  | 0 => rfl
  | n + 1 => by
    have := cn_all n
    unfold cn at this ⊢
    rw [List.replicate_succ, List.countP_cons, this]
    rfl

/-- E a b g: b is behind a; g: over a handler. -/
def Eg (E : Nat → Nat → Bool → Prop) (a b : Nat) : Prop := ∃ g, E a b g
structure Cons (E : Nat → Nat → Bool → Prop) (nx : Nat → Int → Int) (D : Nat → Int) : Prop where
  zero : D 0 = 0
  nn : ∀ a, Rch (Eg E) a → 0 ≤ nx a (D a)
  next : ∀ a b g, Rch (Eg E) a → E a b g → D b = if g then D a else nx a (D a)
section
variable {E : Nat → Nat → Bool → Prop} {nx : Nat → Int → Int} {n : Nat}
theorem Cons.pos {D : Nat → Int} (h : Cons E nx D) {x : Nat} (hx : Rch (Eg E) x) : 0 ≤ D x :=
  hx.ind (S := fun x => 0 ≤ D x) (by rw [h.zero]; omega) fun a b ha sa ⟨g, e⟩ => by
    rw [h.next a b g ha e]
    cases g
    · exact h.nn a ha
    · exact sa
theorem Cons.uniq {D F : Nat → Int} (h : Cons E nx D) (k : Cons E nx F) {x : Nat} (hx : Rch (Eg E) x) : D x = F x :=
  hx.ind (S := fun x => D x = F x) (by rw [h.zero, k.zero]) fun a b ha sa ⟨g, e⟩ => by rw [h.next a b g ha e, k.next a b g ha e, sa]
def DepOk (E : Nat → Nat → Bool → Prop) (nx : Nat → Int → Int) : Prop := ∃ D, Cons E nx D
open Classical in
/-- the depths, -1 at what is not reachable -/
noncomputable def depL (E : Nat → Nat → Bool → Prop) (nx : Nat → Int → Int) (n : Nat) : List Int := (List.range n).map fun x => if h : DepOk E nx then (if Rch (Eg E) x then h.choose x else -1) else 0
theorem depL_len : (depL E nx n).length = n := by simp [depL]
theorem depL_eq {o : List Int} (hl : o.length = n) {D : Nat → Int} (hD : Cons E nx D) (h1 : ∀ x, x < n → Rch (Eg E) x → o[x]? = some (D x)) (h2 : ∀ x, x < n → ¬ Rch (Eg E) x → o[x]? = some (-1)) : o = depL E nx n := by
  apply List.ext_getElem?
  intro i
  by_cases hi : i < n
  · have hok : DepOk E nx := ⟨D, hD⟩
    unfold depL
    rw [List.getElem?_map, List.getElem?_range hi, Option.map_some, dif_pos hok]
    by_cases hr : Rch (Eg E) i
    · rw [if_pos hr, h1 i hi hr, hD.uniq hok.choose_spec hr]
    · rw [if_neg hr, h2 i hi hr]
  · rw [List.getElem?_eq_none (by omega), List.getElem?_eq_none (by rw [depL_len]; omega)]
theorem depL_at (hok : DepOk E nx) {x : Nat} (hx : x < n) : ∃ v, (depL E nx n)[x]? = some v ∧ (0 ≤ v ↔ Rch (Eg E) x) := by
  unfold depL
  rw [List.getElem?_map, List.getElem?_range hx, Option.map_some, dif_pos hok]
  refine ⟨_, rfl, ?_⟩
  by_cases hr : Rch (Eg E) x
  · rw [if_pos hr]
    exact ⟨fun _ => hr, fun _ => hok.choose_spec.pos hr⟩
  · rw [if_neg hr]
    exact ⟨fun h => by omega, fun h => absurd h hr⟩

/-! ### the worklist -/
structure LS where
  o : List Int
  l : List Nat
  two : Bool
def lay (s : LS) (t : Nat) (d : Int) : LS := if s.o.getD t 0 < 0 then ⟨s.o.set t d, s.l ++ [t], s.two⟩ else ⟨s.o, s.l, s.two || (s.o.getD t 0 != d)⟩
structure LBas (E : Nat → Nat → Bool → Prop) (nx : Nat → Int → Int) (n : Nat) (s : LS) : Prop where
  len : s.o.length = n
  mks : ∀ x : Nat, (∃ v, s.o[x]? = some v ∧ 0 ≤ v) ↔ x ∈ s.l
  neg : ∀ (x : Nat) (v : Int), s.o[x]? = some v → v < 0 → v = -1
  cnt : s.l.length + cn s.o = n
  rch : ∀ x ∈ s.l, Rch (Eg E) x
  con : ∀ D, Cons E nx D → s.two = false ∧ ∀ x : Nat, x ∈ s.l → s.o[x]? = some (D x)
/-- s' is s with labels added; those of q are there -/
structure LUp (s s' : LS) (q : List (Nat × Int)) : Prop where
  app : ∃ r, s'.l = s.l ++ r
  keep : ∀ (x : Nat) (v : Int), s.o[x]? = some v → 0 ≤ v → s'.o[x]? = some v
  new : s'.two = false → s.two = false ∧ ∀ p ∈ q, s'.o[p.1]? = some p.2
theorem LUp.trans {s s' s'' : LS} {q r : List (Nat × Int)} (h : LUp s s' q) (k : LUp s' s'' r) (hq : ∀ p ∈ q, 0 ≤ p.2) : LUp s s'' (q ++ r) := by
  obtain ⟨⟨r1, e1⟩, k1, n1⟩ := h
  obtain ⟨⟨r2, e2⟩, k2, n2⟩ := k
  refine ⟨⟨r1 ++ r2, by rw [e2, e1, List.append_assoc]⟩, fun x v hx hv => k2 x v (k1 x v hx hv) hv, fun h => ?_⟩
  obtain ⟨a, b⟩ := n2 h
  obtain ⟨c, d⟩ := n1 a
  refine ⟨c, fun p hp => ?_⟩
  rcases List.mem_append.1 hp with hp | hp
  · exact k2 _ _ (d p hp) (hq p hp)
  · exact b p hp
theorem LBas.lay {s : LS} (h : LBas E nx n s) {t : Nat} {d : Int} (ht : t < n) (hr : Rch (Eg E) t) (hd : 0 ≤ d) (hD : ∀ D, Cons E nx D → D t = d) : LBas E nx n (lay s t d) ∧ LUp s (Go.Proofs.Ytcmpgohpncnagaa.lay s t d) [(t, d)] := by
  obtain ⟨o, l, two⟩ := s
  obtain ⟨h1, h2, h3, h4, h5, h6⟩ := h
  dsimp only at h1 h2 h3 h4 h5 h6
  have ht' : t < o.length := by omega
  obtain ⟨u, hu⟩ : ∃ u, o[t]? = some u := ⟨_, List.getElem?_eq_getElem ht'⟩
  unfold Go.Proofs.Ytcmpgohpncnagaa.lay
  dsimp only
  rw [List.getD_eq_getElem?_getD, hu, Option.getD_some]
  by_cases hn : u < 0
  · rw [if_pos hn]
    have hc := cn_set hu hn hd
    have keep : ∀ (x : Nat) (v : Int), o[x]? = some v → 0 ≤ v → (o.set t d)[x]? = some v := fun x v hx hv => by
      rw [List.getElem?_set]
      split
      · rename_i e
        subst e
        have := hu.symm.trans hx
        cases this
        omega
      · exact hx
    have hat : (o.set t d)[t]? = some d := by rw [List.getElem?_set, if_pos rfl, if_pos ht']
    refine ⟨⟨by simpa using h1, fun x => ?_, fun x v hx hv => ?_, ?_, fun x hx => ?_, fun D hC => ?_⟩, ⟨⟨[t], rfl⟩, keep, fun h => ⟨h, fun p hp => by rw [List.mem_singleton.1 hp]; exact hat⟩⟩⟩
    · dsimp only
      rw [List.mem_append, List.mem_singleton, ← h2 x]
      by_cases e : x = t
      · subst e
        exact ⟨fun _ => .inr rfl, fun _ => ⟨d, hat, hd⟩⟩
      · rw [List.getElem?_set, if_neg (fun e' => e e'.symm)]
        exact ⟨.inl, fun h => h.elim id fun e' => absurd e' e⟩
    · dsimp only at hx
      by_cases e : x = t
      · subst e
        rw [hat] at hx
        cases hx
        omega
      · rw [List.getElem?_set, if_neg (fun e' => e e'.symm)] at hx
        exact h3 x v hx hv
    · simp only [List.length_append, List.length_singleton]
      omega
    · rcases List.mem_append.1 hx with hx | hx
      · exact h5 x hx
      · rw [List.mem_singleton.1 hx]
        exact hr
    · obtain ⟨q1, q2⟩ := h6 D hC
      refine ⟨q1, fun x hx => ?_⟩
      rcases List.mem_append.1 hx with hx | hx
      · exact keep x _ (q2 x hx) (hC.pos (h5 x hx))
      · rw [List.mem_singleton.1 hx, hat, hD D hC]
  · rw [if_neg hn]
    have hm : t ∈ l := (h2 t).1 ⟨u, hu, by omega⟩
    refine ⟨⟨h1, h2, h3, h4, h5, fun D hC => ?_⟩, ⟨⟨[], by simp⟩, fun _ _ h _ => h, fun h => ?_⟩⟩
    · obtain ⟨q1, q2⟩ := h6 D hC
      refine ⟨?_, q2⟩
      have := q2 t hm
      rw [hu] at this
      cases this
      dsimp only
      rw [q1, hD D hC]
      simp
    · dsimp only at h
      simp only [Bool.or_eq_false_iff, bne_eq_false_iff_eq] at h
      exact ⟨h.1, fun p hp => by rw [List.mem_singleton.1 hp]; dsimp only; rw [hu, h.2]⟩
def layAll (s : LS) (q : List (Nat × Int)) : LS := q.foldl (fun s p => lay s p.1 p.2) s
theorem LUp.refl (s : LS) : LUp s s [] := ⟨⟨[], by simp⟩, fun _ _ h _ => h, fun h => ⟨h, by simp⟩⟩
theorem LBas.fold {q : List (Nat × Int)} : ∀ {s : LS}, LBas E nx n s → (∀ p ∈ q, p.1 < n ∧ Rch (Eg E) p.1 ∧ 0 ≤ p.2 ∧ ∀ D, Cons E nx D → D p.1 = p.2) → LBas E nx n (layAll s q) ∧ LUp s (layAll s q) q := by
  induction q with
  | nil => intro s h _; exact ⟨h, LUp.refl s⟩
  | cons p q ih =>
    intro s h hp
    obtain ⟨a1, a2, a3, a4⟩ := hp p (List.mem_cons_self ..)
    obtain ⟨b1, u1⟩ := h.lay a1 a2 a3 a4
    obtain ⟨b2, u2⟩ := ih b1 fun r hr => hp r (List.mem_cons_of_mem _ hr)
    refine ⟨b2, ?_⟩
    have := u1.trans u2 (fun r hr => by rw [List.mem_singleton.1 hr]; exact a3)
    exact this
structure LWL (E : Nat → Nat → Bool → Prop) (nx : Nat → Int → Int) (n i : Nat) (s : LS) : Prop where
  bas : LBas E nx n s
  fst : s.o[0]? = some 0
  le : i ≤ s.l.length
  cl : s.two = false → ∀ j, j < i → ∀ a, s.l[j]? = some a → ∀ v, s.o[a]? = some v → 0 ≤ nx a v ∧ ∀ b g, E a b g → s.o[b]? = some (if g then v else nx a v)
theorem LWL.start (hn : 0 < n) : LWL E nx n 0 ⟨(List.replicate n (-1)).set 0 0, [0], false⟩ := by
  have h0 : (List.replicate n (-1 : Int))[0]? = some (-1) := by simp [hn]
  have hc := cn_set h0 (by omega) (Int.le_refl 0)
  rw [cn_all] at hc
  have hat : ((List.replicate n (-1 : Int)).set 0 0)[0]? = some 0 := by rw [List.getElem?_set, if_pos rfl, if_pos (by simpa using hn)]
  have oth : ∀ (x : Nat) (v : Int), x ≠ 0 → ((List.replicate n (-1 : Int)).set 0 0)[x]? = some v → v = -1 := fun x v hx h => by
    rw [List.getElem?_set, if_neg (fun e => hx e.symm), List.getElem?_replicate] at h
    split at h <;> simp at h
    exact h.symm
  refine ⟨⟨by simp, fun x => ?_, fun x v hx hv => ?_, by simp only [List.length_singleton]; omega, fun x hx => ?_, fun D hC => ⟨rfl, fun x hx => ?_⟩⟩, hat, by simp, fun _ j hj => absurd hj (Nat.not_lt_zero _)⟩
  · dsimp only
    rw [List.mem_singleton]
    constructor
    · rintro ⟨v, hv, hv0⟩
      exact Classical.byContradiction fun hx => by
        have := oth x v hx hv
        omega
    · rintro rfl
      exact ⟨0, hat, Int.le_refl 0⟩
  · by_cases e : x = 0
    · subst e
      dsimp only at hx
      rw [hat] at hx
      cases hx
      omega
    · exact oth x v e hx
  · rw [List.mem_singleton.1 hx]
    exact Rch.zero
  · rw [List.mem_singleton.1 hx, hC.zero]
    exact hat
/-- the label of the node at hand -/
theorem LWL.lab {s : LS} {i a : Nat} (h : LWL E nx n i s) (ha : s.l[i]? = some a) : ∃ v, s.o[a]? = some v ∧ 0 ≤ v ∧ a < n ∧ ∀ D, Cons E nx D → D a = v := by
  have hm := List.mem_of_getElem? ha
  obtain ⟨v, hv, h0⟩ := (h.bas.mks a).2 hm
  refine ⟨v, hv, h0, ?_, fun D hC => ?_⟩
  · have := (List.getElem?_eq_some_iff.1 hv).1
    rw [h.bas.len] at this
    exact this
  · have := (h.bas.con D hC).2 a hm
    rw [hv] at this
    cases this
    rfl
/-- a negative depth behind it: no depths -/
theorem LWL.bad {s : LS} {i a : Nat} {v : Int} (h : LWL E nx n i s) (ha : s.l[i]? = some a) (hv : s.o[a]? = some v) (hx : nx a v < 0) : ¬ DepOk E nx := fun ⟨D, hC⟩ => by
  obtain ⟨v', hv', _, _, hD⟩ := h.lab ha
  rw [hv] at hv'
  cases hv'
  have := hC.nn a (h.bas.rch a (List.mem_of_getElem? ha))
  rw [hD D hC] at this
  omega
theorem LWL.two {s : LS} {i : Nat} (h : LWL E nx n i s) (ht : s.two = true) : ¬ DepOk E nx := fun ⟨D, hC⟩ => by
  have := (h.bas.con D hC).1
  rw [ht] at this
  cases this
theorem LWL.next {s : LS} {i a : Nat} {v : Int} (h : LWL E nx n i s) (ha : s.l[i]? = some a) (hv : s.o[a]? = some v) (hx : 0 ≤ nx a v) {q : List (Nat × Bool)} (hE : ∀ b g, E a b g ↔ (b, g) ∈ q) (hlt : ∀ p ∈ q, p.1 < n) :
    LWL E nx n (i + 1) (layAll s (q.map fun p => (p.1, if p.2 then v else nx a v))) := by
  obtain ⟨v', hv', h0, han, hD⟩ := h.lab ha
  rw [hv] at hv'
  cases hv'
  have ra := h.bas.rch a (List.mem_of_getElem? ha)
  obtain ⟨b, ⟨r, e⟩, kp, nw⟩ := h.bas.fold (q := q.map fun p => (p.1, if p.2 then v else nx a v)) fun p hp => by
    obtain ⟨⟨t, g⟩, ht, rfl⟩ := List.mem_map.1 hp
    have he := (hE t g).2 ht
    refine ⟨hlt _ ht, ra.step ⟨g, he⟩, ?_, fun D hC => ?_⟩
    · dsimp only
      cases g
      · exact hx
      · exact h0
    · dsimp only
      rw [hC.next a t g ra he, hD D hC]
  have hi := (List.getElem?_eq_some_iff.1 ha).1
  refine ⟨b, kp 0 0 h.fst (Int.le_refl 0), by rw [e, List.length_append]; omega, fun h2 j hj x hxj u hu => ?_⟩
  obtain ⟨s2, w⟩ := nw h2
  rw [e, List.getElem?_append_left (by omega)] at hxj
  obtain ⟨ux, hux, hux0⟩ := (h.bas.mks x).2 (List.mem_of_getElem? hxj)
  have := kp x ux hux hux0
  rw [hu] at this
  cases this
  by_cases hji : j < i
  · obtain ⟨c1, c2⟩ := h.cl s2 j hji x hxj u hux
    refine ⟨c1, fun b g he => kp b _ (c2 b g he) ?_⟩
    cases g
    · exact c1
    · exact hux0
  · obtain rfl : j = i := by omega
    rw [ha] at hxj
    cases hxj
    rw [hv] at hux
    cases hux
    refine ⟨hx, fun b g he => ?_⟩
    exact w (b, if g then v else nx a v) (List.mem_map.2 ⟨(b, g), (hE b g).1 he, rfl⟩)
theorem LWL.len {s : LS} {i : Nat} (h : LWL E nx n i s) : s.l.length ≤ n := by
  have := h.bas.cnt
  omega
theorem LWL.closed {s : LS} (h : LWL E nx n s.l.length s) (ht : s.two = false) : ∀ x, Rch (Eg E) x → x ∈ s.l := fun x hx =>
  hx.ind (S := fun x => x ∈ s.l) ((h.bas.mks 0).1 ⟨0, h.fst, Int.le_refl 0⟩) fun a b _ ha ⟨g, e⟩ => by
    obtain ⟨j, hj, hja⟩ := List.getElem_of_mem ha
    obtain ⟨v, hv, hv0⟩ := (h.bas.mks a).2 ha
    obtain ⟨c1, c2⟩ := h.cl ht j hj a (by rw [List.getElem?_eq_getElem hj, hja]) v hv
    refine (h.bas.mks b).1 ⟨_, c2 b g e, ?_⟩
    cases g
    · exact c1
    · exact hv0
theorem LWL.done {s : LS} (h : LWL E nx n s.l.length s) (ht : s.two = false) : DepOk E nx ∧ s.o = depL E nx n := by
  have hcl := h.closed ht
  have hat : ∀ (x : Nat) (v : Int), s.o[x]? = some v → s.o.getD x (-1) = v := fun x v hx => by rw [List.getD_eq_getElem?_getD, hx, Option.getD_some]
  have hC : Cons E nx fun x => s.o.getD x (-1) := by
    refine ⟨hat 0 0 h.fst, fun a ha => ?_, fun a b g ha e => ?_⟩
    · obtain ⟨j, hj, hja⟩ := List.getElem_of_mem (hcl a ha)
      obtain ⟨v, hv, hv0⟩ := (h.bas.mks a).2 (hcl a ha)
      rw [hat a v hv]
      exact (h.cl ht j hj a (by rw [List.getElem?_eq_getElem hj, hja]) v hv).1
    · obtain ⟨j, hj, hja⟩ := List.getElem_of_mem (hcl a ha)
      obtain ⟨v, hv, hv0⟩ := (h.bas.mks a).2 (hcl a ha)
      rw [hat a v hv]
      exact hat b _ ((h.cl ht j hj a (by rw [List.getElem?_eq_getElem hj, hja]) v hv).2 b g e)
  refine ⟨⟨_, hC⟩, depL_eq h.bas.len hC (fun x hx hr => ?_) fun x hx hr => ?_⟩
  · obtain ⟨v, hv, _⟩ := (h.bas.mks x).2 (hcl x hr)
    rw [hat x v hv, hv]
  · obtain ⟨v, hv⟩ : ∃ v, s.o[x]? = some v := ⟨_, List.getElem?_eq_getElem (by rw [h.bas.len]; exact hx)⟩
    rw [hv]
    by_cases h0 : 0 ≤ v
    · exact absurd (h.bas.rch x ((h.bas.mks x).1 ⟨v, hv, h0⟩)) hr
    · rw [h.bas.neg x v hv (by omega)]

/-! ### passes -/
structure PBas (E : Nat → Nat → Bool → Prop) (nx : Nat → Int → Int) (n : Nat) (o : List Int) (bad : Bool) : Prop where
  len : o.length = n
  neg : ∀ (x : Nat) (v : Int), o[x]? = some v → v < 0 → v = -1
  rch : ∀ (x : Nat) (v : Int), o[x]? = some v → 0 ≤ v → Rch (Eg E) x
  con : ∀ D, Cons E nx D → bad = false ∧ ∀ (x : Nat) (v : Int), o[x]? = some v → 0 ≤ v → v = D x
structure PUp (p o : List Int) (m : Bool) : Prop where
  keep : ∀ (x : Nat) (v : Int), p[x]? = some v → 0 ≤ v → o[x]? = some v
  same : m = false → o = p
  more : m = true → cn o < cn p
theorem PUp.refl (p : List Int) : PUp p p false := ⟨fun _ _ h _ => h, fun _ => rfl, by simp⟩
/-- a label is set for the first time -/
theorem PBas.new {p o : List Int} (h : PBas E nx n o false) {m : Bool} (u : PUp p o m) {t : Nat} {d : Int} (ht : o[t]? = some (-1)) (hr : Rch (Eg E) t) (hd : 0 ≤ d) (hD : ∀ D, Cons E nx D → D t = d) : PBas E nx n (o.set t d) false ∧ PUp p (o.set t d) true := by
  have ht' := (List.getElem?_eq_some_iff.1 ht).1
  have hc := cn_set ht (by omega) hd
  have hat : (o.set t d)[t]? = some d := by rw [List.getElem?_set, if_pos rfl, if_pos ht']
  have oth : ∀ x, x ≠ t → (o.set t d)[x]? = o[x]? := fun x e => by rw [List.getElem?_set, if_neg (fun e' => e e'.symm)]
  refine ⟨⟨by simpa using h.len, fun x v hx hv => ?_, fun x v hx hv => ?_, fun D hC => ⟨rfl, fun x v hx hv => ?_⟩⟩, fun x v hx hv => ?_, by simp, fun _ => ?_⟩
  · by_cases e : x = t
    · subst e
      rw [hat] at hx
      cases hx
      omega
    · rw [oth x e] at hx
      exact h.neg x v hx hv
  · by_cases e : x = t
    · subst e
      exact hr
    · rw [oth x e] at hx
      exact h.rch x v hx hv
  · by_cases e : x = t
    · subst e
      rw [hat] at hx
      cases hx
      exact (hD D hC).symm
    · rw [oth x e] at hx
      exact (h.con D hC).2 x v hx hv
  · have := u.keep x v hx hv
    by_cases e : x = t
    · subst e
      rw [ht] at this
      cases this
      omega
    · rw [oth x e]
      exact this
  · cases m with
    | false =>
      have := u.same rfl
      subst this
      omega
    | true =>
      have := u.more rfl
      omega
/-- what conflicts: no depths -/
theorem PBas.bad {o : List Int} {b : Bool} (h : PBas E nx n o b) (hno : ¬ DepOk E nx) : PBas E nx n o true := ⟨h.len, h.neg, h.rch, fun D hC => absurd ⟨D, hC⟩ hno⟩
theorem PBas.not {o : List Int} (h : PBas E nx n o true) : ¬ DepOk E nx := fun ⟨D, hC⟩ => by
  have := (h.con D hC).1
  cases this
theorem PBas.start (hn : 0 < n) : PBas E nx n ((List.replicate n (-1)).set 0 0) false ∧ ((List.replicate n (-1 : Int)).set 0 0)[0]? = some 0 := by
  have h := LWL.start (E := E) (nx := nx) hn
  refine ⟨⟨h.bas.len, h.bas.neg, fun x v hx hv => h.bas.rch x ((h.bas.mks x).1 ⟨v, hx, hv⟩), fun D hC => ⟨rfl, fun x v hx hv => ?_⟩⟩, h.fst⟩
  have := (h.bas.con D hC).2 x ((h.bas.mks x).1 ⟨v, hx, hv⟩)
  dsimp only at this
  rw [hx] at this
  cases this
  rfl
theorem PBas.done {o : List Int} (h : PBas E nx n o false) (h0 : o[0]? = some 0) (hcl : ∀ (a : Nat) (v : Int), o[a]? = some v → 0 ≤ v → 0 ≤ nx a v ∧ ∀ b g, E a b g → o[b]? = some (if g then v else nx a v)) : DepOk E nx ∧ o = depL E nx n := by
  have lab : ∀ x, Rch (Eg E) x → ∃ v, o[x]? = some v ∧ 0 ≤ v := fun x hx => hx.ind (S := fun x => ∃ v, o[x]? = some v ∧ 0 ≤ v) ⟨0, h0, Int.le_refl 0⟩ fun a b _ ⟨v, hv, hv0⟩ ⟨g, e⟩ => by
    obtain ⟨c1, c2⟩ := hcl a v hv hv0
    refine ⟨_, c2 b g e, ?_⟩
    cases g
    · exact c1
    · exact hv0
  have hat : ∀ (x : Nat) (v : Int), o[x]? = some v → o.getD x (-1) = v := fun x v hx => by rw [List.getD_eq_getElem?_getD, hx, Option.getD_some]
  have hC : Cons E nx fun x => o.getD x (-1) := by
    refine ⟨hat 0 0 h0, fun a ha => ?_, fun a b g ha e => ?_⟩
    · obtain ⟨v, hv, hv0⟩ := lab a ha
      rw [hat a v hv]
      exact (hcl a v hv hv0).1
    · obtain ⟨v, hv, hv0⟩ := lab a ha
      rw [hat a v hv]
      exact hat b _ ((hcl a v hv hv0).2 b g e)
  refine ⟨⟨_, hC⟩, depL_eq h.len hC (fun x hx hr => ?_) fun x hx hr => ?_⟩
  · obtain ⟨v, hv, _⟩ := lab x hr
    rw [hat x v hv, hv]
  · obtain ⟨v, hv⟩ : ∃ v, o[x]? = some v := ⟨_, List.getElem?_eq_getElem (by rw [h.len]; exact hx)⟩
    rw [hv]
    by_cases hv0 : 0 ≤ v
    · exact absurd (h.rch x v hv hv0) hr
    · rw [h.neg x v hv (by omega)]
end
end Go.Proofs.Ytcmpgohpncnagaa
