/- The library's stable sort: symMerge by induction, stable, SortStableFunc. -/
import Derived.Test.YtippimonpdeioaaSrF
namespace Go.Proofs.Ytippimonpdeioaa
set_option linter.all false
open Go.ChangeShapes Go.WideShapes Go.ChangeAt Go.RowKit Go.Sort Go.Deep

theorem symIH_any (w0 : World) (b cap n : Nat) (hsz : n < 4611686018427387904) : ∀ N, SymIH w0 b cap n N
  | 0 => fun A S T R a m e W hn ha hm he hN => absurd hN (Nat.not_lt_zero _)
  | N + 1 => fun A S T R a m e W hn ha hm he hN h0 h1 hS hT hW => by
    have ih := symIH_any w0 b cap n hsz N
    have ih' : SymIH w0 b cap n (S.length + T.length) := fun A' S' T' R' a' m' e' W' q1 q2 q3 q4 q5 => ih A' S' T' R' a' m' e' W' q1 q2 q3 q4 (by omega)
    by_cases hs : S.length = 1
    · match S, hs with
      | [x], _ => exact symA_any w0 W b cap A T R x n a m e (by simpa using hn) ha (by simpa using hm) he hT hsz (by simpa using hW)
    · by_cases ht : T.length = 1
      · match T, ht with
        | [y], _ => exact symB_any w0 W b cap A S R y n a m e (by simpa using hn) ha hm (by simpa using he) (by omega) hS hsz (by simpa using hW)
      · exact symC_any w0 W b cap A S T R n a m e hn ha hm he (by omega) (by omega) hS hT hsz ih' hW

def fsB (bl : List (List Val × List Val)) : List Val := bl.flatMap Prod.fst
def snB (bl : List (List Val × List Val)) : List Val := bl.flatMap Prod.snd
def okB (bs : Nat) (bl : List (List Val × List Val)) : Prop := ∀ p ∈ bl, p.1.length = bs ∧ StS p.1 p.2
/-- P' is P in blocks of bs keys, each sorted -/
def Full (bs : Nat) (P P' : List Val) : Prop := ∃ bl, P = fsB bl ∧ P' = snB bl ∧ okB bs bl
/-- .. with one shorter block behind them -/
def Bl (bs : Nat) (X L : List Val) : Prop := ∃ bl Q Q', X = fsB bl ++ Q ∧ L = snB bl ++ Q' ∧ okB bs bl ∧ Q.length < bs ∧ StS Q Q'
theorem okB_len {bs : Nat} : ∀ {bl : List (List Val × List Val)}, okB bs bl → (fsB bl).length = bl.length * bs ∧ (snB bl).length = bl.length * bs
  | [], _ => by simp [fsB, snB]
  | p :: bl, h => by
    have ih := okB_len (bs := bs) (bl := bl) (fun q hq => h q (List.mem_cons_of_mem _ hq))
    have hp := h p (List.mem_cons_self ..)
    have := hp.2.2.len
    unfold fsB snB at *
    simp only [List.flatMap_cons, List.length_append, List.length_cons, Nat.add_mul]
    omega
theorem Full.nil_ (bs : Nat) : Full bs [] [] := ⟨[], rfl, rfl, by simp [okB]⟩
theorem Full.snoc {bs : Nat} {P P' S S' : List Val} (h : Full bs P P') (hs : S.length = bs) (hS : StS S S') : Full bs (P ++ S) (P' ++ S') := by
  obtain ⟨bl, rfl, rfl, hk⟩ := h
  refine ⟨bl ++ [(S, S')], by simp [fsB], by simp [snB], fun p hp => ?_⟩
  rcases List.mem_append.1 hp with hp | hp
  · exact hk p hp
  · rw [List.mem_singleton.1 hp]
    exact ⟨hs, hS⟩
theorem Full.len {bs : Nat} {P P' : List Val} (h : Full bs P P') : P'.length = P.length := by
  obtain ⟨bl, rfl, rfl, hk⟩ := h
  rw [(okB_len hk).1, (okB_len hk).2]
theorem Full.bl {bs : Nat} {P P' X L : List Val} (h : Full bs P P') (h2 : Bl bs X L) : Bl bs (P ++ X) (P' ++ L) := by
  obtain ⟨bl, rfl, rfl, hk⟩ := h
  obtain ⟨bl2, Q, Q', rfl, rfl, hk2, hq, hQ⟩ := h2
  refine ⟨bl ++ bl2, Q, Q', by simp [fsB], by simp [snB], fun p hp => ?_, hq, hQ⟩
  rcases List.mem_append.1 hp with hp | hp
  · exact hk p hp
  · exact hk2 p hp
theorem Bl.short {bs : Nat} {Q Q' : List Val} (h : StS Q Q') (hq : Q.length < bs) : Bl bs Q Q' := ⟨[], Q, Q', rfl, rfl, by simp [okB], hq, h⟩
theorem Bl.len {bs : Nat} {X L : List Val} (h : Bl bs X L) : L.length = X.length := by
  obtain ⟨bl, Q, Q', rfl, rfl, hk, hq, hQ⟩ := h
  rw [List.length_append, List.length_append, (okB_len hk).1, (okB_len hk).2, hQ.2.len]
theorem Bl.whole {bs : Nat} {X L : List Val} (h : Bl bs X L) (hb : 0 < bs) (hX : ¬ bs < X.length) : StS X L := by
  obtain ⟨bl, Q, Q', rfl, rfl, hk, hq, hQ⟩ := h
  match bl, hk with
  | [], _ => exact hQ
  | [p], hk =>
    have hp := hk p (by simp)
    simp only [fsB, snB, List.flatMap_cons, List.flatMap_nil, List.append_nil, List.length_append] at hX ⊢
    obtain rfl : Q = [] := List.eq_nil_of_length_eq_zero (by omega)
    obtain rfl : Q' = [] := List.eq_nil_of_length_eq_zero (by rw [hQ.2.len]; rfl)
    simpa using hp.2
  | p :: q :: bl, hk =>
    have hp := hk p (by simp)
    have hq := hk q (by simp)
    simp only [fsB, List.flatMap_cons, List.length_append] at hX
    omega

/-- the first loop: blocks ahead of a are sorted -/
def St1 (a : Nat) (X L : List Val) : Prop := ∃ P P' Q, X = P ++ Q ∧ L = P' ++ Q ∧ P.length = a ∧ Full 20 P P'
theorem St1.start (X : List Val) : St1 0 X X := ⟨[], [], X, rfl, rfl, rfl, Full.nil_ _⟩
theorem St1.len {a : Nat} {X L : List Val} (h : St1 a X L) : L.length = X.length ∧ a ≤ X.length := by
  obtain ⟨P, P', Q, rfl, rfl, rfl, hF⟩ := h
  rw [List.length_append, List.length_append, hF.len]
  exact ⟨rfl, Nat.le_add_right _ _⟩
theorem St1.step {a b : Nat} {X L L' : List Val} (h : St1 a X L) (ho : OutI a b L L') (hb : b = a + 20) : St1 b X L' := by
  obtain ⟨P, P', Q, rfl, rfl, hP, hF⟩ := h
  obtain ⟨A, S0, S, R, e, rfl, hA, hS, hs⟩ := ho
  obtain ⟨rfl, rfl⟩ := List.append_inj e (by rw [hF.len, hP, hA])
  exact ⟨P ++ S0, P' ++ S, R, by simp, by simp, by rw [List.length_append]; omega, hF.snoc (by omega) hs⟩
theorem St1.last {a n : Nat} {X L L' : List Val} (h : St1 a X L) (ho : OutI a n L L') (hn : n = X.length) (hb : n < a + 20) : Bl 20 X L' := by
  obtain ⟨P, P', Q, rfl, rfl, hP, hF⟩ := h
  obtain ⟨A, S0, S, R, e, rfl, hA, hS, hs⟩ := ho
  obtain ⟨rfl, rfl⟩ := List.append_inj e (by rw [hF.len, hP, hA])
  simp only [List.length_append] at hn
  obtain rfl : R = [] := List.eq_nil_of_length_eq_zero (by omega)
  have := hF.bl (Bl.short (bs := 20) hs (by omega))
  simpa using this

/-- the second loop: pairs of blocks ahead of a are merged -/
def St2 (bs a : Nat) (X L : List Val) : Prop := ∃ D D' Y Z, X = D ++ Y ∧ L = D' ++ Z ∧ D.length = a ∧ Full (2 * bs) D D' ∧ Bl bs Y Z
theorem St2.start {bs : Nat} {X L : List Val} (h : Bl bs X L) : St2 bs 0 X L := ⟨[], [], X, L, rfl, rfl, rfl, Full.nil_ _, h⟩
theorem St2.len {bs a : Nat} {X L : List Val} (h : St2 bs a X L) : L.length = X.length ∧ a ≤ X.length := by
  obtain ⟨D, D', Y, Z, rfl, rfl, rfl, hF, hB⟩ := h
  rw [List.length_append, List.length_append, hF.len, hB.len]
  exact ⟨rfl, Nat.le_add_right _ _⟩
theorem StS.pre {a a' b b' U : List Val} (h1 : StS a a') (h2 : StS b b') (h : StS (a' ++ b') U) : StS (a ++ b) U := h.fl (h1.2.app h2.2)
theorem St2.step {bs a : Nat} {X L : List Val} (h : St2 bs a X L) (hb : a + 2 * bs ≤ X.length) : ∃ A S T R, L = A ++ (S ++ (T ++ R)) ∧ A.length = a ∧ S.length = bs ∧ T.length = bs ∧ SoK S ∧ SoK T ∧ ∀ U, StS (S ++ T) U → St2 bs (a + 2 * bs) X (A ++ (U ++ R)) := by
  obtain ⟨D, D', Y, Z, rfl, rfl, hD, hF, bl, Q, Q', rfl, rfl, hk, hq, hQ⟩ := h
  have hl := okB_len hk
  match bl, hk, hl with
  | [], _, _ =>
    simp [fsB] at hb
    omega
  | [p], hk, _ =>
    have hp := hk p (by simp)
    simp [fsB] at hb
    omega
  | p :: q :: bl, hk, _ =>
    have hp := hk p (by simp)
    have hq' := hk q (by simp)
    refine ⟨D', p.2, q.2, snB bl ++ Q', by simp [snB], by rw [hF.len, hD], by rw [hp.2.2.len, hp.1], by rw [hq'.2.2.len, hq'.1], hp.2.1, hq'.2.1, fun U hU => ?_⟩
    refine ⟨D ++ (p.1 ++ q.1), D' ++ U, fsB bl ++ Q, snB bl ++ Q', by simp [fsB], by simp, by simp only [List.length_append]; omega, hF.snoc (by rw [List.length_append]; omega) (hp.2.pre hq'.2 hU), bl, Q, Q', rfl, rfl, fun r hr => hk r (by simp [hr]), hq, hQ⟩
theorem St2.last {bs a : Nat} {X L : List Val} (h : St2 bs a X L) (hb : X.length < a + 2 * bs) (hm : a + bs < X.length) : ∃ A S T, L = A ++ (S ++ (T ++ [])) ∧ A.length = a ∧ S.length = bs ∧ a + bs + T.length = X.length ∧ SoK S ∧ SoK T ∧ ∀ U, StS (S ++ T) U → Bl (2 * bs) X (A ++ (U ++ [])) := by
  obtain ⟨D, D', Y, Z, rfl, rfl, hD, hF, bl, Q, Q', rfl, rfl, hk, hq, hQ⟩ := h
  match bl, hk with
  | [], _ =>
    simp [fsB] at hm
    omega
  | [p], hk =>
    have hp := hk p (by simp)
    simp only [fsB, List.flatMap_cons, List.flatMap_nil, List.append_nil, List.length_append] at hb hm
    refine ⟨D', p.2, Q', by simp [snB], by rw [hF.len, hD], by rw [hp.2.2.len, hp.1], by simp only [fsB, List.flatMap_cons, List.flatMap_nil, List.append_nil, List.length_append]; rw [hQ.2.len]; omega, hp.2.1, hQ.1, fun U hU => ?_⟩
    have := hF.bl (Bl.short (bs := 2 * bs) (hp.2.pre hQ hU) (by rw [List.length_append]; omega))
    simpa [fsB] using this
  | p :: q :: bl, hk =>
    have hp := hk p (by simp)
    have hq' := hk q (by simp)
    simp only [fsB, List.flatMap_cons, List.length_append] at hb
    omega
theorem St2.skip {bs a : Nat} {X L : List Val} (h : St2 bs a X L) (hb : X.length < a + 2 * bs) (hm : ¬ a + bs < X.length) (h0 : 0 < bs) : Bl (2 * bs) X L := by
  obtain ⟨D, D', Y, Z, rfl, rfl, hD, hF, hB⟩ := h
  rw [List.length_append] at hm hb
  exact hF.bl (Bl.short (hB.whole h0 (by omega)) (by omega))
end Go.Proofs.Ytippimonpdeioaa
