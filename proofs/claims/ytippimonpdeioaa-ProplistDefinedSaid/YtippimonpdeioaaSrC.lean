/- The library's stable sort: insertionSort. -/
import Derived.Test.YtippimonpdeioaaSrB
import Derived.Test.YtippimonpdeioaaSrP
namespace Go.Proofs.Ytippimonpdeioaa
set_option linter.all false
open Go.ChangeShapes Go.WideShapes Go.ChangeAt Go.RowKit Go.Sort Go.Deep

theorem wp_worldS {P : Program} {c : Code} {Q : Exit → Act → World → Prop} {a : Act} {w : World} (C : World → Prop) (hC : C w) (h : ∀ w', C w' → c.wp P Q a w') : c.wp P Q a w := h w hC
theorem kAt_mid (P : List Val) (x : Val) (R : List Val) : kAt (P ++ (x :: R)) P.length = x := by
  unfold kAt
  rw [List.getD_eq_getElem?_getD, List.getElem?_append_right (Nat.le_refl _)]
  simp
theorem kAt_mid1 (P : List Val) (s x : Val) (R : List Val) : kAt (P ++ (s :: x :: R)) (P.length + 1) = x := by
  unfold kAt
  rw [List.getD_eq_getElem?_getD, List.getElem?_append_right (by omega)]
  simp
theorem swL_down (P : List Val) (s x : Val) (R : List Val) : swL (P ++ (s :: x :: R)) (P.length + 1) P.length = P ++ (x :: s :: R) := by
  unfold swL
  rw [kAt_mid, kAt_mid1, List.set_append_right _ _ (by omega), List.set_append_right _ _ (by omega)]
  simp
theorem swL_up (P : List Val) (s x : Val) (R : List Val) : swL (P ++ (s :: x :: R)) P.length (P.length + 1) = P ++ (x :: s :: R) := by
  unfold swL
  rw [kAt_mid, kAt_mid1, List.set_append_right _ _ (by omega), List.set_append_right _ _ (by omega)]
  simp

/-- the keys at a .. i - 1 of X, sorted in L -/
def OutI (a i : Nat) (X L : List Val) : Prop := ∃ A S0 S R : List Val, X = A ++ (S0 ++ R) ∧ L = A ++ (S ++ R) ∧ A.length = a ∧ a + S0.length = i ∧ StS S0 S
def OutJ (a e i : Nat) (X L : List Val) : Prop := a < i ∧ i ≤ e + 1 ∧ L.length = X.length ∧ (i ≤ e → OutI a i X L) ∧ (e < i → e = a ∧ L = X)
/-- .. and the key at i on its way down, now at j -/
def InsI (a i j : Nat) (X L : List Val) : Prop := ∃ A S0 S1 S2 R : List Val, ∃ x : Val, X = A ++ (S0 ++ (x :: R)) ∧ L = A ++ (S1 ++ (x :: (S2 ++ R))) ∧ A.length = a ∧ a + S0.length = i ∧ a + S1.length = j ∧ StS S0 (S1 ++ S2) ∧ ∀ s ∈ S2, ltK x s = true
theorem cut_at {a i : Nat} {X : List Val} (h1 : a ≤ i) (h2 : i ≤ X.length) : ∃ A S R : List Val, X = A ++ (S ++ R) ∧ A.length = a ∧ a + S.length = i := by
  refine ⟨X.take a, (X.drop a).take (i - a), (X.drop a).drop (i - a), ?_, by rw [List.length_take]; omega, by rw [List.length_take, List.length_drop]; omega⟩
  rw [List.take_append_drop, List.take_append_drop]
theorem OutI.nil_ {a : Nat} {X : List Val} (h : a ≤ X.length) : OutI a a X X := by
  obtain ⟨A, S, R, rfl, hA, hS⟩ := cut_at (Nat.le_refl a) h
  obtain rfl : S = [] := List.eq_nil_of_length_eq_zero (by omega)
  exact ⟨A, [], [], R, rfl, rfl, hA, by simpa using hS, .self List.Pairwise.nil⟩
theorem OutI.len {a i : Nat} {X L : List Val} (h : OutI a i X L) : L.length = X.length := by
  obtain ⟨A, S0, S, R, rfl, rfl, hA, hS, hs⟩ := h
  simp only [List.length_append, hs.2.len]
theorem OutJ.start {a e : Nat} {X : List Val} (h1 : a ≤ e) (h2 : e ≤ X.length) : OutJ a e (a + 1) X X := by
  refine ⟨by omega, by omega, rfl, fun h => ?_, fun h => ⟨by omega, rfl⟩⟩
  obtain ⟨A, S, R, rfl, hA, hS⟩ := cut_at (Nat.le_succ a) (Nat.le_trans h h2)
  match S, hS with
  | [x], hS => exact ⟨A, [x], [x], R, rfl, rfl, hA, hS, .self (List.pairwise_singleton _ _)⟩
  | [], hS => simp at hS
  | _ :: _ :: _, hS => simp at hS
theorem OutJ.enter {a e i : Nat} {X L : List Val} (h : OutJ a e i X L) (he : e ≤ X.length) (hi : i < e) : InsI a i i X L := by
  obtain ⟨A, S0, S, R, rfl, rfl, hA, hS, hs⟩ := h.2.2.2.1 (by omega)
  cases R with
  | nil =>
    simp only [List.append_nil, List.length_append] at he
    omega
  | cons x R =>
    have := hs.2.len
    exact ⟨A, S0, S, [], R, x, rfl, rfl, hA, hS, by omega, by simpa using hs, by simp⟩
theorem InsI.len {a i j : Nat} {X L : List Val} (h : InsI a i j X L) : L.length = X.length ∧ a ≤ j ∧ j ≤ i ∧ i < X.length := by
  obtain ⟨A, S0, S1, S2, R, x, rfl, rfl, hA, h0, h1, hs, h2⟩ := h
  have := hs.2.len
  rw [List.length_append] at this
  simp only [List.length_append, List.length_cons]
  omega
theorem InsI.at_ {a i j : Nat} {X L : List Val} (h : InsI a i j X L) (hj : a < j) : ∃ A S0 S1 S2 R : List Val, ∃ s x : Val, X = A ++ (S0 ++ (x :: R)) ∧ L = (A ++ S1) ++ (s :: x :: (S2 ++ R)) ∧ A.length = a ∧ a + S0.length = i ∧ (A ++ S1).length = j - 1 ∧ StS S0 ((S1 ++ [s]) ++ S2) ∧ (∀ s ∈ S2, ltK x s = true) ∧ kAt L j = x ∧ kAt L (j - 1) = s := by
  obtain ⟨A, S0, S1, S2, R, x, rfl, rfl, hA, h0, h1, hs, h2⟩ := h
  rcases List.eq_nil_or_concat S1 with rfl | ⟨S1, s, rfl⟩
  · simp at h1
    omega
  · rw [List.concat_eq_append] at h1 hs
    rw [List.length_append, List.length_singleton] at h1
    have e : A ++ (S1.concat s ++ (x :: (S2 ++ R))) = (A ++ S1) ++ (s :: x :: (S2 ++ R)) := by simp
    have l : (A ++ S1).length = j - 1 := by rw [List.length_append]; omega
    refine ⟨A, S0, S1, S2, R, s, x, rfl, e, hA, h0, l, hs, h2, ?_, ?_⟩
    · rw [e, show j = (A ++ S1).length + 1 by omega, kAt_mid1]
    · rw [e, ← l, kAt_mid]
theorem InsI.go {a i j : Nat} {X L : List Val} (h : InsI a i j X L) (hj : a < j) (hlt : ltK (kAt L j) (kAt L (j - 1)) = true) : InsI a i (j - 1) X (swL L j (j - 1)) := by
  obtain ⟨A, S0, S1, S2, R, s, x, rfl, e, hA, h0, l, hs, h2, k1, k2⟩ := h.at_ hj
  rw [k1, k2] at hlt
  refine ⟨A, S0, S1, s :: S2, R, x, rfl, ?_, hA, h0, by rw [List.length_append] at l; omega, by simpa using hs, fun y hy => ?_⟩
  · have e1 : j = (A ++ S1).length + 1 := by omega
    rw [e, ← l, e1, swL_down]
    simp
  · rcases List.mem_cons.1 hy with rfl | hy
    · exact hlt
    · exact h2 y hy
theorem InsI.stop {a e i j : Nat} {X L : List Val} (h : InsI a i j X L) (hi : i < e) (hc : j = a ∨ ltK (kAt L j) (kAt L (j - 1)) = false) : OutJ a e (i + 1) X L := by
  have hl := h.len
  refine ⟨by omega, by omega, hl.1, fun _ => ?_, fun _ => by omega⟩
  by_cases hja : a < j
  · obtain ⟨A, S0, S1, S2, R, s, x, rfl, rfl, hA, h0, l, hs, h2, k1, k2⟩ := h.at_ hja
    have hlt : ltK x s = false := by
      rcases hc with hc | hc
      · omega
      · rwa [k1, k2] at hc
    have hp := (List.pairwise_append.1 (List.pairwise_append.1 hs.1).1).2.2
    refine ⟨A, S0 ++ [x], (S1 ++ [s]) ++ (x :: S2), R, by simp, by simp, hA, by rw [List.length_append, List.length_singleton]; omega, hs.ins (fun t ht => ?_) h2⟩
    rcases List.mem_append.1 ht with ht | ht
    · exact leK_trans (hp t ht s (by simp)) hlt
    · rw [List.mem_singleton.1 ht]
      exact hlt
  · obtain ⟨A, S0, S1, S2, R, x, rfl, rfl, hA, h0, h1, hs, h2⟩ := h
    obtain rfl : S1 = [] := List.eq_nil_of_length_eq_zero (by omega)
    exact ⟨A, S0 ++ [x], [] ++ (x :: S2), R, by simp, by simp, hA, by rw [List.length_append, List.length_singleton]; omega, hs.ins (by simp) h2⟩
theorem OutJ.done {a e i : Nat} {X L : List Val} (h : OutJ a e i X L) (he : e ≤ X.length) (hi : ¬ i < e) : OutI a e X L := by
  obtain ⟨h1, h2, h3, h4, h5⟩ := h
  by_cases hie : i = e
  · subst hie
    exact h4 (Nat.le_refl _)
  · obtain ⟨rfl, rfl⟩ := h5 (by omega)
    exact OutI.nil_ he

theorem meas_up {e i i1 : Nat} (h : i1 = i + 1) (hl : i < e) : e + 1 - ((i1 : Int)).toNat < e + 1 - ((i : Int)).toNat := by
  rw [Int.toNat_natCast, Int.toNat_natCast]
  omega
theorem meas_dn {j jp : Nat} (h : jp < j) : ((jp : Int)).toNat < ((j : Int)).toNat := by
  rw [Int.toNat_natCast, Int.toNat_natCast]
  exact h
set_option maxRecDepth 100000 in
set_option maxHeartbeats 8000000 in
theorem insSort_any (w0 w : World) (b cap : Nat) (X : List Val) (n a e : Nat) (hn : n = X.length) (ha : a ≤ e) (he : e ≤ X.length) (hm : X.length < 4611686018427387904) (hS : SrtW w0 b cap X w) :
    Calls Try.prog 70 #[.slice (some ⟨b, 0, none⟩) n cap, .int .i64 a, .int .i64 e, cmpV] w fun r w' => r = .returned (.tuple #[]) ∧ ∃ L, OutI a e X L ∧ SrtW w0 b cap L w' := by
  have e1 : wrap64 ((a : Int) + 1) = ((a + 1 : Nat) : Int) := w64 (by omega) (by omega)
  have SS := Lib.hid (And.intro hS (OutJ.start ha he))
  have BN := Lib.hid (And.intro hm (And.intro hn (And.intro ha he)))
  obtain ⟨a1, ha1⟩ : ∃ a1, a1 = a + 1 := ⟨_, rfl⟩
  rw [← ha1] at e1 SS
  clear hS hm hn ha he ha1
  go_enter Try.func70, Try.ntmps70
  go_wp2
  go_loopw [8] (fun x wr => ∃ (i : Nat) (L : List Val), x = .int .i64 i ∧ Hid (OutJ a e i X L ∧ SrtW w0 b cap L wr)) (fun x _ => e + 1 - (intOf x).toNat)
  case atStart => exact ⟨a1, X, by first | with_reducible rfl | rw [e1], Lib.hid ⟨SS.out.2, SS.out.1⟩⟩
  case round =>
    obtain ⟨i, L, rfl, HI⟩ := hrel
    clear e1
    by_cases hlt : i < e
    · have q0 : (i : Int) < (e : Int) := by omega
      have LT := Lib.hid hlt
      have J0 := Lib.hid (HI.out.1.enter BN.out.2.2.2 hlt)
      clear hlt
      go_wp2
      go_loopw [9] (fun y wr2 => ∃ (j : Nat) (Y : List Val), y = .int .i64 j ∧ Hid (InsI a i j X Y ∧ SrtW w0 b cap Y wr2)) (fun y _ => (intOf y).toNat)
      case atStart => exact ⟨i, L, rfl, Lib.hid ⟨J0.out, HI.out.2⟩⟩
      case round =>
        obtain ⟨j, Y, rfl, HJ⟩ := hrel
        obtain ⟨l1, l2, l3, l4⟩ := HJ.out.1.len
        have ei : wrap64 ((i : Int) + 1) = ((i + 1 : Nat) : Int) := w64 (by omega) (by have := BN.out.1; omega)
        obtain ⟨i1, hi1⟩ : ∃ i1, i1 = i + 1 := ⟨_, rfl⟩
        rw [← hi1] at ei
        have I1 := Lib.hid (And.intro hi1 (And.intro l3 l4))
        clear hi1
        by_cases hja : a < j
        · have g0 : (a : Int) < (j : Int) := by omega
          have g1 : (j : Int) < (n : Int) := by have := BN.out.2.1; omega
          obtain ⟨jp, hjp⟩ : ∃ jp, jp = j - 1 := ⟨_, rfl⟩
          have g2 : (jp : Int) < (n : Int) := by omega
          have g3 : ¬ (j : Int) < 0 := by omega
          have g4 : ¬ (jp : Int) < 0 := by omega
          have f1 : IntKind.i64.wrap ((j : Int) - 1) = (jp : Int) := by rw [IntKind.wrap_i64]; have := BN.out.1; omega
          have f2 : wrap64 ((j : Int) - 1) = (jp : Int) := w64 (by omega) (by have := BN.out.1; omega)
          obtain ⟨x0, x1, x2⟩ := HJ.out.2.at_ (i := j) (by omega)
          obtain ⟨y0, y1, y2⟩ := HJ.out.2.at_ (i := jp) (by omega)
          have lb := HJ.out.2.lt
          have lbn : ∀ k, b < wr.heap.size + k := fun k => by omega
          have GO := Lib.hid (fun h => HJ.out.1.go hja h)
          have ST := Lib.hid (fun h => HJ.out.1.stop LT.out (.inr h))
          rw [← hjp] at GO ST
          have LJ := Lib.hid (show jp < Y.length ∧ j < Y.length ∧ jp < j by omega)
          clear hjp hja l1 l2 l3 l4
          have hlk : ltK (kAt Y j) (kAt Y jp) = decide (orderM (kAt Y j) (kAt Y jp) < 0) := rfl
          generalize kAt Y j = x at *
          generalize kAt Y jp = y at *
          by_cases hc : orderM x y < 0
          · have GO := Lib.hid (GO.out (by rw [hlk]; exact decide_eq_true hc))
            clear ST hlk
            go_upto_region 4 with fail
            (refine wp_region_held_drew (S := (fun Z : World => b < Z.heap.size ∧ Z.cell? ⟨b, j * 3, none⟩ = some (.int .i64 x.k) ∧ Z.cell? ⟨b, j * 3 + 1, none⟩ = some (.int .i64 x.n) ∧ Z.cell? ⟨b, j * 3 + 2, none⟩ = some (.string x.s) ∧ Z.cell? ⟨b, jp * 3, none⟩ = some (.int .i64 y.k) ∧ Z.cell? ⟨b, jp * 3 + 1, none⟩ = some (.int .i64 y.n) ∧ Z.cell? ⟨b, jp * 3 + 2, none⟩ = some (.string y.s))) Try.mixed (by (and_intros <;> go_simp)) (fun hS => ?_); (refine wpAnyH_take (i := 0) (v := ?_) rfl (by kernel_rfl) (by kernel_rfl) (by kernel_rfl) (fun _ _ _ h => h) ?_ (by assumption) ?_; rotate_left; (next => (refine Or.inl ⟨by kernel_rfl, ?_⟩; ((intro w hSw; (try dsimp only at hSw); go_simp) <;> with_reducible rfl))); (try simp only [Act.put, List.setIfInBounds_toArray, List.set_cons_zero, List.set_cons_succ])); (refine wpAnyH_take (i := 1) (v := ?_) rfl (by kernel_rfl) (by kernel_rfl) (by kernel_rfl) (fun _ _ _ h => h) ?_ (by assumption) ?_; rotate_left; (next => (refine Or.inl ⟨by kernel_rfl, ?_⟩; ((intro w hSw; (try dsimp only at hSw); go_simp) <;> with_reducible rfl))); (try simp only [Act.put, List.setIfInBounds_toArray, List.set_cons_zero, List.set_cons_succ])); (refine wpAnyH_take (i := 2) (v := ?_) rfl (by kernel_rfl) (by kernel_rfl) (by kernel_rfl) (fun _ _ _ h => h) ?_ (by assumption) ?_; rotate_left; (next => (refine Or.inl ⟨by kernel_rfl, ?_⟩; ((intro w hSw; (try dsimp only at hSw); go_simp) <;> with_reducible rfl))); (try simp only [Act.put, List.setIfInBounds_toArray, List.set_cons_zero, List.set_cons_succ])); (refine wpAnyH_take (i := 3) (v := ?_) rfl (by kernel_rfl) (by kernel_rfl) (by kernel_rfl) (fun _ _ _ h => h) ?_ (by assumption) ?_; rotate_left; (next => (refine Or.inl ⟨by kernel_rfl, ?_⟩; ((intro w hSw; (try dsimp only at hSw); go_simp) <;> with_reducible rfl))); (try simp only [Act.put, List.setIfInBounds_toArray, List.set_cons_zero, List.set_cons_succ])); (refine wpAnyH_take (i := 4) (v := ?_) rfl (by kernel_rfl) (by kernel_rfl) (by kernel_rfl) (fun _ _ _ h => h) ?_ (by assumption) ?_; rotate_left; (next => (refine Or.inl ⟨by kernel_rfl, ?_⟩; ((intro w hSw; (try dsimp only at hSw); go_simp) <;> with_reducible rfl))); (try simp only [Act.put, List.setIfInBounds_toArray, List.set_cons_zero, List.set_cons_succ])); (refine wpAnyH_take (i := 5) (v := ?_) rfl (by kernel_rfl) (by kernel_rfl) (by kernel_rfl) (fun _ _ _ h => h) ?_ (by assumption) ?_; rotate_left; (next => (refine Or.inl ⟨by kernel_rfl, ?_⟩; ((intro w hSw; (try dsimp only at hSw); go_simp) <;> with_reducible rfl))); (try simp only [Act.put, List.setIfInBounds_toArray, List.set_cons_zero, List.set_cons_succ])); (refine wpAnyH_take (i := 6) (v := ?_) rfl (by kernel_rfl) (by kernel_rfl) (by kernel_rfl) (fun _ _ _ h => h) ?_ (by assumption) ?_; rotate_left; (next => (refine Or.inl ⟨by kernel_rfl, ?_⟩; ((intro w hSw; (try dsimp only at hSw); go_simp) <;> with_reducible rfl))); (try simp only [Act.put, List.setIfInBounds_toArray, List.set_cons_zero, List.set_cons_succ])); (refine wpAnyH_take (i := 7) (v := ?_) rfl (by kernel_rfl) (by kernel_rfl) (by kernel_rfl) (fun _ _ _ h => h) ?_ (by assumption) ?_; rotate_left; (next => (refine Or.inl ⟨by kernel_rfl, ?_⟩; ((intro w hSw; (try dsimp only at hSw); go_simp) <;> with_reducible rfl))); (try simp only [Act.put, List.setIfInBounds_toArray, List.set_cons_zero, List.set_cons_succ])); (refine wpAnyH_take (i := 8) (v := ?_) rfl (by kernel_rfl) (by kernel_rfl) (by kernel_rfl) (fun _ _ _ h => h) ?_ (by assumption) ?_; rotate_left; (next => (refine Or.inl ⟨by kernel_rfl, ?_⟩; ((intro w hSw; (try dsimp only at hSw); obtain ⟨sb, s0, s1, s2, s3, s4, s5⟩ := hSw; go_simp) <;> with_reducible rfl))); (try simp only [Act.put, List.setIfInBounds_toArray, List.set_cons_zero, List.set_cons_succ])); (refine wpAnyH_take (i := 9) (v := ?_) rfl (by kernel_rfl) (by kernel_rfl) (by kernel_rfl) (fun _ _ _ h => h) ?_ (by assumption) ?_; rotate_left; (next => (refine Or.inl ⟨by kernel_rfl, ?_⟩; ((intro w hSw; (try dsimp only at hSw); go_simp) <;> with_reducible rfl))); (try simp only [Act.put, List.setIfInBounds_toArray, List.set_cons_zero, List.set_cons_succ])); (refine wpAnyH_take (i := 10) (v := ?_) rfl (by kernel_rfl) (by kernel_rfl) (by kernel_rfl) (fun _ _ _ h => h) ?_ (by assumption) ?_; rotate_left; (next => (refine Or.inl ⟨by kernel_rfl, ?_⟩; ((intro w hSw; (try dsimp only at hSw); go_simp) <;> with_reducible rfl))); (try simp only [Act.put, List.setIfInBounds_toArray, List.set_cons_zero, List.set_cons_succ])); (refine wpAnyH_take (i := 11) (v := ?_) rfl (by kernel_rfl) (by kernel_rfl) (by kernel_rfl) (fun _ _ _ h => h) ?_ (by assumption) ?_; rotate_left; (next => (refine Or.inl ⟨by kernel_rfl, ?_⟩; ((intro w hSw; (try dsimp only at hSw); go_simp) <;> with_reducible rfl))); (try simp only [Act.put, List.setIfInBounds_toArray, List.set_cons_zero, List.set_cons_succ])); (refine wpAnyH_take (i := 12) (v := ?_) rfl (by kernel_rfl) (by kernel_rfl) (by kernel_rfl) (fun _ _ _ h => h) ?_ (by assumption) ?_; rotate_left; (next => (refine Or.inl ⟨by kernel_rfl, ?_⟩; ((intro w hSw; (try dsimp only at hSw); go_simp) <;> with_reducible rfl))); (try simp only [Act.put, List.setIfInBounds_toArray, List.set_cons_zero, List.set_cons_succ])); (refine wpAnyH_take (i := 13) (v := ?_) rfl (by kernel_rfl) (by kernel_rfl) (by kernel_rfl) (fun _ _ _ h => h) ?_ (by assumption) ?_; rotate_left; (next => (refine Or.inl ⟨by kernel_rfl, ?_⟩; ((intro w hSw; (try dsimp only at hSw); obtain ⟨sb, s0, s1, s2, s3, s4, s5⟩ := hSw; go_simp) <;> with_reducible rfl))); (try simp only [Act.put, List.setIfInBounds_toArray, List.set_cons_zero, List.set_cons_succ])); refine wpAnyH_ready (rs := [14]) (by kernel_rfl) (by simp) ?_; refine AllReadyH.cons rfl (fun K hK => ?_) AllReadyH.nil; go_simp; ((go_at_call 58; refine (callGr (order_any x y _)).mono ?_; rintro e w' ⟨pp, rfl, rfl⟩)); refine hK.out _ _ (by (and_intros <;> go_simp)) (fun hS => ?_); clear hK K; (try simp only [Act.put, List.setIfInBounds_toArray, List.set_cons_zero, List.set_cons_succ]); (refine wpAnyH_take (i := 15) (v := ?_) rfl (by kernel_rfl) (by kernel_rfl) (by kernel_rfl) (fun _ _ _ h => h) ?_ (by assumption) ?_; rotate_left; (next => (refine Or.inl ⟨by kernel_rfl, ?_⟩; ((intro w hSw; (try dsimp only at hSw); go_simp) <;> with_reducible rfl))); (try simp only [Act.put, List.setIfInBounds_toArray, List.set_cons_zero, List.set_cons_succ])); (refine wpAnyH_take (i := 16) (v := ?_) rfl (by kernel_rfl) (by kernel_rfl) (by kernel_rfl) (fun _ _ _ h => h) ?_ (by assumption) ?_; rotate_left; (next => (refine Or.inl ⟨by kernel_rfl, ?_⟩; ((intro w hSw; (try dsimp only at hSw); go_simp) <;> with_reducible rfl))); (try simp only [Act.put, List.setIfInBounds_toArray, List.set_cons_zero, List.set_cons_succ])); refine wpAnyH_done (by kernel_rfl) ?_ _)
            go_simp
            go_upto_region 6 with fail
            refine wp_worldS (fun Z => SrtW w0 b cap Y Z) ((HJ.out.2.gr _)) ?_
            clear x0 x1 x2 y0 y1 y2 hS lb lbn
            intro wq hq
            obtain ⟨x, y, ex, ey, ⟨x0, x1, x2⟩, ⟨y0, y1, y2⟩, fz, PW, PZ⟩ := hq.sw (i := j) (j := jp) LJ.out.2.1 LJ.out.1
            have PW := Lib.hid PW
            have PZ := Lib.hid PZ
            clear hq ex ey
            (refine wp_region_until (fun Z : World => Z.cell? ⟨b, j * 3, none⟩ = some (.int .i64 x.k) ∧ Z.cell? ⟨b, j * 3 + 1, none⟩ = some (.int .i64 x.n) ∧ Z.cell? ⟨b, j * 3 + 2, none⟩ = some (.string x.s) ∧ Z.cell? ⟨b, jp * 3, none⟩ = some (.int .i64 y.k) ∧ Z.cell? ⟨b, jp * 3 + 1, none⟩ = some (.int .i64 y.n) ∧ Z.cell? ⟨b, jp * 3 + 2, none⟩ = some (.string y.s)) [15, 17] Try.mixed (by exact ⟨x0, x1, x2, y0, y1, y2⟩) (fun hS => ?_); (refine wpAnyU_free (i := 0) (v := ?_) rfl (by kernel_rfl) (by kernel_rfl) (by kernel_rfl) (by kernel_rfl) (fun _ _ _ h => h) ?_ (fun _ => by assumption) ?_; rotate_left; (next => (refine Or.inl ⟨by kernel_rfl, ?_⟩; ((intro w hSw; (try dsimp only at hSw); go_simp) <;> with_reducible rfl))); (try simp only [Act.put, List.setIfInBounds_toArray, List.set_cons_zero, List.set_cons_succ])); (refine wpAnyU_free (i := 1) (v := ?_) rfl (by kernel_rfl) (by kernel_rfl) (by kernel_rfl) (by kernel_rfl) (fun _ _ _ h => h) ?_ (fun _ => by assumption) ?_; rotate_left; (next => (refine Or.inl ⟨by kernel_rfl, ?_⟩; ((intro w hSw; (try dsimp only at hSw); go_simp) <;> with_reducible rfl))); (try simp only [Act.put, List.setIfInBounds_toArray, List.set_cons_zero, List.set_cons_succ])); (refine wpAnyU_free (i := 2) (v := ?_) rfl (by kernel_rfl) (by kernel_rfl) (by kernel_rfl) (by kernel_rfl) (fun _ _ _ h => h) ?_ (fun _ => by assumption) ?_; rotate_left; (next => (refine Or.inl ⟨by kernel_rfl, ?_⟩; ((intro w hSw; (try dsimp only at hSw); go_simp) <;> with_reducible rfl))); (try simp only [Act.put, List.setIfInBounds_toArray, List.set_cons_zero, List.set_cons_succ])); (refine wpAnyU_free (i := 3) (v := ?_) rfl (by kernel_rfl) (by kernel_rfl) (by kernel_rfl) (by kernel_rfl) (fun _ _ _ h => h) ?_ (fun _ => by assumption) ?_; rotate_left; (next => (refine Or.inl ⟨by kernel_rfl, ?_⟩; ((intro w hSw; (try dsimp only at hSw); go_simp) <;> with_reducible rfl))); (try simp only [Act.put, List.setIfInBounds_toArray, List.set_cons_zero, List.set_cons_succ])); (refine wpAnyU_free (i := 4) (v := ?_) rfl (by kernel_rfl) (by kernel_rfl) (by kernel_rfl) (by kernel_rfl) (fun _ _ _ h => h) ?_ (fun _ => by assumption) ?_; rotate_left; (next => (refine Or.inl ⟨by kernel_rfl, ?_⟩; ((intro w hSw; (try dsimp only at hSw); go_simp) <;> with_reducible rfl))); (try simp only [Act.put, List.setIfInBounds_toArray, List.set_cons_zero, List.set_cons_succ])); (refine wpAnyU_free (i := 5) (v := ?_) rfl (by kernel_rfl) (by kernel_rfl) (by kernel_rfl) (by kernel_rfl) (fun _ _ _ h => h) ?_ (fun _ => by assumption) ?_; rotate_left; (next => (refine Or.inl ⟨by kernel_rfl, ?_⟩; ((intro w hSw; (try dsimp only at hSw); go_simp) <;> with_reducible rfl))); (try simp only [Act.put, List.setIfInBounds_toArray, List.set_cons_zero, List.set_cons_succ])); (refine wpAnyU_free (i := 6) (v := ?_) rfl (by kernel_rfl) (by kernel_rfl) (by kernel_rfl) (by kernel_rfl) (fun _ _ _ h => h) ?_ (fun _ => by assumption) ?_; rotate_left; (next => (refine Or.inl ⟨by kernel_rfl, ?_⟩; ((intro w hSw; (try dsimp only at hSw); go_simp) <;> with_reducible rfl))); (try simp only [Act.put, List.setIfInBounds_toArray, List.set_cons_zero, List.set_cons_succ])); (refine wpAnyU_free (i := 7) (v := ?_) rfl (by kernel_rfl) (by kernel_rfl) (by kernel_rfl) (by kernel_rfl) (fun _ _ _ h => h) ?_ (fun _ => by assumption) ?_; rotate_left; (next => (refine Or.inl ⟨by kernel_rfl, ?_⟩; ((intro w hSw; (try dsimp only at hSw); go_simp) <;> with_reducible rfl))); (try simp only [Act.put, List.setIfInBounds_toArray, List.set_cons_zero, List.set_cons_succ])); (refine wpAnyU_free (i := 8) (v := ?_) rfl (by kernel_rfl) (by kernel_rfl) (by kernel_rfl) (by kernel_rfl) (fun _ _ _ h => h) ?_ (fun _ => by assumption) ?_; rotate_left; (next => (refine Or.inl ⟨by kernel_rfl, ?_⟩; ((intro w hSw; (try dsimp only at hSw); go_simp) <;> with_reducible rfl))); (try simp only [Act.put, List.setIfInBounds_toArray, List.set_cons_zero, List.set_cons_succ])); (refine wpAnyU_take (i := 9) (v := ?_) rfl (by kernel_rfl) (by kernel_rfl) (by kernel_rfl) (by kernel_rfl) (fun _ _ _ h => h) ?_ (by assumption) ?_; rotate_left; (next => (refine Or.inl ⟨by kernel_rfl, ?_⟩; ((intro w hSw; (try dsimp only at hSw); obtain ⟨s0, s1, s2, s3, s4, s5⟩ := hSw; go_simp) <;> with_reducible rfl))); (try simp only [Act.put, List.setIfInBounds_toArray, List.set_cons_zero, List.set_cons_succ])); (refine wpAnyU_free (i := 10) (v := ?_) rfl (by kernel_rfl) (by kernel_rfl) (by kernel_rfl) (by kernel_rfl) (fun _ _ _ h => h) ?_ (fun _ => by assumption) ?_; rotate_left; (next => (refine Or.inl ⟨by kernel_rfl, ?_⟩; ((intro w hSw; (try dsimp only at hSw); go_simp) <;> with_reducible rfl))); (try simp only [Act.put, List.setIfInBounds_toArray, List.set_cons_zero, List.set_cons_succ])); (refine wpAnyU_free (i := 11) (v := ?_) rfl (by kernel_rfl) (by kernel_rfl) (by kernel_rfl) (by kernel_rfl) (fun _ _ _ h => h) ?_ (fun _ => by assumption) ?_; rotate_left; (next => (refine Or.inl ⟨by kernel_rfl, ?_⟩; ((intro w hSw; (try dsimp only at hSw); go_simp) <;> with_reducible rfl))); (try simp only [Act.put, List.setIfInBounds_toArray, List.set_cons_zero, List.set_cons_succ])); (refine wpAnyU_free (i := 12) (v := ?_) rfl (by kernel_rfl) (by kernel_rfl) (by kernel_rfl) (by kernel_rfl) (fun _ _ _ h => h) ?_ (fun _ => by assumption) ?_; rotate_left; (next => (refine Or.inl ⟨by kernel_rfl, ?_⟩; ((intro w hSw; (try dsimp only at hSw); go_simp) <;> with_reducible rfl))); (try simp only [Act.put, List.setIfInBounds_toArray, List.set_cons_zero, List.set_cons_succ])); (refine wpAnyU_take (i := 13) (v := ?_) rfl (by kernel_rfl) (by kernel_rfl) (by kernel_rfl) (by kernel_rfl) (fun _ _ _ h => h) ?_ (by assumption) ?_; rotate_left; (next => (refine Or.inl ⟨by kernel_rfl, ?_⟩; ((intro w hSw; (try dsimp only at hSw); obtain ⟨s0, s1, s2, s3, s4, s5⟩ := hSw; go_simp) <;> with_reducible rfl))); (try simp only [Act.put, List.setIfInBounds_toArray, List.set_cons_zero, List.set_cons_succ])); (refine wpAnyU_free (i := 14) (v := ?_) rfl (by kernel_rfl) (by kernel_rfl) (by kernel_rfl) (by kernel_rfl) (fun _ _ _ h => h) ?_ (fun _ => by assumption) ?_; rotate_left; (next => (refine Or.inl ⟨by kernel_rfl, ?_⟩; ((intro w hSw; (try dsimp only at hSw); go_simp) <;> with_reducible rfl))); (try simp only [Act.put, List.setIfInBounds_toArray, List.set_cons_zero, List.set_cons_succ])); refine wpAnyU_one (i := 15) (by kernel_rfl) rfl (fun K hK => ?_); have HK := Lib.hid hK; clear hK; go_simp; refine HK.out _ _ (fun h => absurd h (by decide)) ?_; clear HK K; (try simp only [Act.put, List.setIfInBounds_toArray, List.set_cons_zero, List.set_cons_succ]); refine wpAnyU_world (fun Z => SrtW w0 b cap (List.set (Y) j y) Z) PW.out ?_; intro Z hZ; obtain ⟨⟨⟨z0, z1, z2⟩, zf⟩, hY⟩ := PZ.out Z hZ; have PY := Lib.hid hY; clear hZ hY PW PZ x0 x1 x2 y0 y1 y2 fz hS; (refine wpAnyU_free (i := 16) (v := ?_) rfl (by kernel_rfl) (by kernel_rfl) (by kernel_rfl) (by kernel_rfl) (fun _ _ _ h => h) ?_ (fun h => absurd h (by decide)) ?_; rotate_left; (next => (refine Or.inl ⟨by kernel_rfl, ?_⟩; ((intro w hSw; (try dsimp only at hSw); go_simp) <;> with_reducible rfl))); (try simp only [Act.put, List.setIfInBounds_toArray, List.set_cons_zero, List.set_cons_succ])); refine wpAnyU_one (i := 17) (by kernel_rfl) rfl (fun K hK => ?_); have HK := Lib.hid hK; clear hK; go_simp; refine HK.out _ _ (fun h => absurd h (by decide)) ?_; clear HK K; (try simp only [Act.put, List.setIfInBounds_toArray, List.set_cons_zero, List.set_cons_succ]); refine wpAnyU_done (by kernel_rfl) ?_ _)
            go_simp
            go_wp2
            go_roundw
            case rel => exact ⟨jp, swL Y j jp, by first | with_reducible rfl | rw [f2], Lib.hid ⟨GO.out, PY.out⟩⟩
            case measure => ((try rw [f2]); exact meas_dn LJ.out.2.2)
          · have ST := Lib.hid (ST.out (by rw [hlk]; exact decide_eq_false hc))
            clear GO hlk
            go_upto_region 4 with fail
            (refine wp_region_held_drew (S := (fun Z : World => b < Z.heap.size ∧ Z.cell? ⟨b, j * 3, none⟩ = some (.int .i64 x.k) ∧ Z.cell? ⟨b, j * 3 + 1, none⟩ = some (.int .i64 x.n) ∧ Z.cell? ⟨b, j * 3 + 2, none⟩ = some (.string x.s) ∧ Z.cell? ⟨b, jp * 3, none⟩ = some (.int .i64 y.k) ∧ Z.cell? ⟨b, jp * 3 + 1, none⟩ = some (.int .i64 y.n) ∧ Z.cell? ⟨b, jp * 3 + 2, none⟩ = some (.string y.s))) Try.mixed (by (and_intros <;> go_simp)) (fun hS => ?_); (refine wpAnyH_take (i := 0) (v := ?_) rfl (by kernel_rfl) (by kernel_rfl) (by kernel_rfl) (fun _ _ _ h => h) ?_ (by assumption) ?_; rotate_left; (next => (refine Or.inl ⟨by kernel_rfl, ?_⟩; ((intro w hSw; (try dsimp only at hSw); go_simp) <;> with_reducible rfl))); (try simp only [Act.put, List.setIfInBounds_toArray, List.set_cons_zero, List.set_cons_succ])); (refine wpAnyH_take (i := 1) (v := ?_) rfl (by kernel_rfl) (by kernel_rfl) (by kernel_rfl) (fun _ _ _ h => h) ?_ (by assumption) ?_; rotate_left; (next => (refine Or.inl ⟨by kernel_rfl, ?_⟩; ((intro w hSw; (try dsimp only at hSw); go_simp) <;> with_reducible rfl))); (try simp only [Act.put, List.setIfInBounds_toArray, List.set_cons_zero, List.set_cons_succ])); (refine wpAnyH_take (i := 2) (v := ?_) rfl (by kernel_rfl) (by kernel_rfl) (by kernel_rfl) (fun _ _ _ h => h) ?_ (by assumption) ?_; rotate_left; (next => (refine Or.inl ⟨by kernel_rfl, ?_⟩; ((intro w hSw; (try dsimp only at hSw); go_simp) <;> with_reducible rfl))); (try simp only [Act.put, List.setIfInBounds_toArray, List.set_cons_zero, List.set_cons_succ])); (refine wpAnyH_take (i := 3) (v := ?_) rfl (by kernel_rfl) (by kernel_rfl) (by kernel_rfl) (fun _ _ _ h => h) ?_ (by assumption) ?_; rotate_left; (next => (refine Or.inl ⟨by kernel_rfl, ?_⟩; ((intro w hSw; (try dsimp only at hSw); go_simp) <;> with_reducible rfl))); (try simp only [Act.put, List.setIfInBounds_toArray, List.set_cons_zero, List.set_cons_succ])); (refine wpAnyH_take (i := 4) (v := ?_) rfl (by kernel_rfl) (by kernel_rfl) (by kernel_rfl) (fun _ _ _ h => h) ?_ (by assumption) ?_; rotate_left; (next => (refine Or.inl ⟨by kernel_rfl, ?_⟩; ((intro w hSw; (try dsimp only at hSw); go_simp) <;> with_reducible rfl))); (try simp only [Act.put, List.setIfInBounds_toArray, List.set_cons_zero, List.set_cons_succ])); (refine wpAnyH_take (i := 5) (v := ?_) rfl (by kernel_rfl) (by kernel_rfl) (by kernel_rfl) (fun _ _ _ h => h) ?_ (by assumption) ?_; rotate_left; (next => (refine Or.inl ⟨by kernel_rfl, ?_⟩; ((intro w hSw; (try dsimp only at hSw); go_simp) <;> with_reducible rfl))); (try simp only [Act.put, List.setIfInBounds_toArray, List.set_cons_zero, List.set_cons_succ])); (refine wpAnyH_take (i := 6) (v := ?_) rfl (by kernel_rfl) (by kernel_rfl) (by kernel_rfl) (fun _ _ _ h => h) ?_ (by assumption) ?_; rotate_left; (next => (refine Or.inl ⟨by kernel_rfl, ?_⟩; ((intro w hSw; (try dsimp only at hSw); go_simp) <;> with_reducible rfl))); (try simp only [Act.put, List.setIfInBounds_toArray, List.set_cons_zero, List.set_cons_succ])); (refine wpAnyH_take (i := 7) (v := ?_) rfl (by kernel_rfl) (by kernel_rfl) (by kernel_rfl) (fun _ _ _ h => h) ?_ (by assumption) ?_; rotate_left; (next => (refine Or.inl ⟨by kernel_rfl, ?_⟩; ((intro w hSw; (try dsimp only at hSw); go_simp) <;> with_reducible rfl))); (try simp only [Act.put, List.setIfInBounds_toArray, List.set_cons_zero, List.set_cons_succ])); (refine wpAnyH_take (i := 8) (v := ?_) rfl (by kernel_rfl) (by kernel_rfl) (by kernel_rfl) (fun _ _ _ h => h) ?_ (by assumption) ?_; rotate_left; (next => (refine Or.inl ⟨by kernel_rfl, ?_⟩; ((intro w hSw; (try dsimp only at hSw); obtain ⟨sb, s0, s1, s2, s3, s4, s5⟩ := hSw; go_simp) <;> with_reducible rfl))); (try simp only [Act.put, List.setIfInBounds_toArray, List.set_cons_zero, List.set_cons_succ])); (refine wpAnyH_take (i := 9) (v := ?_) rfl (by kernel_rfl) (by kernel_rfl) (by kernel_rfl) (fun _ _ _ h => h) ?_ (by assumption) ?_; rotate_left; (next => (refine Or.inl ⟨by kernel_rfl, ?_⟩; ((intro w hSw; (try dsimp only at hSw); go_simp) <;> with_reducible rfl))); (try simp only [Act.put, List.setIfInBounds_toArray, List.set_cons_zero, List.set_cons_succ])); (refine wpAnyH_take (i := 10) (v := ?_) rfl (by kernel_rfl) (by kernel_rfl) (by kernel_rfl) (fun _ _ _ h => h) ?_ (by assumption) ?_; rotate_left; (next => (refine Or.inl ⟨by kernel_rfl, ?_⟩; ((intro w hSw; (try dsimp only at hSw); go_simp) <;> with_reducible rfl))); (try simp only [Act.put, List.setIfInBounds_toArray, List.set_cons_zero, List.set_cons_succ])); (refine wpAnyH_take (i := 11) (v := ?_) rfl (by kernel_rfl) (by kernel_rfl) (by kernel_rfl) (fun _ _ _ h => h) ?_ (by assumption) ?_; rotate_left; (next => (refine Or.inl ⟨by kernel_rfl, ?_⟩; ((intro w hSw; (try dsimp only at hSw); go_simp) <;> with_reducible rfl))); (try simp only [Act.put, List.setIfInBounds_toArray, List.set_cons_zero, List.set_cons_succ])); (refine wpAnyH_take (i := 12) (v := ?_) rfl (by kernel_rfl) (by kernel_rfl) (by kernel_rfl) (fun _ _ _ h => h) ?_ (by assumption) ?_; rotate_left; (next => (refine Or.inl ⟨by kernel_rfl, ?_⟩; ((intro w hSw; (try dsimp only at hSw); go_simp) <;> with_reducible rfl))); (try simp only [Act.put, List.setIfInBounds_toArray, List.set_cons_zero, List.set_cons_succ])); (refine wpAnyH_take (i := 13) (v := ?_) rfl (by kernel_rfl) (by kernel_rfl) (by kernel_rfl) (fun _ _ _ h => h) ?_ (by assumption) ?_; rotate_left; (next => (refine Or.inl ⟨by kernel_rfl, ?_⟩; ((intro w hSw; (try dsimp only at hSw); obtain ⟨sb, s0, s1, s2, s3, s4, s5⟩ := hSw; go_simp) <;> with_reducible rfl))); (try simp only [Act.put, List.setIfInBounds_toArray, List.set_cons_zero, List.set_cons_succ])); refine wpAnyH_ready (rs := [14]) (by kernel_rfl) (by simp) ?_; refine AllReadyH.cons rfl (fun K hK => ?_) AllReadyH.nil; go_simp; ((go_at_call 58; refine (callGr (order_any x y _)).mono ?_; rintro e w' ⟨pp, rfl, rfl⟩)); refine hK.out _ _ (by (and_intros <;> go_simp)) (fun hS => ?_); clear hK K; (try simp only [Act.put, List.setIfInBounds_toArray, List.set_cons_zero, List.set_cons_succ]); (refine wpAnyH_take (i := 15) (v := ?_) rfl (by kernel_rfl) (by kernel_rfl) (by kernel_rfl) (fun _ _ _ h => h) ?_ (by assumption) ?_; rotate_left; (next => (refine Or.inl ⟨by kernel_rfl, ?_⟩; ((intro w hSw; (try dsimp only at hSw); go_simp) <;> with_reducible rfl))); (try simp only [Act.put, List.setIfInBounds_toArray, List.set_cons_zero, List.set_cons_succ])); (refine wpAnyH_take (i := 16) (v := ?_) rfl (by kernel_rfl) (by kernel_rfl) (by kernel_rfl) (fun _ _ _ h => h) ?_ (by assumption) ?_; rotate_left; (next => (refine Or.inl ⟨by kernel_rfl, ?_⟩; ((intro w hSw; (try dsimp only at hSw); go_simp) <;> with_reducible rfl))); (try simp only [Act.put, List.setIfInBounds_toArray, List.set_cons_zero, List.set_cons_succ])); refine wpAnyH_done (by kernel_rfl) ?_ _)
            go_simp
            go_wp2
            go_roundw
            case rel => exact ⟨i1, Y, by rw [ei], Lib.hid ⟨by rw [I1.out.1]; exact ST.out, HJ.out.2.gr _⟩⟩
            case measure => (rw [ei]; exact meas_up I1.out.1 LT.out)
        · have g0 : ¬ (a : Int) < (j : Int) := by omega
          have ST := Lib.hid (HJ.out.1.stop LT.out (.inl (by omega)))
          clear hja l1 l2 l3 l4
          go_upto_region 4 with fail
          (refine wp_region_held_drew (S := (fun _ : World => True)) Try.mixed (by trivial) (fun hS => ?_); (refine wpAnyH_take (i := 0) (v := ?_) rfl (by kernel_rfl) (by kernel_rfl) (by kernel_rfl) (fun _ _ _ h => h) ?_ (by assumption) ?_; rotate_left; (next => (refine Or.inl ⟨by kernel_rfl, ?_⟩; ((intro w hSw; (try dsimp only at hSw); go_simp) <;> with_reducible rfl))); (try simp only [Act.put, List.setIfInBounds_toArray, List.set_cons_zero, List.set_cons_succ])); (refine wpAnyH_take (i := 1) (v := ?_) rfl (by kernel_rfl) (by kernel_rfl) (by kernel_rfl) (fun _ _ _ h => h) ?_ (by assumption) ?_; rotate_left; (next => (refine Or.inl ⟨by kernel_rfl, ?_⟩; ((intro w hSw; (try dsimp only at hSw); go_simp) <;> with_reducible rfl))); (try simp only [Act.put, List.setIfInBounds_toArray, List.set_cons_zero, List.set_cons_succ])); (refine wpAnyH_take (i := 2) (v := ?_) rfl (by kernel_rfl) (by kernel_rfl) (by kernel_rfl) (fun _ _ _ h => h) ?_ (by assumption) ?_; rotate_left; (next => (refine Or.inl ⟨by kernel_rfl, ?_⟩; ((intro w hSw; (try dsimp only at hSw); go_simp) <;> with_reducible rfl))); (try simp only [Act.put, List.setIfInBounds_toArray, List.set_cons_zero, List.set_cons_succ])); (refine wpAnyH_take (i := 3) (v := ?_) rfl (by kernel_rfl) (by kernel_rfl) (by kernel_rfl) (fun _ _ _ h => h) ?_ (by assumption) ?_; rotate_left; (next => (refine Or.inl ⟨by kernel_rfl, ?_⟩; ((intro w hSw; (try dsimp only at hSw); go_simp) <;> with_reducible rfl))); (try simp only [Act.put, List.setIfInBounds_toArray, List.set_cons_zero, List.set_cons_succ])); (refine wpAnyH_take (i := 4) (v := ?_) rfl (by kernel_rfl) (by kernel_rfl) (by kernel_rfl) (fun _ _ _ h => h) ?_ (by assumption) ?_; rotate_left; (next => (refine Or.inr ⟨by kernel_rfl, ?_⟩; with_reducible rfl)); (try simp only [Act.put, List.setIfInBounds_toArray, List.set_cons_zero, List.set_cons_succ])); (refine wpAnyH_take (i := 5) (v := ?_) rfl (by kernel_rfl) (by kernel_rfl) (by kernel_rfl) (fun _ _ _ h => h) ?_ (by assumption) ?_; rotate_left; (next => (refine Or.inr ⟨by kernel_rfl, ?_⟩; with_reducible rfl)); (try simp only [Act.put, List.setIfInBounds_toArray, List.set_cons_zero, List.set_cons_succ])); (refine wpAnyH_take (i := 6) (v := ?_) rfl (by kernel_rfl) (by kernel_rfl) (by kernel_rfl) (fun _ _ _ h => h) ?_ (by assumption) ?_; rotate_left; (next => (refine Or.inr ⟨by kernel_rfl, ?_⟩; with_reducible rfl)); (try simp only [Act.put, List.setIfInBounds_toArray, List.set_cons_zero, List.set_cons_succ])); (refine wpAnyH_take (i := 7) (v := ?_) rfl (by kernel_rfl) (by kernel_rfl) (by kernel_rfl) (fun _ _ _ h => h) ?_ (by assumption) ?_; rotate_left; (next => (refine Or.inr ⟨by kernel_rfl, ?_⟩; with_reducible rfl)); (try simp only [Act.put, List.setIfInBounds_toArray, List.set_cons_zero, List.set_cons_succ])); (refine wpAnyH_take (i := 8) (v := ?_) rfl (by kernel_rfl) (by kernel_rfl) (by kernel_rfl) (fun _ _ _ h => h) ?_ (by assumption) ?_; rotate_left; (next => (refine Or.inr ⟨by kernel_rfl, ?_⟩; with_reducible rfl)); (try simp only [Act.put, List.setIfInBounds_toArray, List.set_cons_zero, List.set_cons_succ])); (refine wpAnyH_take (i := 9) (v := ?_) rfl (by kernel_rfl) (by kernel_rfl) (by kernel_rfl) (fun _ _ _ h => h) ?_ (by assumption) ?_; rotate_left; (next => (refine Or.inr ⟨by kernel_rfl, ?_⟩; with_reducible rfl)); (try simp only [Act.put, List.setIfInBounds_toArray, List.set_cons_zero, List.set_cons_succ])); (refine wpAnyH_take (i := 10) (v := ?_) rfl (by kernel_rfl) (by kernel_rfl) (by kernel_rfl) (fun _ _ _ h => h) ?_ (by assumption) ?_; rotate_left; (next => (refine Or.inr ⟨by kernel_rfl, ?_⟩; with_reducible rfl)); (try simp only [Act.put, List.setIfInBounds_toArray, List.set_cons_zero, List.set_cons_succ])); (refine wpAnyH_take (i := 11) (v := ?_) rfl (by kernel_rfl) (by kernel_rfl) (by kernel_rfl) (fun _ _ _ h => h) ?_ (by assumption) ?_; rotate_left; (next => (refine Or.inr ⟨by kernel_rfl, ?_⟩; with_reducible rfl)); (try simp only [Act.put, List.setIfInBounds_toArray, List.set_cons_zero, List.set_cons_succ])); (refine wpAnyH_take (i := 12) (v := ?_) rfl (by kernel_rfl) (by kernel_rfl) (by kernel_rfl) (fun _ _ _ h => h) ?_ (by assumption) ?_; rotate_left; (next => (refine Or.inr ⟨by kernel_rfl, ?_⟩; with_reducible rfl)); (try simp only [Act.put, List.setIfInBounds_toArray, List.set_cons_zero, List.set_cons_succ])); (refine wpAnyH_take (i := 13) (v := ?_) rfl (by kernel_rfl) (by kernel_rfl) (by kernel_rfl) (fun _ _ _ h => h) ?_ (by assumption) ?_; rotate_left; (next => (refine Or.inr ⟨by kernel_rfl, ?_⟩; with_reducible rfl)); (try simp only [Act.put, List.setIfInBounds_toArray, List.set_cons_zero, List.set_cons_succ])); refine wpAnyH_ready (rs := [14]) (by kernel_rfl) (by simp) ?_; refine AllReadyH.cons rfl (fun K hK => ?_) AllReadyH.nil; go_simp; (skip); refine hK.out _ _ (by trivial) (fun hS => ?_); clear hK K; (try simp only [Act.put, List.setIfInBounds_toArray, List.set_cons_zero, List.set_cons_succ]); (refine wpAnyH_take (i := 15) (v := ?_) rfl (by kernel_rfl) (by kernel_rfl) (by kernel_rfl) (fun _ _ _ h => h) ?_ (by assumption) ?_; rotate_left; (next => (refine Or.inr ⟨by kernel_rfl, ?_⟩; with_reducible rfl)); (try simp only [Act.put, List.setIfInBounds_toArray, List.set_cons_zero, List.set_cons_succ])); (refine wpAnyH_take (i := 16) (v := ?_) rfl (by kernel_rfl) (by kernel_rfl) (by kernel_rfl) (fun _ _ _ h => h) ?_ (by assumption) ?_; rotate_left; (next => (refine Or.inl ⟨by kernel_rfl, ?_⟩; ((intro w hSw; (try dsimp only at hSw); go_simp) <;> with_reducible rfl))); (try simp only [Act.put, List.setIfInBounds_toArray, List.set_cons_zero, List.set_cons_succ])); refine wpAnyH_done (by kernel_rfl) ?_ _)
          go_simp
          go_wp2
          go_roundw
          case rel => exact ⟨i1, Y, by rw [ei], Lib.hid ⟨by rw [I1.out.1]; exact ST.out, HJ.out.2.drew⟩⟩
          case measure => (rw [ei]; exact meas_up I1.out.1 LT.out)
    · have q0 : ¬ (i : Int) < (e : Int) := by omega
      have DN := Lib.hid (HI.out.1.done BN.out.2.2.2 hlt)
      clear hlt
      go_wp2
      go_end0
      exact ⟨rfl, L, DN.out, HI.out.2⟩
end Go.Proofs.Ytippimonpdeioaa
