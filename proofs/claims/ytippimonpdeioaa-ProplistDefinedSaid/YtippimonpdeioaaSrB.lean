/- The library's stable sort: rotate. -/
import Derived.Test.YtippimonpdeioaaSrA
namespace Go.Proofs.Ytippimonpdeioaa
set_option linter.all false
open Go.ChangeShapes Go.WideShapes Go.ChangeAt Go.RowKit Go.Sort Go.Deep

theorem swL_at {xs : List Val} {i j : Nat} (hi : i < xs.length) (hj : j < xs.length) (t : Nat) : (swL xs i j)[t]? = if t = j then xs[i]? else if t = i then xs[j]? else xs[t]? := by
  unfold swL
  rw [List.getElem?_set, List.getElem?_set, List.length_set, kAt_lt hi, kAt_lt hj]
  by_cases h1 : t = j
  · subst h1
    simp [hj]
  · by_cases h2 : t = i
    · subst h2
      have h1' : ¬ j = t := fun h => h1 h.symm
      simp [h1, h1', hi]
    · have h1' : ¬ j = t := fun h => h1 h.symm
      have h2' : ¬ i = t := fun h => h2 h.symm
      simp [h1, h1', h2, h2']
theorem swsL_at {xs : List Val} {p q : Nat} : ∀ (n : Nat), p + n ≤ q → q + n ≤ xs.length → ∀ t, (swsL xs p q n)[t]? = if p ≤ t ∧ t < p + n then xs[q + (t - p)]? else if q ≤ t ∧ t < q + n then xs[p + (t - q)]? else xs[t]?
  | 0, _, _, t => by
    rw [if_neg (by omega), if_neg (by omega)]
    rfl
  | n + 1, h, hq, t => by
    have ih := swsL_at (xs := xs) (p := p) (q := q) n (by omega) (by omega)
    have hl := swsL_len xs p q n
    rw [swsL, swL_at (by omega) (by omega), ih, ih, ih]
    clear ih hl
    repeat' split
    all_goals first | rfl | (exfalso; omega) | (congr 1; omega)
theorem app5_at (A U M V B : List Val) (t : Nat) : (A ++ (U ++ (M ++ (V ++ B))))[t]? = if t < A.length then A[t]? else if t < A.length + U.length then U[t - A.length]? else if t < A.length + U.length + M.length then M[t - A.length - U.length]? else
    if t < A.length + U.length + M.length + V.length then V[t - A.length - U.length - M.length]? else B[t - A.length - U.length - M.length - V.length]? := by
  rw [List.getElem?_append]
  split
  · rfl
  · rw [List.getElem?_append]
    by_cases h1 : t - A.length < U.length
    · rw [if_pos h1, if_pos (by omega)]
    · rw [if_neg h1, if_neg (by omega), List.getElem?_append]
      by_cases h2 : t - A.length - U.length < M.length
      · rw [if_pos h2, if_pos (by omega)]
      · rw [if_neg h2, if_neg (by omega), List.getElem?_append]
        by_cases h3 : t - A.length - U.length - M.length < V.length
        · rw [if_pos h3, if_pos (by omega)]
        · rw [if_neg h3, if_neg (by omega)]
/-- two stretches of one length exchanged -/
theorem swsL_app (A U M V B : List Val) (h : U.length = V.length) : swsL (A ++ (U ++ (M ++ (V ++ B)))) A.length (A.length + U.length + M.length) U.length = A ++ (V ++ (M ++ (U ++ B))) := by
  refine List.ext_getElem? fun t => ?_
  rw [swsL_at _ (by omega) (by simp only [List.length_append]; omega), app5_at, app5_at, app5_at, app5_at]
  by_cases h0 : t < A.length
  · rw [if_neg (by omega), if_neg (by omega), if_pos h0, if_pos h0]
  · by_cases h1 : t < A.length + U.length
    · rw [if_pos (by omega), if_neg (by omega), if_neg (by omega), if_neg (by omega), if_pos (by omega), if_neg h0, if_pos (by omega)]
      congr 1
      omega
    · rw [if_neg (by omega)]
      by_cases h2 : t < A.length + U.length + M.length
      · rw [if_neg (by omega), if_neg h0, if_neg h1, if_pos h2, if_neg h0, if_neg (by omega), if_pos (by omega)]
        congr 1
        omega
      · by_cases h3 : t < A.length + U.length + M.length + U.length
        · rw [if_pos (by omega), if_neg (by omega), if_pos (by omega), if_neg h0, if_neg (by omega), if_neg (by omega), if_pos (by omega)]
          congr 1
          omega
        · rw [if_neg (by omega), if_neg h0, if_neg h1, if_neg h2, if_neg (by omega), if_neg h0, if_neg (by omega), if_neg (by omega), if_neg (by omega)]
          congr 1
          omega
/-- .. next to each other -/
theorem swsL_app2 (A U V B : List Val) (h : U.length = V.length) : swsL (A ++ (U ++ (V ++ B))) A.length (A.length + U.length) U.length = A ++ (V ++ (U ++ B)) := by
  have := swsL_app A U [] V B h
  simpa using this

/-- what the rotation has reached: the stretches U, V that are still to be exchanged -/
def RotI (T : List Val) (m i j : Nat) (L : List Val) : Prop := ∃ A U V B : List Val, L = A ++ (U ++ (V ++ B)) ∧ T = A ++ (V ++ (U ++ B)) ∧ U.length = i ∧ V.length = j ∧ A.length + i = m ∧ 0 < i ∧ 0 < j
theorem RotI.gt {T L : List Val} {m i j : Nat} (h : RotI T m i j L) (hij : j < i) : RotI T m (i - j) j (swsL L (m - i) m j) ∧ m - i + j ≤ m ∧ m + j ≤ L.length := by
  obtain ⟨A, U, V, B, rfl, rfl, hU, hV, hA, h0, h1⟩ := h
  have e : U = U.take j ++ U.drop j := (List.take_append_drop j U).symm
  have l1 : (U.take j).length = j := by rw [List.length_take]; omega
  have l2 : (U.drop j).length = i - j := by rw [List.length_drop]; omega
  have key := swsL_app A (U.take j) (U.drop j) V B (by omega)
  rw [l1, l2] at key
  refine ⟨⟨A ++ V, U.drop j, U.take j, B, ?_, ?_, l2, l1, by rw [List.length_append]; omega, by omega, h1⟩, by omega, by simp only [List.length_append]; omega⟩
  · have e2 : A ++ (U ++ (V ++ B)) = A ++ (U.take j ++ (U.drop j ++ (V ++ B))) := by rw [← List.append_assoc (U.take j), ← e]
    rw [e2, show m - i = A.length by omega, show m = A.length + j + (i - j) by omega, key, List.append_assoc]
  · rw [List.append_assoc, ← List.append_assoc (U.take j), ← e]
theorem RotI.lt {T L : List Val} {m i j : Nat} (h : RotI T m i j L) (hij : i < j) : RotI T m i (j - i) (swsL L (m - i) (m + j - i) i) ∧ m - i + i ≤ m ∧ m + j - i + i ≤ L.length := by
  obtain ⟨A, U, V, B, rfl, rfl, hU, hV, hA, h0, h1⟩ := h
  have e : V = V.take (j - i) ++ V.drop (j - i) := (List.take_append_drop _ V).symm
  have l1 : (V.take (j - i)).length = j - i := by rw [List.length_take]; omega
  have l2 : (V.drop (j - i)).length = i := by rw [List.length_drop]; omega
  have key := swsL_app A U (V.take (j - i)) (V.drop (j - i)) B (by omega)
  rw [l1, hU] at key
  refine ⟨⟨A, V.drop (j - i), V.take (j - i), U ++ B, ?_, ?_, l2, l1, hA, h0, by omega⟩, by omega, by simp only [List.length_append]; omega⟩
  · have e2 : A ++ (U ++ (V ++ B)) = A ++ (U ++ (V.take (j - i) ++ (V.drop (j - i) ++ B))) := by rw [← List.append_assoc (V.take (j - i)), ← e]
    rw [e2, show m - i = A.length by omega, show m + j - i = A.length + i + (j - i) by omega, key]
  · rw [← List.append_assoc (V.take (j - i)), ← e]
theorem RotI.eq {T L : List Val} {m i : Nat} (h : RotI T m i i L) : swsL L (m - i) m i = T ∧ m - i + i ≤ m ∧ m + i ≤ L.length := by
  obtain ⟨A, U, V, B, rfl, rfl, hU, hV, hA, h0, h1⟩ := h
  have key := swsL_app2 A U V B (by omega)
  rw [hU] at key
  refine ⟨?_, by omega, by simp only [List.length_append]; omega⟩
  rw [show m - i = A.length by omega, show m = A.length + i by omega, key]
theorem RotI.len {T L : List Val} {m i j : Nat} (h : RotI T m i j L) : T.length = L.length ∧ i ≤ m ∧ m + j ≤ L.length ∧ 0 < i ∧ 0 < j := by
  obtain ⟨A, U, V, B, rfl, rfl, hU, hV, hA, h0, h1⟩ := h
  refine ⟨by simp only [List.length_append]; omega, by omega, by simp only [List.length_append]; omega, h0, h1⟩

theorem w64 {n : Int} {k : Nat} (h : n = k) (hk : k ≤ 9223372036854775807) : wrap64 n = (k : Int) := by
  subst h
  unfold wrap64
  omega
theorem RotI.gt' {T L : List Val} {m i j : Nat} (h : RotI T m i j L) (hij : j < i) (hm : L.length ≤ maxLen) : ∃ p k : Nat, wrap64 ((m : Int) - (i : Int)) = (p : Int) ∧ wrap64 ((i : Int) - (j : Int)) = (k : Int) ∧ ¬ (i : Int) = (j : Int) ∧ (j : Int) < (i : Int) ∧
    Hid (RotI T m k j (swsL L p m j) ∧ p + j ≤ L.length ∧ m + j ≤ L.length ∧ k + j < i + j) := by
  obtain ⟨h1, h2, h3, h4, h5⟩ := h.len
  obtain ⟨hR, b1, b2⟩ := h.gt hij
  unfold maxLen at hm
  exact ⟨m - i, i - j, w64 (by omega) (by omega), w64 (by omega) (by omega), by omega, by omega, Lib.hid ⟨hR, by omega, by omega, by omega⟩⟩
theorem RotI.lt' {T L : List Val} {m i j : Nat} (h : RotI T m i j L) (hij : i < j) (hm : L.length ≤ maxLen) : ∃ p q s k : Nat, wrap64 ((m : Int) - (i : Int)) = (p : Int) ∧ wrap64 ((m : Int) + (j : Int)) = (s : Int) ∧ wrap64 ((s : Int) - (i : Int)) = (q : Int) ∧ wrap64 ((j : Int) - (i : Int)) = (k : Int) ∧ ¬ (i : Int) = (j : Int) ∧ ¬ (j : Int) < (i : Int) ∧
    Hid (RotI T m i k (swsL L p q i) ∧ p + i ≤ L.length ∧ q + i ≤ L.length ∧ i + k < i + j) := by
  obtain ⟨h1, h2, h3, h4, h5⟩ := h.len
  obtain ⟨hR, b1, b2⟩ := h.lt hij
  unfold maxLen at hm
  exact ⟨m - i, m + j - i, m + j, j - i, w64 (by omega) (by omega), w64 (by omega) (by omega), w64 (by omega) (by omega), w64 (by omega) (by omega), by omega, by omega, Lib.hid ⟨hR, by omega, by omega, by omega⟩⟩
theorem RotI.eq' {T L : List Val} {m i : Nat} (h : RotI T m i i L) (hm : L.length ≤ maxLen) : ∃ p : Nat, wrap64 ((m : Int) - (i : Int)) = (p : Int) ∧ Hid (swsL L p m i = T ∧ p + i ≤ L.length ∧ m + i ≤ L.length) := by
  obtain ⟨h1, h2, h3, h4, h5⟩ := h.len
  obtain ⟨hR, b1, b2⟩ := h.eq
  unfold maxLen at hm
  exact ⟨m - i, w64 (by omega) (by omega), Lib.hid ⟨hR, by omega, by omega⟩⟩

set_option maxRecDepth 100000 in
set_option maxHeartbeats 8000000 in
theorem rotate_any (w0 w : World) (b cap : Nat) (T L : List Val) (n p m e i0 j0 : Nat) (hn : n = L.length) (hi : p + i0 = m) (hj : m + j0 = e) (hR : RotI T m i0 j0 L) (hS : SrtW w0 b cap L w) :
    Calls Try.prog 73 #[.slice (some ⟨b, 0, none⟩) n cap, .int .i64 p, .int .i64 m, .int .i64 e, cmpV] w (SrtRet w0 b cap T) := by
  have hm := hS.le
  have hl := hR.len
  have e3 : wrap64 ((m : Int) - (p : Int)) = (i0 : Int) := w64 (by omega) (by unfold maxLen at hm; omega)
  have e4 : wrap64 ((e : Int) - (m : Int)) = (j0 : Int) := w64 (by omega) (by unfold maxLen at hm; omega)
  have SS := Lib.hid (And.intro hS hR)
  have BN := Lib.hid (And.intro hm hn)
  clear hS hR hl hm hi hj hn
  go_enter Try.func73, Try.ntmps73
  go_wp2
  go_loopw [10, 11] (fun x y wr => ∃ (i j : Nat) (X : List Val), x = .int .i64 i ∧ y = .int .i64 j ∧ Hid (X.length = L.length ∧ RotI T m i j X ∧ SrtW w0 b cap X wr)) (fun x y _ => (intOf x).toNat + (intOf y).toNat)
  case atStart => exact ⟨i0, j0, L, by first | with_reducible rfl | rw [e3], by first | with_reducible rfl | rw [e4], Lib.hid ⟨rfl, SS.out.2, SS.out.1⟩⟩
  case round =>
    obtain ⟨i, j, X, rfl, rfl, HX⟩ := hrel
    clear e3 e4
    rcases Nat.lt_trichotomy i j with hlt | rfl | hgt
    · obtain ⟨p1, q1, s1, k, f1, f2, f3, f4, f5, f6, FF⟩ := HX.out.2.1.lt' hlt (by rw [HX.out.1]; exact BN.out.1)
      have SR := Lib.hid (swapRange_any w0 wr b cap X p1 q1 i FF.out.2.1 FF.out.2.2.1 HX.out.2.2)
      rw [HX.out.1, ← BN.out.2] at SR
      have NX := Lib.hid (And.intro (show (swsL X p1 q1 i).length = L.length by rw [swsL_len, HX.out.1]) FF.out)
      generalize swsL X p1 q1 i = Y at SR NX
      clear hlt FF
      go_wp2_with (go_at_call 74; refine SR.out.mono ?_; rintro e w' ⟨rfl, hw'⟩; have HW := Lib.hid hw'; clear hw')
      go_roundw
      case rel => exact ⟨i, k, Y, rfl, by first | with_reducible rfl | rw [f4], Lib.hid ⟨NX.out.1, NX.out.2.1, HW.out⟩⟩
      case measure => have := NX.out.2.2.2.2; simp [intOf]; omega
    · obtain ⟨p1, f1, FF⟩ := HX.out.2.1.eq' (by rw [HX.out.1]; exact BN.out.1)
      have SR := Lib.hid (swapRange_any w0 wr b cap X p1 m i FF.out.2.1 FF.out.2.2 HX.out.2.2)
      rw [FF.out.1, HX.out.1, ← BN.out.2] at SR
      clear FF
      go_wp2_with (go_at_call 74; refine SR.out.mono ?_; rintro e w' ⟨rfl, hw'⟩; have HW := Lib.hid hw'; clear hw')
      go_end0
      exact ⟨rfl, HW.out⟩
    · obtain ⟨p1, k, f1, f2, f3, f4, FF⟩ := HX.out.2.1.gt' hgt (by rw [HX.out.1]; exact BN.out.1)
      have SR := Lib.hid (swapRange_any w0 wr b cap X p1 m j FF.out.2.1 FF.out.2.2.1 HX.out.2.2)
      rw [HX.out.1, ← BN.out.2] at SR
      have NX := Lib.hid (And.intro (show (swsL X p1 m j).length = L.length by rw [swsL_len, HX.out.1]) FF.out)
      generalize swsL X p1 m j = Y at SR NX
      clear hgt FF
      go_wp2_with (go_at_call 74; refine SR.out.mono ?_; rintro e w' ⟨rfl, hw'⟩; have HW := Lib.hid hw'; clear hw')
      go_roundw
      case rel => exact ⟨k, j, Y, by first | with_reducible rfl | rw [f2], rfl, Lib.hid ⟨NX.out.1, NX.out.2.1, HW.out⟩⟩
      case measure => have := NX.out.2.2.2.2; simp [intOf]; omega
end Go.Proofs.Ytippimonpdeioaa
