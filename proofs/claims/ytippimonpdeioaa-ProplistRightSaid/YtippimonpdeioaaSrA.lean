/- The library's stable sort over a row of keys that the call owns: the row's worlds, an exchange of two keys; swapRange. -/
import Derived.Test.YtippimonpdeioaaKeyL
import Derived.Test.YtippimonpdeioaaOwn
import Derived.Test.YtippimonpdeioaaUntil
namespace Go.Proofs.Ytippimonpdeioaa
set_option linter.all false
open Go.ChangeShapes Go.WideShapes Go.ChangeAt Go.RowKit Go.Sort Go.Deep

def kAt (xs : List Val) (i : Nat) : Val := xs.getD i .zero
theorem kAt_lt {xs : List Val} {i : Nat} (h : i < xs.length) : xs[i]? = some (kAt xs i) := by
  unfold kAt
  rw [List.getD_eq_getElem?_getD, List.getElem?_eq_getElem h]
  rfl
/-- xs with the keys at i and j exchanged -/
def swL (xs : List Val) (i j : Nat) : List Val := (xs.set i (kAt xs j)).set j (kAt xs i)
theorem swL_len (xs : List Val) (i j : Nat) : (swL xs i j).length = xs.length := by simp [swL]
theorem flat_set3 : ∀ (xs : List Val) (i : Nat) (x : Val), i < xs.length → (((flat Val.cs xs).set (i * 3) (.int .i64 x.k)).set (i * 3 + 1) (.int .i64 x.n)).set (i * 3 + 2) (.string x.s) = flat Val.cs (xs.set i x)
  | a :: xs, 0, x, _ => by simp [flat, Val.cs]
  | a :: xs, i + 1, x, h => by
    have ih := flat_set3 xs i x (by simpa using h)
    have e0 : (i + 1) * 3 = i * 3 + 3 := by omega
    simp only [flat, List.flatMap_cons, List.set_cons_succ, Val.cs, List.cons_append, List.nil_append] at ih ⊢
    rw [← ih]
    have e1 : (i + 1) * 3 = i * 3 + 1 + 1 + 1 := by omega
    rw [e1]
    simp only [List.set_cons_succ, Nat.succ_add]

/-- a key's cells at place o of block b -/
abbrev at3 (w : World) (b o : Nat) (x : Val) : World := ((w.setCell ⟨b, o, none⟩ (.int .i64 x.k)).setCell ⟨b, o + 1, none⟩ (.int .i64 x.n)).setCell ⟨b, o + 2, none⟩ (.string x.s)

/-- W holds the keys xs in block b, whose size is cap; all else is w0's, or new -/
def SrtW (w0 : World) (b cap : Nat) (xs : List Val) (W : World) : Prop :=
  Touch (fun k => k = b) w0 W ∧ b < w0.heap.size ∧ xs.length ≤ cap ∧ cap ≤ maxLen ∧ ∃ cur, W.heap[b]? = some (.cells cur 24 (0, 0)) ∧ cur.size = cap * 3 ∧ cur.toList.take (xs.length * 3) = flat Val.cs xs
theorem SrtW.own {w0 W : World} {b cap : Nat} {xs : List Val} (h : SrtW w0 b cap xs W) {lo : Nat} (hl : lo ≤ b) : W.ownsRow lo 24 3 (.slice (some ⟨b, 0, none⟩) xs.length cap) xs.length (flat Val.cs xs) := by
  obtain ⟨_, _, hc, hm, cur, hg, hs, ht⟩ := h
  exact ⟨flat_len cs_len xs, .inr ⟨b, cap, cur, rfl, hl, hg, hc, hm, hs, ht⟩⟩
theorem SrtW.start {w : World} {lo b cap : Nat} {xs : List Val} (h : w.ownsRow lo 24 3 (.slice (some ⟨b, 0, none⟩) xs.length cap) xs.length (flat Val.cs xs)) : SrtW w b cap xs w := by
  rcases h.2 with ⟨h0, _⟩ | ⟨g, cap', cur, e, hb, hg, hc, hm, hs, ht⟩
  · cases h0
  · simp only [Value.slice.injEq, Option.some.injEq, Addr.mk.injEq, true_and, and_true] at e
    obtain ⟨rfl, rfl⟩ := e
    exact ⟨Touch.refl _ _, (Array.getElem?_eq_some_iff.1 hg).1, hc, hm, cur, hg, hs, ht⟩
theorem SrtW.le {w0 W : World} {b cap : Nat} {xs : List Val} (h : SrtW w0 b cap xs W) : xs.length ≤ maxLen := Nat.le_trans h.2.2.1 h.2.2.2.1
theorem SrtW.lt {w0 W : World} {b cap : Nat} {xs : List Val} (h : SrtW w0 b cap xs W) : b < W.heap.size := Nat.lt_of_lt_of_le h.2.1 h.1.size
theorem SrtW.drew {w0 W : World} {b cap : Nat} {xs : List Val} (h : SrtW w0 b cap xs W) : SrtW w0 b cap xs W.drew := ⟨h.1.drew, h.2⟩
theorem SrtW.below {w0 W W' : World} {b cap : Nat} {xs : List Val} (h : SrtW w0 b cap xs W) (hb : Below W.heap.size W W') : SrtW w0 b cap xs W' := by
  have hl := h.lt
  obtain ⟨h1, h2, h3, h4, cur, hg, hs, ht⟩ := h
  exact ⟨h1.trans (G := fun _ => False) (Touch.of_below hb) fun _ _ h => h.elim, h2, h3, h4, cur, (hb.block b hl).trans hg, hs, ht⟩
theorem SrtW.gr {w0 W : World} {b cap : Nat} {xs : List Val} (h : SrtW w0 b cap xs W) (p : Regrown) : SrtW w0 b cap xs (gr W p) := h.below (below_gr W p)
/-- what a walk reads -/
theorem SrtW.at_ {w0 W : World} {b cap : Nat} {xs : List Val} (h : SrtW w0 b cap xs W) {i : Nat} (hi : i < xs.length) :
    W.cell? ⟨b, i * 3, none⟩ = some (.int .i64 (kAt xs i).k) ∧ W.cell? ⟨b, i * 3 + 1, none⟩ = some (.int .i64 (kAt xs i).n) ∧ W.cell? ⟨b, i * 3 + 2, none⟩ = some (.string (kAt xs i).s) := by
  have hx := (ownsRow_slOf cs_len (h.own (Nat.zero_le _))).at_ (by omega)
  obtain ⟨b', off, cap', e, _, _, hx⟩ := hx
  simp only [Value.slice.injEq, Option.some.injEq, Addr.mk.injEq, true_and, and_true] at e
  obtain ⟨⟨rfl, rfl⟩, rfl⟩ := e
  have f := fun j u hu => hx i _ (kAt_lt hi) j u hu
  have f0 := f 0 _ rfl
  have f1 := f 1 _ rfl
  have f2 := f 2 _ rfl
  rw [Nat.zero_add] at f0 f1 f2
  exact ⟨f0, f1, f2⟩
theorem SrtW.fz {w0 W : World} {b cap : Nat} {xs : List Val} (h : SrtW w0 b cap xs W) (o : Nat) : W.frozen? ⟨b, o, none⟩ = false := by
  obtain ⟨_, _, _, _, cur, hg, _⟩ := h
  exact frozen_of_row W b o cur _ hg
/-- a key laid at i -/
theorem SrtW.put {w0 W : World} {b cap : Nat} {xs : List Val} (h : SrtW w0 b cap xs W) {i : Nat} (hi : i < xs.length) (x : Val) : SrtW w0 b cap (xs.set i x) (at3 W b (i * 3) x) := by
  obtain ⟨h1, h2, h3, h4, cur, hg, hs, ht⟩ := h
  refine ⟨((h1.set1 _ _).set1 _ _).set1 _ _, h2, by simpa using h3, h4, _, heap_setCell_same _ b _ _ 24 _ (heap_setCell_same _ b _ _ 24 _ (heap_setCell_same W b _ _ 24 _ hg)), by simpa using hs, ?_⟩
  rw [Array.toList_setIfInBounds, Array.toList_setIfInBounds, Array.toList_setIfInBounds, List.take_set, List.take_set, List.take_set, List.length_set, ht]
  exact flat_set3 xs i x hi
/-- two keys exchanged -/
theorem SrtW.swap {w0 W : World} {b cap : Nat} {xs : List Val} (h : SrtW w0 b cap xs W) {i j : Nat} (hi : i < xs.length) (hj : j < xs.length) : SrtW w0 b cap (swL xs i j) (at3 (at3 W b (i * 3) (kAt xs j)) b (j * 3) (kAt xs i)) :=
  (h.put hi _).put (by simpa using hj) _

theorem kAt_set {xs : List Val} {i j : Nat} (hi : i < xs.length) (x : Val) : kAt (xs.set i x) j = if i = j then x else kAt xs j := by
  unfold kAt
  rw [List.getD_eq_getElem?_getD, List.getD_eq_getElem?_getD, List.getElem?_set]
  split
  · rename_i e
    subst e
    first | rfl | (rw [if_pos hi]; rfl)
  · rfl
/-- all that an exchange asks of the world -/
theorem SrtW.sw {w0 W : World} {b cap : Nat} {L : List Val} (h : SrtW w0 b cap L W) {i j : Nat} (hi : i < L.length) (hj : j < L.length) : ∃ x y : Val, x = kAt L i ∧ y = kAt L j ∧
    (W.cell? ⟨b, i * 3, none⟩ = some (.int .i64 x.k) ∧ W.cell? ⟨b, i * 3 + 1, none⟩ = some (.int .i64 x.n) ∧ W.cell? ⟨b, i * 3 + 2, none⟩ = some (.string x.s)) ∧
    (W.cell? ⟨b, j * 3, none⟩ = some (.int .i64 y.k) ∧ W.cell? ⟨b, j * 3 + 1, none⟩ = some (.int .i64 y.n) ∧ W.cell? ⟨b, j * 3 + 2, none⟩ = some (.string y.s)) ∧ (∀ o, W.frozen? ⟨b, o, none⟩ = false) ∧
    SrtW w0 b cap (L.set i y) (at3 W b (i * 3) y).drew ∧
    ∀ Z, SrtW w0 b cap (L.set i y) Z → ((Z.cell? ⟨b, j * 3, none⟩ = some (.int .i64 y.k) ∧ Z.cell? ⟨b, j * 3 + 1, none⟩ = some (.int .i64 y.n) ∧ Z.cell? ⟨b, j * 3 + 2, none⟩ = some (.string y.s)) ∧ ∀ o, Z.frozen? ⟨b, o, none⟩ = false) ∧ SrtW w0 b cap (swL L i j) (at3 Z b (j * 3) x) := by
  refine ⟨_, _, rfl, rfl, h.at_ hi, h.at_ hj, h.fz, (h.put hi _).drew, fun Z hZ => ⟨⟨?_, hZ.fz⟩, hZ.put (by simpa using hj) _⟩⟩
  have hz := hZ.at_ (i := j) (by simpa using hj)
  rw [kAt_set hi] at hz
  split at hz
  · rename_i e
    subst e
    exact hz
  · exact hz
theorem wpAnyU_world {P : Program} {md : Region.Mode} {ops : Array Oper} {Q : Exit → Act → World → Prop} {S : World → Prop} {R : List Nat} {f : Nat} {l : Array Bool} {a : Act} {w : World} (C : World → Prop) (hC : C w) (h : ∀ w', C w' → wpAnyU P md ops Q S R f l a w') : wpAnyU P md ops Q S R f l a w := h w hC

/-- n exchanges of the keys from p and from q on -/
def swsL (xs : List Val) (p q : Nat) : Nat → List Val
  | 0 => xs
  | k + 1 => swL (swsL xs p q k) (p + k) (q + k)
theorem swsL_len (xs : List Val) (p q : Nat) : ∀ n, (swsL xs p q n).length = xs.length
  | 0 => rfl
  | k + 1 => by rw [swsL, swL_len, swsL_len xs p q k]
abbrev cmpV : Value := .func (.func 58) #[] #[]
def SrtRet (w0 : World) (b cap : Nat) (xs : List Val) : Ending → World → Prop := fun e w' => e = .returned (.tuple #[]) ∧ SrtW w0 b cap xs w'

set_option maxRecDepth 100000 in
set_option maxHeartbeats 8000000 in
theorem swapRange_any (w0 w : World) (b cap : Nat) (xs : List Val) (p q n : Nat) (hp : p + n ≤ xs.length) (hq : q + n ≤ xs.length) (hS : SrtW w0 b cap xs w) :
    Calls Try.prog 74 #[.slice (some ⟨b, 0, none⟩) xs.length cap, .int .i64 p, .int .i64 q, .int .i64 n, cmpV] w (SrtRet w0 b cap (swsL xs p q n)) := by
  have hm := hS.le
  unfold maxLen at hm
  have SS := Lib.hid hS
  clear hS
  go_enter Try.func74, Try.ntmps74
  go_wp2
  go_loopw [10] (fun i wr => ∃ k : Nat, k ≤ n ∧ i = .int .i64 k ∧ SrtW w0 b cap (swsL xs p q k) wr) (fun i _ => n - (intOf i).toNat)
  case atStart => exact ⟨0, by omega, rfl, SS.out⟩
  case round =>
    obtain ⟨k, hk, rfl, hW⟩ := hrel
    have HW := Lib.hid hW
    by_cases hlt : k < n
    · have hl := swsL_len xs p q k
      have q0 : (k : Int) < (n : Int) := by omega
      obtain ⟨i, hi⟩ : ∃ i : Nat, i = p + k := ⟨_, rfl⟩
      obtain ⟨j, hj⟩ : ∃ j : Nat, j = q + k := ⟨_, rfl⟩
      have ei : IntKind.i64.wrap ((p : Int) + (k : Int)) = (i : Int) := by rw [IntKind.wrap_i64]; omega
      have ej : IntKind.i64.wrap ((q : Int) + (k : Int)) = (j : Int) := by rw [IntKind.wrap_i64]; omega
      have b1 : (i : Int) < (xs.length : Int) := by omega
      have b2 : (j : Int) < (xs.length : Int) := by omega
      have b3 : ¬ (i : Int) < 0 := by omega
      have b4 : ¬ (j : Int) < 0 := by omega
      have EQ := Lib.hid (show swsL xs p q (k + 1) = swL (swsL xs p q k) i j by rw [swsL, hi, hj])
      obtain ⟨x, y, ex, ey, ⟨x0, x1, x2⟩, ⟨y0, y1, y2⟩, fz, PW, PZ⟩ := hW.sw (i := i) (j := j) (by omega) (by omega)
      have PW := Lib.hid PW
      have PZ := Lib.hid PZ
      clear hi hj hW hl ex ey
      go_upto_region 3 with fail
      (refine wp_region_until (fun Z : World => Z.cell? ⟨b, i * 3, none⟩ = some (.int .i64 x.k) ∧ Z.cell? ⟨b, i * 3 + 1, none⟩ = some (.int .i64 x.n) ∧ Z.cell? ⟨b, i * 3 + 2, none⟩ = some (.string x.s) ∧ Z.cell? ⟨b, j * 3, none⟩ = some (.int .i64 y.k) ∧ Z.cell? ⟨b, j * 3 + 1, none⟩ = some (.int .i64 y.n) ∧ Z.cell? ⟨b, j * 3 + 2, none⟩ = some (.string y.s)) [21, 23] Try.mixed (by exact ⟨x0, x1, x2, y0, y1, y2⟩) (fun hS => ?_); (refine wpAnyU_free (i := 0) (v := ?_) rfl (by kernel_rfl) (by kernel_rfl) (by kernel_rfl) (by kernel_rfl) (fun _ _ _ h => h) ?_ (fun _ => by assumption) ?_; rotate_left; (next => (refine Or.inl ⟨by kernel_rfl, ?_⟩; ((intro w hSw; (try dsimp only at hSw); go_simp) <;> with_reducible rfl))); (try simp only [Act.put, List.setIfInBounds_toArray, List.set_cons_zero, List.set_cons_succ])); (refine wpAnyU_free (i := 1) (v := ?_) rfl (by kernel_rfl) (by kernel_rfl) (by kernel_rfl) (by kernel_rfl) (fun _ _ _ h => h) ?_ (fun _ => by assumption) ?_; rotate_left; (next => (refine Or.inl ⟨by kernel_rfl, ?_⟩; ((intro w hSw; (try dsimp only at hSw); go_simp) <;> with_reducible rfl))); (try simp only [Act.put, List.setIfInBounds_toArray, List.set_cons_zero, List.set_cons_succ])); (refine wpAnyU_free (i := 2) (v := ?_) rfl (by kernel_rfl) (by kernel_rfl) (by kernel_rfl) (by kernel_rfl) (fun _ _ _ h => h) ?_ (fun _ => by assumption) ?_; rotate_left; (next => (refine Or.inl ⟨by kernel_rfl, ?_⟩; ((intro w hSw; (try dsimp only at hSw); go_simp) <;> with_reducible rfl))); (try simp only [Act.put, List.setIfInBounds_toArray, List.set_cons_zero, List.set_cons_succ])); (refine wpAnyU_free (i := 3) (v := ?_) rfl (by kernel_rfl) (by kernel_rfl) (by kernel_rfl) (by kernel_rfl) (fun _ _ _ h => h) ?_ (fun _ => by assumption) ?_; rotate_left; (next => (refine Or.inl ⟨by kernel_rfl, ?_⟩; ((intro w hSw; (try dsimp only at hSw); go_simp) <;> with_reducible rfl))); (try simp only [Act.put, List.setIfInBounds_toArray, List.set_cons_zero, List.set_cons_succ])); (refine wpAnyU_free (i := 4) (v := ?_) rfl (by kernel_rfl) (by kernel_rfl) (by kernel_rfl) (by kernel_rfl) (fun _ _ _ h => h) ?_ (fun _ => by assumption) ?_; rotate_left; (next => (refine Or.inl ⟨by kernel_rfl, ?_⟩; ((intro w hSw; (try dsimp only at hSw); go_simp) <;> with_reducible rfl))); (try simp only [Act.put, List.setIfInBounds_toArray, List.set_cons_zero, List.set_cons_succ])); (refine wpAnyU_free (i := 5) (v := ?_) rfl (by kernel_rfl) (by kernel_rfl) (by kernel_rfl) (by kernel_rfl) (fun _ _ _ h => h) ?_ (fun _ => by assumption) ?_; rotate_left; (next => (refine Or.inl ⟨by kernel_rfl, ?_⟩; ((intro w hSw; (try dsimp only at hSw); go_simp) <;> with_reducible rfl))); (try simp only [Act.put, List.setIfInBounds_toArray, List.set_cons_zero, List.set_cons_succ])); (refine wpAnyU_free (i := 6) (v := ?_) rfl (by kernel_rfl) (by kernel_rfl) (by kernel_rfl) (by kernel_rfl) (fun _ _ _ h => h) ?_ (fun _ => by assumption) ?_; rotate_left; (next => (refine Or.inl ⟨by kernel_rfl, ?_⟩; ((intro w hSw; (try dsimp only at hSw); go_simp) <;> with_reducible rfl))); (try simp only [Act.put, List.setIfInBounds_toArray, List.set_cons_zero, List.set_cons_succ])); (refine wpAnyU_free (i := 7) (v := ?_) rfl (by kernel_rfl) (by kernel_rfl) (by kernel_rfl) (by kernel_rfl) (fun _ _ _ h => h) ?_ (fun _ => by assumption) ?_; rotate_left; (next => (refine Or.inl ⟨by kernel_rfl, ?_⟩; ((intro w hSw; (try dsimp only at hSw); go_simp) <;> with_reducible rfl))); (try simp only [Act.put, List.setIfInBounds_toArray, List.set_cons_zero, List.set_cons_succ])); (refine wpAnyU_free (i := 8) (v := ?_) rfl (by kernel_rfl) (by kernel_rfl) (by kernel_rfl) (by kernel_rfl) (fun _ _ _ h => h) ?_ (fun _ => by assumption) ?_; rotate_left; (next => (refine Or.inl ⟨by kernel_rfl, ?_⟩; ((intro w hSw; (try dsimp only at hSw); go_simp) <;> with_reducible rfl))); (try simp only [Act.put, List.setIfInBounds_toArray, List.set_cons_zero, List.set_cons_succ])); (refine wpAnyU_free (i := 9) (v := ?_) rfl (by kernel_rfl) (by kernel_rfl) (by kernel_rfl) (by kernel_rfl) (fun _ _ _ h => h) ?_ (fun _ => by assumption) ?_; rotate_left; (next => (refine Or.inl ⟨by kernel_rfl, ?_⟩; ((intro w hSw; (try dsimp only at hSw); go_simp) <;> with_reducible rfl))); (try simp only [Act.put, List.setIfInBounds_toArray, List.set_cons_zero, List.set_cons_succ])); (refine wpAnyU_free (i := 10) (v := ?_) rfl (by kernel_rfl) (by kernel_rfl) (by kernel_rfl) (by kernel_rfl) (fun _ _ _ h => h) ?_ (fun _ => by assumption) ?_; rotate_left; (next => (refine Or.inl ⟨by kernel_rfl, ?_⟩; ((intro w hSw; (try dsimp only at hSw); go_simp) <;> with_reducible rfl))); (try simp only [Act.put, List.setIfInBounds_toArray, List.set_cons_zero, List.set_cons_succ])); (refine wpAnyU_free (i := 11) (v := ?_) rfl (by kernel_rfl) (by kernel_rfl) (by kernel_rfl) (by kernel_rfl) (fun _ _ _ h => h) ?_ (fun _ => by assumption) ?_; rotate_left; (next => (refine Or.inl ⟨by kernel_rfl, ?_⟩; ((intro w hSw; (try dsimp only at hSw); go_simp) <;> with_reducible rfl))); (try simp only [Act.put, List.setIfInBounds_toArray, List.set_cons_zero, List.set_cons_succ])); (refine wpAnyU_free (i := 12) (v := ?_) rfl (by kernel_rfl) (by kernel_rfl) (by kernel_rfl) (by kernel_rfl) (fun _ _ _ h => h) ?_ (fun _ => by assumption) ?_; rotate_left; (next => (refine Or.inl ⟨by kernel_rfl, ?_⟩; ((intro w hSw; (try dsimp only at hSw); go_simp) <;> with_reducible rfl))); (try simp only [Act.put, List.setIfInBounds_toArray, List.set_cons_zero, List.set_cons_succ])); (refine wpAnyU_take (i := 13) (v := ?_) rfl (by kernel_rfl) (by kernel_rfl) (by kernel_rfl) (by kernel_rfl) (fun _ _ _ h => h) ?_ (by assumption) ?_; rotate_left; (next => (refine Or.inl ⟨by kernel_rfl, ?_⟩; ((intro w hSw; (try dsimp only at hSw); obtain ⟨s0, s1, s2, s3, s4, s5⟩ := hSw; go_simp) <;> with_reducible rfl))); (try simp only [Act.put, List.setIfInBounds_toArray, List.set_cons_zero, List.set_cons_succ])); (refine wpAnyU_free (i := 14) (v := ?_) rfl (by kernel_rfl) (by kernel_rfl) (by kernel_rfl) (by kernel_rfl) (fun _ _ _ h => h) ?_ (fun _ => by assumption) ?_; rotate_left; (next => (refine Or.inl ⟨by kernel_rfl, ?_⟩; ((intro w hSw; (try dsimp only at hSw); go_simp) <;> with_reducible rfl))); (try simp only [Act.put, List.setIfInBounds_toArray, List.set_cons_zero, List.set_cons_succ])); (refine wpAnyU_free (i := 15) (v := ?_) rfl (by kernel_rfl) (by kernel_rfl) (by kernel_rfl) (by kernel_rfl) (fun _ _ _ h => h) ?_ (fun _ => by assumption) ?_; rotate_left; (next => (refine Or.inl ⟨by kernel_rfl, ?_⟩; ((intro w hSw; (try dsimp only at hSw); go_simp) <;> with_reducible rfl))); (try simp only [Act.put, List.setIfInBounds_toArray, List.set_cons_zero, List.set_cons_succ])); (refine wpAnyU_free (i := 16) (v := ?_) rfl (by kernel_rfl) (by kernel_rfl) (by kernel_rfl) (by kernel_rfl) (fun _ _ _ h => h) ?_ (fun _ => by assumption) ?_; rotate_left; (next => (refine Or.inl ⟨by kernel_rfl, ?_⟩; ((intro w hSw; (try dsimp only at hSw); go_simp) <;> with_reducible rfl))); (try simp only [Act.put, List.setIfInBounds_toArray, List.set_cons_zero, List.set_cons_succ])); (refine wpAnyU_free (i := 17) (v := ?_) rfl (by kernel_rfl) (by kernel_rfl) (by kernel_rfl) (by kernel_rfl) (fun _ _ _ h => h) ?_ (fun _ => by assumption) ?_; rotate_left; (next => (refine Or.inl ⟨by kernel_rfl, ?_⟩; ((intro w hSw; (try dsimp only at hSw); go_simp) <;> with_reducible rfl))); (try simp only [Act.put, List.setIfInBounds_toArray, List.set_cons_zero, List.set_cons_succ])); (refine wpAnyU_free (i := 18) (v := ?_) rfl (by kernel_rfl) (by kernel_rfl) (by kernel_rfl) (by kernel_rfl) (fun _ _ _ h => h) ?_ (fun _ => by assumption) ?_; rotate_left; (next => (refine Or.inl ⟨by kernel_rfl, ?_⟩; ((intro w hSw; (try dsimp only at hSw); go_simp) <;> with_reducible rfl))); (try simp only [Act.put, List.setIfInBounds_toArray, List.set_cons_zero, List.set_cons_succ])); (refine wpAnyU_take (i := 19) (v := ?_) rfl (by kernel_rfl) (by kernel_rfl) (by kernel_rfl) (by kernel_rfl) (fun _ _ _ h => h) ?_ (by assumption) ?_; rotate_left; (next => (refine Or.inl ⟨by kernel_rfl, ?_⟩; ((intro w hSw; (try dsimp only at hSw); obtain ⟨s0, s1, s2, s3, s4, s5⟩ := hSw; go_simp) <;> with_reducible rfl))); (try simp only [Act.put, List.setIfInBounds_toArray, List.set_cons_zero, List.set_cons_succ])); (refine wpAnyU_free (i := 20) (v := ?_) rfl (by kernel_rfl) (by kernel_rfl) (by kernel_rfl) (by kernel_rfl) (fun _ _ _ h => h) ?_ (fun _ => by assumption) ?_; rotate_left; (next => (refine Or.inl ⟨by kernel_rfl, ?_⟩; ((intro w hSw; (try dsimp only at hSw); go_simp) <;> with_reducible rfl))); (try simp only [Act.put, List.setIfInBounds_toArray, List.set_cons_zero, List.set_cons_succ])); refine wpAnyU_one (i := 21) (by kernel_rfl) rfl (fun K hK => ?_); have HK := Lib.hid hK; clear hK; go_simp; refine HK.out _ _ (fun h => absurd h (by decide)) ?_; clear HK K; (try simp only [Act.put, List.setIfInBounds_toArray, List.set_cons_zero, List.set_cons_succ]); refine wpAnyU_world (fun Z => SrtW w0 b cap (List.set (swsL xs p q k) i y) Z) PW.out ?_; intro Z hZ; obtain ⟨⟨⟨z0, z1, z2⟩, zf⟩, hY⟩ := PZ.out Z hZ; have PY := Lib.hid hY; clear hZ hY PW PZ x0 x1 x2 y0 y1 y2 fz hS; (refine wpAnyU_free (i := 22) (v := ?_) rfl (by kernel_rfl) (by kernel_rfl) (by kernel_rfl) (by kernel_rfl) (fun _ _ _ h => h) ?_ (fun h => absurd h (by decide)) ?_; rotate_left; (next => (refine Or.inl ⟨by kernel_rfl, ?_⟩; ((intro w hSw; (try dsimp only at hSw); go_simp) <;> with_reducible rfl))); (try simp only [Act.put, List.setIfInBounds_toArray, List.set_cons_zero, List.set_cons_succ])); refine wpAnyU_one (i := 23) (by kernel_rfl) rfl (fun K hK => ?_); have HK := Lib.hid hK; clear hK; go_simp; refine HK.out _ _ (fun h => absurd h (by decide)) ?_; clear HK K; (try simp only [Act.put, List.setIfInBounds_toArray, List.set_cons_zero, List.set_cons_succ]); refine wpAnyU_done (by kernel_rfl) ?_ _)
      go_simp
      go_wp2
      go_roundw
      case rel => exact ⟨k + 1, by omega, by go_num, by rw [EQ.out]; exact PY.out⟩
      case measure => simp [intOf]; omega
    · have q0 : ¬ (k : Int) < (n : Int) := by omega
      obtain rfl : k = n := by omega
      go_wp2
      go_end0
      exact ⟨rfl, HW.out⟩
end Go.Proofs.Ytippimonpdeioaa
