/- Property lists: Define and its reference agree. Property lists: the example of the laws. Property lists: the law ProplistDefines, walked. -/
import Derived.Test.YtippimonpdeioaaPmE
import Derived.Test.YtippimonpdeioaaPmC
import Derived.Test.YtippimonpdeioaaPmD
import Derived.Test.YtippimonpdeioaaDescS
import Derived.Test.YtippimonpdeioaaSrS
import Derived.Test.YtippimonpdeioaaDescH
namespace Go.Proofs.Ytippimonpdeioaa
set_option linter.all false
open Go.RowKit Go.Sort

theorem change_applyQ {p : Prp} {d : Dsc} (hd : rightR d = true) (hq : 0 ≤ p.a ∧ p.a < 16) (hqq : (bt p.a 8 && bt p.a 1) = false) (k : Val) : changeM p k d = applyT p k d := by
  obtain ⟨hh, haa, hda, h2, h3, _⟩ := rr1_of hd
  obtain ⟨m, hm, em⟩ := nat_of (n := 64) hh.1 hh.2
  obtain ⟨n, hn, en⟩ := nat_of (n := 8) haa.1 haa.2
  obtain ⟨q, hq', eqq⟩ := nat_of (n := 16) hq.1 hq.2
  obtain ⟨f1, f2, f4, f8, f16, f32, f3, f12, f63, _, _⟩ := fin_h m hm
  obtain ⟨g8, g1, g4, _⟩ := fin_q q hq'
  have hA := (fin_attr m hm n hn (ok_of hd em en) q hq' (by rw [okq, ← eqq, hqq]; rfl)).1
  rw [← em, ← en, ← eqq] at hA
  have eA : chA3 p d = aR p.a d.h d.a := hA
  have eI : chIs p d = isAcc p d := by rw [chIs, isAcc, eqq, em, f12, f3, g8]
  have hI : isAcc p d = true → bt d.h 1 = false := by
    intro h
    rw [isAcc, Bool.or_eq_true] at h
    rcases h with h | h
    · have hd' : dataR d.h = false := by rw [h] at hda; simpa using hda
      simp only [dataR, Bool.or_eq_false_iff] at hd'
      exact hd'.1
    · simp only [Bool.and_eq_true, Bool.not_eq_true', dataR, Bool.or_eq_false_iff] at h
      exact h.2.1
  have hI2 : isAcc p d = false → bt d.h 4 = false ∧ bt d.h 8 = false := by
    intro h
    simp only [isAcc, Bool.or_eq_false_iff, accR] at h
    exact h.1
  have w8 : (bits .and .i64 p.a 8 != 0) = bt p.a 8 := by rw [eqq]; exact g8
  have s1 : hs d.h 1 = bt d.h 1 := by rw [em]; exact f1
  have s4 : hs d.h 4 = bt d.h 4 := by rw [em]; exact f4
  have s8 : hs d.h 8 = bt d.h 8 := by rw [em]; exact f8
  have eo : outA (mkP p.a) (mkD d.h d.a) = outA p d := rfl
  have ei : isAcc (mkP p.a) (mkD d.h d.a) = isAcc p d := rfl
  have et : attrR (mkD d.h d.a) 2 1 = attrR d 2 1 := rfl
  rw [changeM, applyT, eA, aR, eI, eo, ei, et, w8, s1, s4, s8]
  cases hi : isAcc p d
  · obtain ⟨i1, i2⟩ := hI2 hi
    have hb : bt p.a 8 = true → bt d.h 1 = true ∨ bt d.h 2 = true := by
      intro h8
      simp only [isAcc, Bool.or_eq_false_iff, h8, Bool.true_and, Bool.not_eq_false', dataR, Bool.or_eq_true] at hi
      exact hi.2
    simp [i1, i2, pickR]
  · have i1 := hI hi
    simp [i1, pickR]

theorem bars_eqQ {p : Prp} {d : Dsc} (hd : rightR d = true) (hq : 0 ≤ p.a ∧ p.a < 16) (hqq : (bt p.a 8 && bt p.a 1) = false) : barsM p d = barsR p d := by
  obtain ⟨hh, haa, hda, h2, h3, _⟩ := rr1_of hd
  obtain ⟨m, hm, em⟩ := nat_of (n := 64) hh.1 hh.2
  obtain ⟨n, hn, en⟩ := nat_of (n := 8) haa.1 haa.2
  obtain ⟨q, hq', eqq⟩ := nat_of (n := 16) hq.1 hq.2
  obtain ⟨f1, f2, f4, f8, f16, f32, f3, f12, f63, _, _⟩ := fin_h m hm
  obtain ⟨a1, a2, a3, a4, a5, a6⟩ := fin_aq n hn q hq'
  rw [← em] at f1 f2 f4 f8 f16 f32 f3 f12
  rw [← en, ← eqq] at a3
  rw [← en] at a1 a2
  rw [← eqq] at a4 a5
  rw [barsM, barsR, f1, f2, f4, f8, f16, f32, f3, f12, a1, a2, a3, a4, a5]
  cases bt p.a 1 <;> simp [Bool.or_assoc]

theorem apply_eqQ {p : Prp} {d : Dsc} (hd : rightR d = true) (hq : 0 ≤ p.a ∧ p.a < 16) (hqq : (bt p.a 8 && bt p.a 1) = false) (has ext : Bool) (k : Val) : applyM p has ext k d = applyR p has ext k d := by
  obtain ⟨q, hq', eqq⟩ := nat_of (n := 16) hq.1 hq.2
  obtain ⟨_, _, g4, _⟩ := fin_q q hq'
  rw [← eqq] at g4
  rw [applyM, applyR, g4, bars_eqQ hd hq hqq, change_applyQ hd hq hqq, change_full hd]
theorem rgt_q {p : Prp} (h : rgtM p = true) : (0 ≤ p.a ∧ p.a < 16) ∧ (bt p.a 8 && bt p.a 1) = false := by
  rw [rgt_rone] at h
  unfold roneM at h
  simp only [Bool.and_eq_true, Bool.not_eq_true', decide_eq_false_iff_not] at h
  obtain ⟨⟨⟨_, h0⟩, h15⟩, h8⟩ := h
  refine ⟨by omega, ?_⟩
  have hr : p.a = 0 ∨ p.a = 1 ∨ p.a = 2 ∨ p.a = 3 ∨ p.a = 4 ∨ p.a = 5 ∨ p.a = 6 ∨ p.a = 7 ∨ p.a = 8 ∨ p.a = 9 ∨ p.a = 10 ∨ p.a = 11 ∨ p.a = 12 ∨ p.a = 13 ∨ p.a = 14 ∨ p.a = 15 := by omega
  by_cases h8' : 8 ≤ p.a
  · rw [if_pos h8'] at h8
    simp only [Bool.and_eq_true, beq_iff_eq] at h8
    have e2 := h8.1.1.1
    rcases hr with e | e | e | e | e | e | e | e | e | e | e | e | e | e | e | e <;> rw [e] at e2 ⊢ <;> first | decide | omega
  · rcases hr with e | e | e | e | e | e | e | e | e | e | e | e | e | e | e | e <;> first | omega | (rw [e]; decide)
theorem rightL_at {xs : List Prp} (h : rightL xs = true) {i : Nat} (hi : i < xs.length) : rgtM (pAt xs i) = true := by
  unfold rightL okTo at h
  simp only [Bool.and_eq_true, List.all_eq_true] at h
  exact (h.2 i (by simpa using hi)).1
theorem def_eq {xs : List Prp} {d : Dsc} (hd : rightR d = true) (hx : rightL xs = true) (ext : Bool) (k : Val) : defM xs ext k d = rdefM xs ext k d := by
  unfold defM rdefM
  cases hf : xs.findIdx? (keyIs k) with
  | none => simp only [apply_eqQ (p := .nil) hd (by decide) (by decide)]
  | some i =>
    obtain ⟨h1, h2⟩ := rgt_q (rightL_at hx (find_lt hf))
    have e := apply_eqQ (p := pAt xs i) hd h1 h2 true ext k
    simp only [← e]
    rfl
/-- the reference's Delete is the list's -/
theorem del_skip {xs : List Prp} {k : Val} : (xs.findIdx? (keyIs k) = none → findM xs k = -1 ∧ delM xs k = (skipL (-1) xs xs.length, true)) := by
  intro hf
  refine ⟨by unfold findM placeM; rw [hf], ?_⟩
  unfold delM
  rw [hf, skipL_no (Nat.le_refl _), List.take_length]
theorem del_skipS {xs : List Prp} {k : Val} {i : Nat} (hf : xs.findIdx? (keyIs k) = some i) : findM xs k = (i : Int) ∧ delM xs k = if bits .and .i64 (pAt xs i).a 4 == 0 then ([], false) else (skipL (i : Int) xs xs.length, true) := by
  refine ⟨by unfold findM placeM; rw [hf], ?_⟩
  unfold delM
  rw [hf, skipL_all (find_lt hf)]
end Go.Proofs.Ytippimonpdeioaa
namespace Go.Proofs.Ytippimonpdeioaa
set_option linter.all false
open Go.ChangeShapes Go.WideShapes Go.ChangeAt Go.RowKit Go.Sort Go.Deep

abbrev kA : Val := ⟨1, 0, ⟨#[97]⟩⟩
abbrev k5 : Val := ⟨0, 5, ⟨#[]⟩⟩
abbrev pA : Prp := ⟨kA, 7, ⟨3, 1, ⟨#[]⟩⟩, .zero, .zero⟩
abbrev p5 : Prp := ⟨k5, 7, ⟨3, 2, ⟨#[]⟩⟩, .zero, .zero⟩
theorem ex_def1 : defM [] true kA (valD 1) = ([pA], true) := by decide +kernel
theorem ex_def2 : defM [pA] true k5 (valD 2) = ([pA, p5], true) := by decide +kernel
theorem ex_del1 : delM [pA, p5] kA = ([p5], true) := by decide +kernel
theorem ex_del2 : delM (hardM [pA, p5] false) k5 = ([], false) := by decide +kernel
theorem ex_find : findM [pA, p5] k5 = 1 := by decide +kernel
theorem ex_keys : ([pA, p5].map (·.k)).filter keyM = [kA, k5] := by decide +kernel
theorem ex_order : StS [kA, k5] [k5, kA] := by
  refine ⟨List.pairwise_cons.2 ⟨fun y hy => ?_, by simp⟩, FlK.comm (P := [kA]) (Q := [k5]) fun x hx y hy => ?_⟩
  · simp only [List.mem_singleton] at hy
    subst hy
    show ltK kA k5 = false
    decide +kernel
  · simp only [List.mem_singleton] at hx hy
    subst hx hy
    decide +kernel
/-- two keys in a block of their own -/
theorem sl_two {w : World} {b : Nat} {x y : Val} {T : TypeId} (h : w.heap[b]? = some (.cells #[.int .i64 x.k, .int .i64 x.n, .string x.s, .int .i64 y.k, .int .i64 y.n, .string y.s] T)) : SlOf w 3 Val.cs (.slice (some ⟨b, 0, none⟩) 2 2) [x, y] := by
  refine ⟨by unfold maxLen; simp, some ⟨b, 0, none⟩, 2, rfl, Nat.le_refl _, fun _ => ⟨b, 0, rfl, (Array.getElem?_eq_some_iff.1 h).1, fun i z hz j u hu => ?_⟩⟩
  rw [cell_of_row w b _ _ _ _ h]
  match i, hz with
  | 0, hz =>
    simp only [List.getElem?_cons_zero, Option.some.injEq] at hz
    subst hz
    match j, hu with
    | 0, hu => simpa [Val.cs] using hu
    | 1, hu => simpa [Val.cs] using hu
    | 2, hu => simpa [Val.cs] using hu
    | j + 3, hu => simp [Val.cs] at hu
  | 1, hz =>
    simp only [List.getElem?_cons_succ, List.getElem?_cons_zero, Option.some.injEq] at hz
    subst hz
    match j, hu with
    | 0, hu => simpa [Val.cs] using hu
    | 1, hu => simpa [Val.cs] using hu
    | 2, hu => simpa [Val.cs] using hu
    | j + 3, hu => simp [Val.cs] at hu
  | i + 2, hz => simp at hz
/-- the lists of the example -/
def RetX (w : World) (m : Nat) (L : List Prp) (ok : Bool) : Ending → World → Prop := fun e w' => ∃ A n, e = .returned (.tuple #[.slice A m n, .bool ok]) ∧ OwnP w' w.heap.size (.slice A m n) L ∧ Below w.heap.size w w'
theorem ex_d1 (W : World) : Calls Try.prog 10 #[.slice none 0 0, .bool true, kA.agg, (valD 1).agg] W (RetX W 1 [pA] true) := by
  have := define_any (.slice none 0 0) [] true kA (valD 1) (by simp) W .nil_
  rw [ex_def1] at this
  exact this
theorem ex_d2 (W : World) (A : Option Addr) (n : Nat) (h : IsP W (.slice A 1 n) [pA]) : Calls Try.prog 10 #[.slice A 1 n, .bool true, k5.agg, (valD 2).agg] W (RetX W 2 [pA, p5] true) := by
  have := define_any (.slice A 1 n) [pA] true k5 (valD 2) (by simp) W h
  rw [ex_def2] at this
  exact this
theorem ex_e1 (W : World) (A : Option Addr) (n : Nat) (h : IsP W (.slice A 2 n) [pA, p5]) : Calls Try.prog 19 #[.slice A 2 n, kA.agg] W (RetX W 1 [p5] true) := by
  have := delete_any (.slice A 2 n) [pA, p5] kA (by simp) W h
  rw [ex_del1] at this
  exact this
theorem ex_e2 (W : World) (A : Option Addr) (n : Nat) (h : IsP W (.slice A 2 n) (hardM [pA, p5] false)) : Calls Try.prog 19 #[.slice A 2 n, k5.agg] W (RetX W 0 [] false) := by
  have := delete_any (.slice A 2 n) (hardM [pA, p5] false) k5 (by simp [hardM]) W h
  rw [ex_del2] at this
  exact this
theorem ex_h (W : World) (A : Option Addr) (n : Nat) (h : IsP W (.slice A 2 n) [pA, p5]) : Calls Try.prog 21 #[.slice A 2 n, .bool false] W (fun e w' => ∃ A n, e = .returned (.slice A 2 n) ∧ OwnP w' W.heap.size (.slice A 2 n) (hardM [pA, p5] false) ∧ Below W.heap.size W w') :=
  hard_any (.slice A 2 n) [pA, p5] false (by simp) W h
theorem ex_k (W : World) (A : Option Addr) (n : Nat) (h : IsP W (.slice A 2 n) [pA, p5]) : Calls Try.prog 25 #[.slice A 2 n] W (fun e w' => ∃ u, e = .returned u ∧ SlOf w' 3 Val.cs u [k5, kA] ∧ Below W.heap.size W w') := by
  refine (keys_any (.slice A 2 n) [pA, p5] (fun x hx => ?_) (by simp) W h).mono ?_
  · simp only [List.mem_cons, List.not_mem_nil, or_false] at hx
    rcases hx with rfl | rfl <;> exact ⟨by unfold i64ok; decide, by unfold i64ok; decide, by decide +kernel⟩
  · rintro e w' ⟨u, rfl, L, hL, ho, hb⟩
    rw [ex_keys] at hL
    have := hL.unique ex_order
    subst this
    exact ⟨u, rfl, ownsRow_slOf cs_len ho, hb⟩
theorem ex_f (W : World) (A : Option Addr) (n : Nat) (h : IsP W (.slice A 2 n) [pA, p5]) : Calls Try.prog 18 #[.slice A 2 n, k5.agg] W (fun e w' => e = .returned (.int .i64 1) ∧ Below W.heap.size W w') := by
  have := find_any (.slice A 2 n) [pA, p5] k5 (by simp) W h
  rwa [ex_find] at this

set_option maxRecDepth 100000 in
set_option maxHeartbeats 8000000 in
theorem goes_any (w : World) : Calls Try.prog 9 #[] w fun e w' => e = .returned (.bool true) ∧ Below w.heap.size w w' := by
  have D1 := Lib.hid ex_d1
  have D2 := Lib.hid ex_d2
  have E1 := Lib.hid ex_e1
  have E2 := Lib.hid ex_e2
  have H1 := Lib.hid ex_h
  have K1 := Lib.hid ex_k
  have F1 := Lib.hid ex_f
  go_enter Try.func9, Try.ntmps9
  go_upto_region 2 with fail
  refine wp_world4 (fun X => X.heap[w.heap.size]? = some (keyO kA) ∧ X.heap[w.heap.size + 1]? = some (keyO k5) ∧ Below w.heap.size w X) ⟨(heap_alloc_old _ _ (by simp)).trans (heap_alloc_new _ _), heap_new (by simp), by (repeat (with_reducible first | exact Below.refl _ _ | (refine bl_set ?_ (by first | omega | (simp; done) | (simp; omega)) _) | refine bl_gr ?_ _ | refine bl_al ?_ _ | refine below_setRow ?_ (by first | omega | (simp; done) | (simp; omega)) _ | refine bl_drewN ?_ _ | refine Below.drew ?_ | (refine bl_tr ?_ (by assumption))))⟩ ?_
  rintro X ⟨j0, j1, jb⟩
  have l0 := (Array.getElem?_eq_some_iff.1 j0).1
  have l1 := (Array.getElem?_eq_some_iff.1 j1).1
  have KD := Lib.hid (fun Z (h : Below X.heap.size X Z) => And.intro ((h.block _ l0).trans j0) ((h.block _ l1).trans j1))
  have BX := Lib.hid jb
  clear j0 j1 jb
  go_cut [3, 4] (fun l o Y => ∃ A n, l = .slice A 1 n ∧ o = .bool true ∧ IsP Y (.slice A 1 n) [pA] ∧ Below X.heap.size X Y)
  case first =>
    (refine wp_region_held_drew (S := (fun Z : World => Below X.heap.size X Z)) Try.mixed (by ((repeat (with_reducible first | exact R3.out | exact Below.refl _ _ | refine bl_rapp ?_ | (refine bl_set ?_ (by first | omega | (simp; done) | (simp; omega)) _) | refine bl_gr ?_ _ | refine bl_al ?_ _ | refine bl_drewN ?_ _ | refine Below.drew ?_)))) (fun hS => ?_); (refine wpAnyH_take (i := 0) (v := ?_) rfl (by kernel_rfl) (by kernel_rfl) (by kernel_rfl) (fun _ _ _ h => h) ?_ (by assumption) ?_; rotate_left; (next => (refine Or.inl ⟨by kernel_rfl, ?_⟩; ((intro w hSw; (try dsimp only at hSw); (obtain ⟨z0, z1⟩ := KD.out _ hSw; obtain ⟨⟨k0, k1, k2⟩, _⟩ := cells3k z0; obtain ⟨⟨f0, f1, f2⟩, _⟩ := cells3k z1; clear z0 z1); go_simp) <;> with_reducible rfl))); (try simp only [Act.put, List.setIfInBounds_toArray, List.set_cons_zero, List.set_cons_succ])); refine wpAnyH_ready (rs := [1]) (by kernel_rfl) (by simp) ?_; refine AllReadyH.cons rfl (fun K hK => ?_) AllReadyH.nil; go_simp; ((go_at_call 17; refine (callGr (value_any _ _)).mono ?_; rintro e w' ⟨pp, rfl, rfl⟩)); refine hK.out _ _ (by ((repeat (with_reducible first | exact R3.out | exact Below.refl _ _ | refine bl_rapp ?_ | (refine bl_set ?_ (by first | omega | (simp; done) | (simp; omega)) _) | refine bl_gr ?_ _ | refine bl_al ?_ _ | refine bl_drewN ?_ _ | refine Below.drew ?_)))) (fun hS => ?_); clear hK K; (try simp only [Act.put, List.setIfInBounds_toArray, List.set_cons_zero, List.set_cons_succ]); refine wpAnyH_ready (rs := [2]) (by kernel_rfl) (by simp) ?_; refine AllReadyH.cons rfl (fun K hK => ?_) AllReadyH.nil; go_simp; ((go_at_call 10; refine (D1.out _).mono ?_; rintro e w3 ⟨A3, n3, rfl, o3, b3⟩; have R3 := Lib.hid (show Below X.heap.size X w3 from bl_tr (by (repeat (with_reducible first  | exact Below.refl _ _ | refine bl_rapp ?_ | (refine bl_set ?_ (by first | omega | (simp; done) | (simp; omega)) _) | refine bl_gr ?_ _ | refine bl_al ?_ _ | refine bl_drewN ?_ _ | refine Below.drew ?_))) b3); have O3 := Lib.hid o3; clear o3 b3)); refine hK.out _ _ (by ((repeat (with_reducible first | exact R3.out | exact Below.refl _ _ | refine bl_rapp ?_ | (refine bl_set ?_ (by first | omega | (simp; done) | (simp; omega)) _) | refine bl_gr ?_ _ | refine bl_al ?_ _ | refine bl_drewN ?_ _ | refine Below.drew ?_)))) (fun hS => ?_); clear hK K; (try simp only [Act.put, List.setIfInBounds_toArray, List.set_cons_zero, List.set_cons_succ]); (refine wpAnyH_take (i := 3) (v := ?_) rfl (by kernel_rfl) (by kernel_rfl) (by kernel_rfl) (fun _ _ _ h => h) ?_ (by assumption) ?_; rotate_left; (next => (refine Or.inl ⟨by kernel_rfl, ?_⟩; ((intro w hSw; (try dsimp only at hSw); go_simp) <;> with_reducible rfl))); (try simp only [Act.put, List.setIfInBounds_toArray, List.set_cons_zero, List.set_cons_succ])); (refine wpAnyH_take (i := 4) (v := ?_) rfl (by kernel_rfl) (by kernel_rfl) (by kernel_rfl) (fun _ _ _ h => h) ?_ (by assumption) ?_; rotate_left; (next => (refine Or.inl ⟨by kernel_rfl, ?_⟩; ((intro w hSw; (try dsimp only at hSw); go_simp) <;> with_reducible rfl))); (try simp only [Act.put, List.setIfInBounds_toArray, List.set_cons_zero, List.set_cons_succ])); (refine wpAnyH_take (i := 5) (v := ?_) rfl (by kernel_rfl) (by kernel_rfl) (by kernel_rfl) (fun _ _ _ h => h) ?_ (by assumption) ?_; rotate_left; (next => (refine Or.inl ⟨by kernel_rfl, ?_⟩; ((intro w hSw; (try dsimp only at hSw); go_simp) <;> with_reducible rfl))); (try simp only [Act.put, List.setIfInBounds_toArray, List.set_cons_zero, List.set_cons_succ])); (refine wpAnyH_take (i := 6) (v := ?_) rfl (by kernel_rfl) (by kernel_rfl) (by kernel_rfl) (fun _ _ _ h => h) ?_ (by assumption) ?_; rotate_left; (next => (refine Or.inl ⟨by kernel_rfl, ?_⟩; ((intro w hSw; (try dsimp only at hSw); go_simp) <;> with_reducible rfl))); (try simp only [Act.put, List.setIfInBounds_toArray, List.set_cons_zero, List.set_cons_succ])); (refine wpAnyH_take (i := 7) (v := ?_) rfl (by kernel_rfl) (by kernel_rfl) (by kernel_rfl) (fun _ _ _ h => h) ?_ (by assumption) ?_; rotate_left; (next => (refine Or.inl ⟨by kernel_rfl, ?_⟩; ((intro w hSw; (try dsimp only at hSw); go_simp) <;> with_reducible rfl))); (try simp only [Act.put, List.setIfInBounds_toArray, List.set_cons_zero, List.set_cons_succ])); refine wpAnyH_done (by kernel_rfl) ?_ _)
    go_simp
    go_wp2_with fail
    go_meet
    exact ⟨A3, n3, rfl, rfl, O3.out.isP, R3.out⟩
  case rest =>
    obtain ⟨A1, n1, rfl, rfl, hP1, bY⟩ := hcut
    have BY := Lib.hid bY
    have P1 := Lib.hid hP1
    clear bY hP1
    go_upto_region 3 with fail
    go_cut [5, 6] (fun l o Y => ∃ A n, l = .slice A 2 n ∧ o = .bool true ∧ IsP Y (.slice A 2 n) [pA, p5] ∧ Below X.heap.size X Y)
    case first =>
      (refine wp_region_held_drew (S := (fun Z : World => Below X.heap.size X Z)) Try.mixed (by ((repeat (with_reducible first | exact R3.out | exact BY.out | exact Below.refl _ _ | refine bl_rapp ?_ | (refine bl_set ?_ (by first | omega | (simp; done) | (simp; omega)) _) | refine bl_gr ?_ _ | refine bl_al ?_ _ | refine bl_drewN ?_ _ | refine Below.drew ?_)))) (fun hS => ?_); (refine wpAnyH_take (i := 0) (v := ?_) rfl (by kernel_rfl) (by kernel_rfl) (by kernel_rfl) (fun _ _ _ h => h) ?_ (by assumption) ?_; rotate_left; (next => (refine Or.inl ⟨by kernel_rfl, ?_⟩; ((intro w hSw; (try dsimp only at hSw); go_simp) <;> with_reducible rfl))); (try simp only [Act.put, List.setIfInBounds_toArray, List.set_cons_zero, List.set_cons_succ])); (refine wpAnyH_take (i := 1) (v := ?_) rfl (by kernel_rfl) (by kernel_rfl) (by kernel_rfl) (fun _ _ _ h => h) ?_ (by assumption) ?_; rotate_left; (next => (refine Or.inl ⟨by kernel_rfl, ?_⟩; ((intro w hSw; (try dsimp only at hSw); (obtain ⟨z0, z1⟩ := KD.out _ hSw; obtain ⟨⟨k0, k1, k2⟩, _⟩ := cells3k z0; obtain ⟨⟨f0, f1, f2⟩, _⟩ := cells3k z1; clear z0 z1); go_simp) <;> with_reducible rfl))); (try simp only [Act.put, List.setIfInBounds_toArray, List.set_cons_zero, List.set_cons_succ])); refine wpAnyH_ready (rs := [2]) (by kernel_rfl) (by simp) ?_; refine AllReadyH.cons rfl (fun K hK => ?_) AllReadyH.nil; go_simp; ((go_at_call 17; refine (callGr (value_any _ _)).mono ?_; rintro e w' ⟨pp, rfl, rfl⟩)); refine hK.out _ _ (by ((repeat (with_reducible first | exact R3.out | exact BY.out | exact Below.refl _ _ | refine bl_rapp ?_ | (refine bl_set ?_ (by first | omega | (simp; done) | (simp; omega)) _) | refine bl_gr ?_ _ | refine bl_al ?_ _ | refine bl_drewN ?_ _ | refine Below.drew ?_)))) (fun hS => ?_); clear hK K; (try simp only [Act.put, List.setIfInBounds_toArray, List.set_cons_zero, List.set_cons_succ]); refine wpAnyH_ready (rs := [3]) (by kernel_rfl) (by simp) ?_; refine AllReadyH.cons rfl (fun K hK => ?_) AllReadyH.nil; go_simp; ((go_at_call 10; refine (D2.out _ _ _ (P1.out.below (by (repeat (with_reducible first | exact Below.refl _ _ | (refine bl_set ?_ (by first | omega | (simp; done) | (simp; omega)) _) | refine bl_gr ?_ _ | refine bl_al ?_ _ | refine below_setRow ?_ (by first | omega | (simp; done) | (simp; omega)) _ | refine bl_drewN ?_ _ | refine Below.drew ?_ | (refine bl_tr ?_ (by assumption))))))).mono ?_; rintro e w3 ⟨A3, n3, rfl, o3, b3⟩; have R3 := Lib.hid (show Below X.heap.size X w3 from bl_tr (by (repeat (with_reducible first | exact BY.out | exact Below.refl _ _ | refine bl_rapp ?_ | (refine bl_set ?_ (by first | omega | (simp; done) | (simp; omega)) _) | refine bl_gr ?_ _ | refine bl_al ?_ _ | refine bl_drewN ?_ _ | refine Below.drew ?_))) b3); have O3 := Lib.hid o3; clear o3 b3)); refine hK.out _ _ (by ((repeat (with_reducible first | exact R3.out | exact BY.out | exact Below.refl _ _ | refine bl_rapp ?_ | (refine bl_set ?_ (by first | omega | (simp; done) | (simp; omega)) _) | refine bl_gr ?_ _ | refine bl_al ?_ _ | refine bl_drewN ?_ _ | refine Below.drew ?_)))) (fun hS => ?_); clear hK K; (try simp only [Act.put, List.setIfInBounds_toArray, List.set_cons_zero, List.set_cons_succ]); (refine wpAnyH_take (i := 4) (v := ?_) rfl (by kernel_rfl) (by kernel_rfl) (by kernel_rfl) (fun _ _ _ h => h) ?_ (by assumption) ?_; rotate_left; (next => (refine Or.inl ⟨by kernel_rfl, ?_⟩; ((intro w hSw; (try dsimp only at hSw); go_simp) <;> with_reducible rfl))); (try simp only [Act.put, List.setIfInBounds_toArray, List.set_cons_zero, List.set_cons_succ])); (refine wpAnyH_take (i := 5) (v := ?_) rfl (by kernel_rfl) (by kernel_rfl) (by kernel_rfl) (fun _ _ _ h => h) ?_ (by assumption) ?_; rotate_left; (next => (refine Or.inl ⟨by kernel_rfl, ?_⟩; ((intro w hSw; (try dsimp only at hSw); go_simp) <;> with_reducible rfl))); (try simp only [Act.put, List.setIfInBounds_toArray, List.set_cons_zero, List.set_cons_succ])); (refine wpAnyH_take (i := 6) (v := ?_) rfl (by kernel_rfl) (by kernel_rfl) (by kernel_rfl) (fun _ _ _ h => h) ?_ (by assumption) ?_; rotate_left; (next => (refine Or.inl ⟨by kernel_rfl, ?_⟩; ((intro w hSw; (try dsimp only at hSw); go_simp) <;> with_reducible rfl))); (try simp only [Act.put, List.setIfInBounds_toArray, List.set_cons_zero, List.set_cons_succ])); (refine wpAnyH_take (i := 7) (v := ?_) rfl (by kernel_rfl) (by kernel_rfl) (by kernel_rfl) (fun _ _ _ h => h) ?_ (by assumption) ?_; rotate_left; (next => (refine Or.inl ⟨by kernel_rfl, ?_⟩; ((intro w hSw; (try dsimp only at hSw); go_simp) <;> with_reducible rfl))); (try simp only [Act.put, List.setIfInBounds_toArray, List.set_cons_zero, List.set_cons_succ])); (refine wpAnyH_take (i := 8) (v := ?_) rfl (by kernel_rfl) (by kernel_rfl) (by kernel_rfl) (fun _ _ _ h => h) ?_ (by assumption) ?_; rotate_left; (next => (refine Or.inl ⟨by kernel_rfl, ?_⟩; ((intro w hSw; (try dsimp only at hSw); go_simp) <;> with_reducible rfl))); (try simp only [Act.put, List.setIfInBounds_toArray, List.set_cons_zero, List.set_cons_succ])); refine wpAnyH_done (by kernel_rfl) ?_ _)
      go_simp
      go_wp2_with fail
      go_meet
      exact ⟨A3, n3, rfl, rfl, O3.out.isP, R3.out⟩
    case rest =>
      obtain ⟨A2, n2, rfl, rfl, hP2, bY2⟩ := hcut
      have BY2 := Lib.hid bY2
      have P2 := Lib.hid hP2
      obtain ⟨⟨k0, k1, k2⟩, _⟩ := cells3k (KD.out _ bY2).1
      have la := Nat.lt_of_lt_of_le l0 bY2.size
      clear bY2 hP2 P1 BY
      go_upto_region 4 with fail
      go_cut [7, 8] (fun l o Y => ∃ A n, l = .slice A 1 n ∧ o = .bool true ∧ IsP Y (.slice A 1 n) [p5] ∧ IsP Y (.slice A2 2 n2) [pA, p5] ∧ Below X.heap.size X Y)
      case first =>
        go_wp2_with (go_at_call 19; refine (E1.out _ _ _ P2.out).mono ?_; rintro e w3 ⟨A3, n3, rfl, o3, b3⟩; have R3 := Lib.hid (And.intro o3 b3); clear o3 b3)
        go_meet
        exact ⟨A3, n3, rfl, rfl, R3.out.1.isP, P2.out.below R3.out.2, bl_tr BY2.out R3.out.2⟩
      case rest =>
        obtain ⟨A3, n3, rfl, rfl, hP3, hP2, bY3⟩ := hcut
        have BY := Lib.hid bY3
        have P3 := Lib.hid hP3
        have P2' := Lib.hid hP2
        clear bY3 hP3 hP2 P2 BY2 k0 k1 k2 la
        go_upto_region 5 with fail
        go_cut [9, 10] (fun l o Y => o = .bool false ∧ IsP Y (.slice A2 2 n2) [pA, p5] ∧ Below X.heap.size X Y)
        case first =>
          (refine wp_region_held_drew (S := (fun Z : World => Below X.heap.size X Z)) Try.mixed (by ((repeat (with_reducible first | exact R4.out | exact R3.out | exact BY.out | exact Below.refl _ _ | refine bl_rapp ?_ | (refine bl_set ?_ (by first | omega | (simp; done) | (simp; omega)) _) | refine bl_gr ?_ _ | refine bl_al ?_ _ | refine bl_drewN ?_ _ | refine Below.drew ?_)))) (fun hS => ?_); (refine wpAnyH_take (i := 0) (v := ?_) rfl (by kernel_rfl) (by kernel_rfl) (by kernel_rfl) (fun _ _ _ h => h) ?_ (by assumption) ?_; rotate_left; (next => (refine Or.inl ⟨by kernel_rfl, ?_⟩; ((intro w hSw; (try dsimp only at hSw); go_simp) <;> with_reducible rfl))); (try simp only [Act.put, List.setIfInBounds_toArray, List.set_cons_zero, List.set_cons_succ])); (refine wpAnyH_take (i := 2) (v := ?_) rfl (by kernel_rfl) (by kernel_rfl) (by kernel_rfl) (fun _ _ _ h => h) ?_ (by assumption) ?_; rotate_left; (next => (refine Or.inl ⟨by kernel_rfl, ?_⟩; ((intro w hSw; (try dsimp only at hSw); (obtain ⟨z0, z1⟩ := KD.out _ hSw; obtain ⟨⟨k0, k1, k2⟩, _⟩ := cells3k z0; obtain ⟨⟨f0, f1, f2⟩, _⟩ := cells3k z1; clear z0 z1); go_simp) <;> with_reducible rfl))); (try simp only [Act.put, List.setIfInBounds_toArray, List.set_cons_zero, List.set_cons_succ])); refine wpAnyH_ready (rs := [1]) (by kernel_rfl) (by simp) ?_; refine AllReadyH.cons rfl (fun K hK => ?_) AllReadyH.nil; go_simp; ((go_at_call 21; refine (H1.out _ _ _ (P2'.out.below (by (repeat (with_reducible first | exact Below.refl _ _ | (refine bl_set ?_ (by first | omega | (simp; done) | (simp; omega)) _) | refine bl_gr ?_ _ | refine bl_al ?_ _ | refine below_setRow ?_ (by first | omega | (simp; done) | (simp; omega)) _ | refine bl_drewN ?_ _ | refine Below.drew ?_ | (refine bl_tr ?_ (by assumption))))))).mono ?_; rintro e w3 ⟨A4, n4, rfl, o3, b3⟩; have R3 := Lib.hid (show Below X.heap.size X w3 from bl_tr (by (repeat (with_reducible first | exact BY.out | exact Below.refl _ _ | refine bl_rapp ?_ | (refine bl_set ?_ (by first | omega | (simp; done) | (simp; omega)) _) | refine bl_gr ?_ _ | refine bl_al ?_ _ | refine bl_drewN ?_ _ | refine Below.drew ?_))) b3); have O3 := Lib.hid (And.intro o3 (P2'.out.below (show Below wc.heap.size wc w3 from bl_tr (by (repeat (with_reducible first | exact Below.refl _ _ | (refine bl_set ?_ (by first | omega | (simp; done) | (simp; omega)) _) | refine bl_gr ?_ _ | refine bl_al ?_ _ | refine below_setRow ?_ (by first | omega | (simp; done) | (simp; omega)) _ | refine bl_drewN ?_ _ | refine Below.drew ?_ | (refine bl_tr ?_ (by assumption))))) b3))); clear o3 b3)); refine hK.out _ _ (by ((repeat (with_reducible first | exact R4.out | exact R3.out | exact BY.out | exact Below.refl _ _ | refine bl_rapp ?_ | (refine bl_set ?_ (by first | omega | (simp; done) | (simp; omega)) _) | refine bl_gr ?_ _ | refine bl_al ?_ _ | refine bl_drewN ?_ _ | refine Below.drew ?_)))) (fun hS => ?_); clear hK K; (try simp only [Act.put, List.setIfInBounds_toArray, List.set_cons_zero, List.set_cons_succ]); refine wpAnyH_ready (rs := [3]) (by kernel_rfl) (by simp) ?_; refine AllReadyH.cons rfl (fun K hK => ?_) AllReadyH.nil; go_simp; ((go_at_call 19; refine (E2.out _ _ _ (O3.out.1.isP.below (by (repeat (with_reducible first | exact Below.refl _ _ | (refine bl_set ?_ (by first | omega | (simp; done) | (simp; omega)) _) | refine bl_gr ?_ _ | refine bl_al ?_ _ | refine below_setRow ?_ (by first | omega | (simp; done) | (simp; omega)) _ | refine bl_drewN ?_ _ | refine Below.drew ?_ | (refine bl_tr ?_ (by assumption))))))).mono ?_; rintro e w4 ⟨A5, n5, rfl, o4, b4⟩; have R4 := Lib.hid (show Below X.heap.size X w4 from bl_tr (by (repeat (with_reducible first | exact R3.out | exact Below.refl _ _ | refine bl_rapp ?_ | (refine bl_set ?_ (by first | omega | (simp; done) | (simp; omega)) _) | refine bl_gr ?_ _ | refine bl_al ?_ _ | refine bl_drewN ?_ _ | refine Below.drew ?_))) b4); have O4 := Lib.hid (O3.out.2.below b4); clear o4 b4)); refine hK.out _ _ (by ((repeat (with_reducible first | exact R4.out | exact R3.out | exact BY.out | exact Below.refl _ _ | refine bl_rapp ?_ | (refine bl_set ?_ (by first | omega | (simp; done) | (simp; omega)) _) | refine bl_gr ?_ _ | refine bl_al ?_ _ | refine bl_drewN ?_ _ | refine Below.drew ?_)))) (fun hS => ?_); clear hK K; (try simp only [Act.put, List.setIfInBounds_toArray, List.set_cons_zero, List.set_cons_succ]); (refine wpAnyH_take (i := 4) (v := ?_) rfl (by kernel_rfl) (by kernel_rfl) (by kernel_rfl) (fun _ _ _ h => h) ?_ (by assumption) ?_; rotate_left; (next => (refine Or.inl ⟨by kernel_rfl, ?_⟩; ((intro w hSw; (try dsimp only at hSw); go_simp) <;> with_reducible rfl))); (try simp only [Act.put, List.setIfInBounds_toArray, List.set_cons_zero, List.set_cons_succ])); (refine wpAnyH_take (i := 5) (v := ?_) rfl (by kernel_rfl) (by kernel_rfl) (by kernel_rfl) (fun _ _ _ h => h) ?_ (by assumption) ?_; rotate_left; (next => (refine Or.inl ⟨by kernel_rfl, ?_⟩; ((intro w hSw; (try dsimp only at hSw); go_simp) <;> with_reducible rfl))); (try simp only [Act.put, List.setIfInBounds_toArray, List.set_cons_zero, List.set_cons_succ])); (refine wpAnyH_take (i := 6) (v := ?_) rfl (by kernel_rfl) (by kernel_rfl) (by kernel_rfl) (fun _ _ _ h => h) ?_ (by assumption) ?_; rotate_left; (next => (refine Or.inl ⟨by kernel_rfl, ?_⟩; ((intro w hSw; (try dsimp only at hSw); go_simp) <;> with_reducible rfl))); (try simp only [Act.put, List.setIfInBounds_toArray, List.set_cons_zero, List.set_cons_succ])); (refine wpAnyH_take (i := 7) (v := ?_) rfl (by kernel_rfl) (by kernel_rfl) (by kernel_rfl) (fun _ _ _ h => h) ?_ (by assumption) ?_; rotate_left; (next => (refine Or.inl ⟨by kernel_rfl, ?_⟩; ((intro w hSw; (try dsimp only at hSw); go_simp) <;> with_reducible rfl))); (try simp only [Act.put, List.setIfInBounds_toArray, List.set_cons_zero, List.set_cons_succ])); (refine wpAnyH_take (i := 8) (v := ?_) rfl (by kernel_rfl) (by kernel_rfl) (by kernel_rfl) (fun _ _ _ h => h) ?_ (by assumption) ?_; rotate_left; (next => (refine Or.inl ⟨by kernel_rfl, ?_⟩; ((intro w hSw; (try dsimp only at hSw); go_simp) <;> with_reducible rfl))); (try simp only [Act.put, List.setIfInBounds_toArray, List.set_cons_zero, List.set_cons_succ])); refine wpAnyH_done (by kernel_rfl) ?_ _)
          go_simp
          go_wp2_with fail
          go_meet
          exact ⟨rfl, O4.out, R4.out⟩
        case rest =>
          obtain ⟨rfl, hP2, bY4⟩ := hcut
          have BY4 := Lib.hid bY4
          have P4 := Lib.hid hP2
          have SK := Lib.hid (fun u v W h1 h2 => sameKeys_self u v [k5, kA] (by simp) W h1 h2)
          clear bY4 hP2 P2' BY P3
          go_upto_region 6 with fail
          (refine wp_region_held_drew (S := (fun Z : World => Below X.heap.size X Z)) Try.mixed (by ((repeat (with_reducible first | exact R7.out | exact R6.out | exact R5.out | exact BY4.out | exact Below.refl _ _ | refine bl_rapp ?_ | (refine bl_set ?_ (by first | omega | (simp; done) | (simp; omega)) _) | refine bl_gr ?_ _ | refine bl_al ?_ _ | refine bl_drewN ?_ _ | refine Below.drew ?_)))) (fun hS => ?_); (refine wpAnyH_take (i := 0) (v := ?_) rfl (by kernel_rfl) (by kernel_rfl) (by kernel_rfl) (fun _ _ _ h => h) ?_ (by assumption) ?_; rotate_left; (next => (refine Or.inl ⟨by kernel_rfl, ?_⟩; ((intro w hSw; (try dsimp only at hSw); go_simp) <;> with_reducible rfl))); (try simp only [Act.put, List.getElem_toArray, List.getElem_cons_zero, List.getElem_cons_succ, List.setIfInBounds_toArray, List.set_cons_zero, List.set_cons_succ])); (refine wpAnyH_take (i := 1) (v := ?_) rfl (by kernel_rfl) (by kernel_rfl) (by kernel_rfl) (fun _ _ _ h => h) ?_ (by assumption) ?_; rotate_left; (next => (refine Or.inl ⟨by kernel_rfl, ?_⟩; ((intro w hSw; (try dsimp only at hSw); go_simp) <;> with_reducible rfl))); (try simp only [Act.put, List.getElem_toArray, List.getElem_cons_zero, List.getElem_cons_succ, List.setIfInBounds_toArray, List.set_cons_zero, List.set_cons_succ])); (refine wpAnyH_take (i := 2) (v := ?_) rfl (by kernel_rfl) (by kernel_rfl) (by kernel_rfl) (fun _ _ _ h => h) ?_ (by assumption) ?_; rotate_left; (next => (refine Or.inl ⟨by kernel_rfl, ?_⟩; ((intro w hSw; (try dsimp only at hSw); go_simp) <;> with_reducible rfl))); (try simp only [Act.put, List.getElem_toArray, List.getElem_cons_zero, List.getElem_cons_succ, List.setIfInBounds_toArray, List.set_cons_zero, List.set_cons_succ])); (refine wpAnyH_take (i := 3) (v := ?_) rfl (by kernel_rfl) (by kernel_rfl) (by kernel_rfl) (fun _ _ _ h => h) ?_ (by assumption) ?_; rotate_left; (next => (refine Or.inl ⟨by kernel_rfl, ?_⟩; ((intro w hSw; (try dsimp only at hSw); go_simp) <;> with_reducible rfl))); (try simp only [Act.put, List.getElem_toArray, List.getElem_cons_zero, List.getElem_cons_succ, List.setIfInBounds_toArray, List.set_cons_zero, List.set_cons_succ])); (refine wpAnyH_take (i := 4) (v := ?_) rfl (by kernel_rfl) (by kernel_rfl) (by kernel_rfl) (fun _ _ _ h => h) ?_ (by assumption) ?_; rotate_left; (next => (refine Or.inl ⟨by kernel_rfl, ?_⟩; ((intro w hSw; (try dsimp only at hSw); go_simp) <;> with_reducible rfl))); (try simp only [Act.put, List.getElem_toArray, List.getElem_cons_zero, List.getElem_cons_succ, List.setIfInBounds_toArray, List.set_cons_zero, List.set_cons_succ])); (refine wpAnyH_take (i := 5) (v := ?_) rfl (by kernel_rfl) (by kernel_rfl) (by kernel_rfl) (fun _ _ _ h => h) ?_ (by assumption) ?_; rotate_left; (next => (refine Or.inl ⟨by kernel_rfl, ?_⟩; ((intro w hSw; (try dsimp only at hSw); go_simp) <;> with_reducible rfl))); (try simp only [Act.put, List.getElem_toArray, List.getElem_cons_zero, List.getElem_cons_succ, List.setIfInBounds_toArray, List.set_cons_zero, List.set_cons_succ])); (refine wpAnyH_take (i := 6) (v := ?_) rfl (by kernel_rfl) (by kernel_rfl) (by kernel_rfl) (fun _ _ _ h => h) ?_ (by assumption) ?_; rotate_left; (next => (refine Or.inl ⟨by kernel_rfl, ?_⟩; ((intro w hSw; (try dsimp only at hSw); go_simp) <;> with_reducible rfl))); (try simp only [Act.put, List.getElem_toArray, List.getElem_cons_zero, List.getElem_cons_succ, List.setIfInBounds_toArray, List.set_cons_zero, List.set_cons_succ])); (refine wpAnyH_take (i := 7) (v := ?_) rfl (by kernel_rfl) (by kernel_rfl) (by kernel_rfl) (fun _ _ _ h => h) ?_ (by assumption) ?_; rotate_left; (next => (refine Or.inl ⟨by kernel_rfl, ?_⟩; ((intro w hSw; (try dsimp only at hSw); go_simp) <;> with_reducible rfl))); (try simp only [Act.put, List.getElem_toArray, List.getElem_cons_zero, List.getElem_cons_succ, List.setIfInBounds_toArray, List.set_cons_zero, List.set_cons_succ])); (refine wpAnyH_take (i := 8) (v := ?_) rfl (by kernel_rfl) (by kernel_rfl) (by kernel_rfl) (fun _ _ _ h => h) ?_ (by assumption) ?_; rotate_left; (next => (refine Or.inl ⟨by kernel_rfl, ?_⟩; ((intro w hSw; (try dsimp only at hSw); go_simp) <;> with_reducible rfl))); (try simp only [Act.put, List.getElem_toArray, List.getElem_cons_zero, List.getElem_cons_succ, List.setIfInBounds_toArray, List.set_cons_zero, List.set_cons_succ])); (refine wpAnyH_take (i := 9) (v := ?_) rfl (by kernel_rfl) (by kernel_rfl) (by kernel_rfl) (fun _ _ _ h => h) ?_ (by assumption) ?_; rotate_left; (next => (refine Or.inl ⟨by kernel_rfl, ?_⟩; ((intro w hSw; (try dsimp only at hSw); go_simp) <;> with_reducible rfl))); (try simp only [Act.put, List.getElem_toArray, List.getElem_cons_zero, List.getElem_cons_succ, List.setIfInBounds_toArray, List.set_cons_zero, List.set_cons_succ])); (refine wpAnyH_take (i := 10) (v := ?_) rfl (by kernel_rfl) (by kernel_rfl) (by kernel_rfl) (fun _ _ _ h => h) ?_ (by assumption) ?_; rotate_left; (next => (refine Or.inl ⟨by kernel_rfl, ?_⟩; ((intro w hSw; (try dsimp only at hSw); go_simp) <;> with_reducible rfl))); (try simp only [Act.put, List.getElem_toArray, List.getElem_cons_zero, List.getElem_cons_succ, List.setIfInBounds_toArray, List.set_cons_zero, List.set_cons_succ])); (refine wpAnyH_take (i := 11) (v := ?_) rfl (by kernel_rfl) (by kernel_rfl) (by kernel_rfl) (fun _ _ _ h => h) ?_ (by assumption) ?_; rotate_left; (next => (refine Or.inl ⟨by kernel_rfl, ?_⟩; ((intro w hSw; (try dsimp only at hSw); go_simp) <;> with_reducible rfl))); (try simp only [Act.put, List.getElem_toArray, List.getElem_cons_zero, List.getElem_cons_succ, List.setIfInBounds_toArray, List.set_cons_zero, List.set_cons_succ])); (refine wpAnyH_take (i := 12) (v := ?_) rfl (by kernel_rfl) (by kernel_rfl) (by kernel_rfl) (fun _ _ _ h => h) ?_ (by assumption) ?_; rotate_left; (next => (refine Or.inl ⟨by kernel_rfl, ?_⟩; ((intro w hSw; (try dsimp only at hSw); go_simp) <;> with_reducible rfl))); (try simp only [Act.put, List.getElem_toArray, List.getElem_cons_zero, List.getElem_cons_succ, List.setIfInBounds_toArray, List.set_cons_zero, List.set_cons_succ])); (refine wpAnyH_take (i := 13) (v := ?_) rfl (by kernel_rfl) (by kernel_rfl) (by kernel_rfl) (fun _ _ _ h => h) ?_ (by assumption) ?_; rotate_left; (next => (refine Or.inl ⟨by kernel_rfl, ?_⟩; ((intro w hSw; (try dsimp only at hSw); go_simp) <;> with_reducible rfl))); (try simp only [Act.put, List.getElem_toArray, List.getElem_cons_zero, List.getElem_cons_succ, List.setIfInBounds_toArray, List.set_cons_zero, List.set_cons_succ])); (refine wpAnyH_take (i := 14) (v := ?_) rfl (by kernel_rfl) (by kernel_rfl) (by kernel_rfl) (fun _ _ _ h => h) ?_ (by assumption) ?_; rotate_left; (next => (refine Or.inl ⟨by kernel_rfl, ?_⟩; ((intro w hSw; (try dsimp only at hSw); go_simp) <;> with_reducible rfl))); (try simp only [Act.put, List.getElem_toArray, List.getElem_cons_zero, List.getElem_cons_succ, List.setIfInBounds_toArray, List.set_cons_zero, List.set_cons_succ])); (refine wpAnyH_take (i := 15) (v := ?_) rfl (by kernel_rfl) (by kernel_rfl) (by kernel_rfl) (fun _ _ _ h => h) ?_ (by assumption) ?_; rotate_left; (next => (refine Or.inl ⟨by kernel_rfl, ?_⟩; ((intro w hSw; (try dsimp only at hSw); go_simp) <;> with_reducible rfl))); (try simp only [Act.put, List.getElem_toArray, List.getElem_cons_zero, List.getElem_cons_succ, List.setIfInBounds_toArray, List.set_cons_zero, List.set_cons_succ])); (refine wpAnyH_take (i := 16) (v := ?_) rfl (by kernel_rfl) (by kernel_rfl) (by kernel_rfl) (fun _ _ _ h => h) ?_ (by assumption) ?_; rotate_left; (next => (refine Or.inl ⟨by kernel_rfl, ?_⟩; ((intro w hSw; (try dsimp only at hSw); go_simp) <;> with_reducible rfl))); (try simp only [Act.put, List.getElem_toArray, List.getElem_cons_zero, List.getElem_cons_succ, List.setIfInBounds_toArray, List.set_cons_zero, List.set_cons_succ])); (refine wpAnyH_take (i := 17) (v := ?_) rfl (by kernel_rfl) (by kernel_rfl) (by kernel_rfl) (fun _ _ _ h => h) ?_ (by assumption) ?_; rotate_left; (next => (refine Or.inl ⟨by kernel_rfl, ?_⟩; ((intro w hSw; (try dsimp only at hSw); go_simp) <;> with_reducible rfl))); (try simp only [Act.put, List.getElem_toArray, List.getElem_cons_zero, List.getElem_cons_succ, List.setIfInBounds_toArray, List.set_cons_zero, List.set_cons_succ])); (refine wpAnyH_take (i := 19) (v := ?_) rfl (by kernel_rfl) (by kernel_rfl) (by kernel_rfl) (fun _ _ _ h => h) ?_ (by assumption) ?_; rotate_left; (next => (refine Or.inl ⟨by kernel_rfl, ?_⟩; ((intro w hSw; (try dsimp only at hSw); (obtain ⟨z0, z1⟩ := KD.out _ hSw; obtain ⟨⟨k0, k1, k2⟩, _⟩ := cells3k z0; obtain ⟨⟨f0, f1, f2⟩, _⟩ := cells3k z1; clear z0 z1); go_simp) <;> with_reducible rfl))); (try simp only [Act.put, List.getElem_toArray, List.getElem_cons_zero, List.getElem_cons_succ, List.setIfInBounds_toArray, List.set_cons_zero, List.set_cons_succ])); (refine wpAnyH_take (i := 20) (v := ?_) rfl (by kernel_rfl) (by kernel_rfl) (by kernel_rfl) (fun _ _ _ h => h) ?_ (by assumption) ?_; rotate_left; (next => (refine Or.inl ⟨by kernel_rfl, ?_⟩; ((intro w hSw; (try dsimp only at hSw); (obtain ⟨z0, z1⟩ := KD.out _ hSw; obtain ⟨⟨k0, k1, k2⟩, _⟩ := cells3k z0; obtain ⟨⟨f0, f1, f2⟩, _⟩ := cells3k z1; clear z0 z1); go_simp) <;> with_reducible rfl))); (try simp only [Act.put, List.getElem_toArray, List.getElem_cons_zero, List.getElem_cons_succ, List.setIfInBounds_toArray, List.set_cons_zero, List.set_cons_succ])); refine wpAnyH_ready (rs := [18, 21]) (by kernel_rfl) (by simp) ?_; refine AllReadyH.cons rfl (fun K hK => ?_) (AllReadyH.cons rfl (fun K hK => ?_) AllReadyH.nil); go_simp; ((go_at_call 25; refine (K1.out _ _ _ (P4.out.below (by first | exact B9.out | (repeat (with_reducible first | exact Below.refl _ _ | (refine bl_set ?_ (by first | omega | (simp; done) | (simp; omega)) _) | refine bl_gr ?_ _ | refine bl_al ?_ _ | refine below_setRow ?_ (by first | omega | (simp; done) | (simp; omega)) _ | refine bl_drewN ?_ _ | refine Below.drew ?_ | (refine bl_tr ?_ (by assumption))))))).mono ?_; rintro e w5 ⟨u, rfl, o5, b5⟩; (first | (have R5 := Lib.hid (show Below wc.heap.size wc w5 from bl_undrew b5)) | (have R5 := Lib.hid (show Below wc.heap.size wc w5 from bl_tr B9.out b5))); (first | (have F5 := Lib.hid ((b5.block _ lZ).trans FB.out)) | skip); have O5 := Lib.hid o5; clear o5 b5)); refine hK.out _ _ (by exact bl_tr BY4.out R5.out) (fun hS => ?_); clear hK K; (try simp only [Act.put, List.getElem_toArray, List.getElem_cons_zero, List.getElem_cons_succ, List.setIfInBounds_toArray, List.set_cons_zero, List.set_cons_succ]); refine wpAnyH_ready (rs := [21]) (by kernel_rfl) (by simp) ?_; refine AllReadyH.cons rfl (fun K hK => ?_) AllReadyH.nil; go_simp; refine hK.out _ _ (by first | exact bl_al (bl_tr BY4.out R5.out) _ | exact bl_al BY4.out _ | exact (bl_al BY4.out _).drew) (fun hS => ?_); clear hK K; (try simp only [Act.put, List.getElem_toArray, List.getElem_cons_zero, List.getElem_cons_succ, List.setIfInBounds_toArray, List.set_cons_zero, List.set_cons_succ]); (first | refine anyH_alloc rfl (fun Z fB bB => ?_) | refine anyH_allocD rfl (fun Z fB bB => ?_)); have B9 := Lib.hid (show Below wc.heap.size wc Z from bl_tr (by first | exact R5.out | exact Below.refl _ _ | exact Below.drew (Below.refl _ _)) bB); have FB := Lib.hid fB; have lZ := (Array.getElem?_eq_some_iff.1 fB).1; (first | (have O9 := Lib.hid (O5.out.below bB)) | skip); clear fB bB; refine wpAnyH_ready (rs := [22]) (by kernel_rfl) (by simp) ?_; refine AllReadyH.cons rfl (fun K hK => ?_) AllReadyH.nil; go_simp; ((go_at_call 29; (first | refine (callGr (SK.out u _ _ O9.out (sl_two (x := k5) (y := kA) FB.out))).mono ?_ | refine (callGr (SK.out u _ _ O5.out (sl_two (x := k5) (y := kA) F5.out))).mono ?_); rintro e w' ⟨pp, rfl, rfl⟩)); refine hK.out _ _ (by first | exact bl_gr (bl_tr BY4.out B9.out) _ | exact bl_gr (bl_tr BY4.out R5.out) _) (fun hS => ?_); clear hK K; (try simp only [Act.put, List.getElem_toArray, List.getElem_cons_zero, List.getElem_cons_succ, List.setIfInBounds_toArray, List.set_cons_zero, List.set_cons_succ]); (refine wpAnyH_take (i := 23) (v := ?_) rfl (by kernel_rfl) (by kernel_rfl) (by kernel_rfl) (fun _ _ _ h => h) ?_ (by assumption) ?_; rotate_left; (next => (refine Or.inl ⟨by kernel_rfl, ?_⟩; ((intro w hSw; (try dsimp only at hSw); go_simp) <;> with_reducible rfl))); (try simp only [Act.put, List.getElem_toArray, List.getElem_cons_zero, List.getElem_cons_succ, List.setIfInBounds_toArray, List.set_cons_zero, List.set_cons_succ])); (refine wpAnyH_take (i := 24) (v := ?_) rfl (by kernel_rfl) (by kernel_rfl) (by kernel_rfl) (fun _ _ _ h => h) ?_ (by assumption) ?_; rotate_left; (next => (refine Or.inl ⟨by kernel_rfl, ?_⟩; ((intro w hSw; (try dsimp only at hSw); go_simp) <;> with_reducible rfl))); (try simp only [Act.put, List.getElem_toArray, List.getElem_cons_zero, List.getElem_cons_succ, List.setIfInBounds_toArray, List.set_cons_zero, List.set_cons_succ])); (refine wpAnyH_take (i := 25) (v := ?_) rfl (by kernel_rfl) (by kernel_rfl) (by kernel_rfl) (fun _ _ _ h => h) ?_ (by assumption) ?_; rotate_left; (next => (refine Or.inl ⟨by kernel_rfl, ?_⟩; ((intro w hSw; (try dsimp only at hSw); go_simp) <;> with_reducible rfl))); (try simp only [Act.put, List.getElem_toArray, List.getElem_cons_zero, List.getElem_cons_succ, List.setIfInBounds_toArray, List.set_cons_zero, List.set_cons_succ])); (refine wpAnyH_take (i := 26) (v := ?_) rfl (by kernel_rfl) (by kernel_rfl) (by kernel_rfl) (fun _ _ _ h => h) ?_ (by assumption) ?_; rotate_left; (next => (refine Or.inl ⟨by kernel_rfl, ?_⟩; ((intro w hSw; (try dsimp only at hSw); (obtain ⟨z0, z1⟩ := KD.out _ hSw; obtain ⟨⟨k0, k1, k2⟩, _⟩ := cells3k z0; obtain ⟨⟨f0, f1, f2⟩, _⟩ := cells3k z1; clear z0 z1); go_simp) <;> with_reducible rfl))); (try simp only [Act.put, List.getElem_toArray, List.getElem_cons_zero, List.getElem_cons_succ, List.setIfInBounds_toArray, List.set_cons_zero, List.set_cons_succ])); refine wpAnyH_ready (rs := [27]) (by kernel_rfl) (by simp) ?_; refine AllReadyH.cons rfl (fun K hK => ?_) AllReadyH.nil; go_simp; ((go_at_call 18; (first | refine (callGr (F1.out _ _ _ (P4.out.below (bl_gr B9.out _)))).mono ?_ | refine (callGr (F1.out _ _ _ (P4.out.below (bl_gr R5.out _)))).mono ?_); rintro e w' ⟨qq, rfl, rfl⟩)); refine hK.out _ _ (by first | exact bl_gr (bl_gr (bl_tr BY4.out B9.out) _) _ | exact bl_gr (bl_gr (bl_tr BY4.out R5.out) _) _ | exact bl_gr (bl_tr BY4.out B9.out) _ | exact bl_gr (bl_tr BY4.out R5.out) _) (fun hS => ?_); clear hK K; (try simp only [Act.put, List.getElem_toArray, List.getElem_cons_zero, List.getElem_cons_succ, List.setIfInBounds_toArray, List.set_cons_zero, List.set_cons_succ]); (refine wpAnyH_take (i := 28) (v := ?_) rfl (by kernel_rfl) (by kernel_rfl) (by kernel_rfl) (fun _ _ _ h => h) ?_ (by assumption) ?_; rotate_left; (next => (refine Or.inl ⟨by kernel_rfl, ?_⟩; ((intro w hSw; (try dsimp only at hSw); go_simp) <;> with_reducible rfl))); (try simp only [Act.put, List.getElem_toArray, List.getElem_cons_zero, List.getElem_cons_succ, List.setIfInBounds_toArray, List.set_cons_zero, List.set_cons_succ])); (refine wpAnyH_take (i := 29) (v := ?_) rfl (by kernel_rfl) (by kernel_rfl) (by kernel_rfl) (fun _ _ _ h => h) ?_ (by assumption) ?_; rotate_left; (next => (refine Or.inl ⟨by kernel_rfl, ?_⟩; ((intro w hSw; (try dsimp only at hSw); go_simp) <;> with_reducible rfl))); (try simp only [Act.put, List.getElem_toArray, List.getElem_cons_zero, List.getElem_cons_succ, List.setIfInBounds_toArray, List.set_cons_zero, List.set_cons_succ])); (refine wpAnyH_take (i := 30) (v := ?_) rfl (by kernel_rfl) (by kernel_rfl) (by kernel_rfl) (fun _ _ _ h => h) ?_ (by assumption) ?_; rotate_left; (next => (refine Or.inl ⟨by kernel_rfl, ?_⟩; ((intro w hSw; (try dsimp only at hSw); go_simp) <;> with_reducible rfl))); (try simp only [Act.put, List.getElem_toArray, List.getElem_cons_zero, List.getElem_cons_succ, List.setIfInBounds_toArray, List.set_cons_zero, List.set_cons_succ])); refine wpAnyH_done (by kernel_rfl) ?_ _; rotate_left 1; go_simp; refine hK.out _ _ (by first | exact bl_al (bl_tr BY4.out R5.out) _ | exact bl_al BY4.out _ | exact (bl_al BY4.out _).drew) (fun hS => ?_); clear hK K; (try simp only [Act.put, List.getElem_toArray, List.getElem_cons_zero, List.getElem_cons_succ, List.setIfInBounds_toArray, List.set_cons_zero, List.set_cons_succ]); (first | refine anyH_alloc rfl (fun Z fB bB => ?_) | refine anyH_allocD rfl (fun Z fB bB => ?_)); have B9 := Lib.hid (show Below wc.heap.size wc Z from bl_tr (by first | exact R5.out | exact Below.refl _ _ | exact Below.drew (Below.refl _ _)) bB); have FB := Lib.hid fB; have lZ := (Array.getElem?_eq_some_iff.1 fB).1; (first | (have O9 := Lib.hid (O5.out.below bB)) | skip); clear fB bB; refine wpAnyH_ready (rs := [18]) (by kernel_rfl) (by simp) ?_; refine AllReadyH.cons rfl (fun K hK => ?_) AllReadyH.nil; go_simp; ((go_at_call 25; refine (K1.out _ _ _ (P4.out.below (by first | exact B9.out | (repeat (with_reducible first | exact Below.refl _ _ | (refine bl_set ?_ (by first | omega | (simp; done) | (simp; omega)) _) | refine bl_gr ?_ _ | refine bl_al ?_ _ | refine below_setRow ?_ (by first | omega | (simp; done) | (simp; omega)) _ | refine bl_drewN ?_ _ | refine Below.drew ?_ | (refine bl_tr ?_ (by assumption))))))).mono ?_; rintro e w5 ⟨u, rfl, o5, b5⟩; (first | (have R5 := Lib.hid (show Below wc.heap.size wc w5 from bl_undrew b5)) | (have R5 := Lib.hid (show Below wc.heap.size wc w5 from bl_tr B9.out b5))); (first | (have F5 := Lib.hid ((b5.block _ lZ).trans FB.out)) | skip); have O5 := Lib.hid o5; clear o5 b5)); refine hK.out _ _ (by exact bl_tr BY4.out R5.out) (fun hS => ?_); clear hK K; (try simp only [Act.put, List.getElem_toArray, List.getElem_cons_zero, List.getElem_cons_succ, List.setIfInBounds_toArray, List.set_cons_zero, List.set_cons_succ]); refine wpAnyH_ready (rs := [22]) (by kernel_rfl) (by simp) ?_; refine AllReadyH.cons rfl (fun K hK => ?_) AllReadyH.nil; go_simp; ((go_at_call 29; (first | refine (callGr (SK.out u _ _ O9.out (sl_two (x := k5) (y := kA) FB.out))).mono ?_ | refine (callGr (SK.out u _ _ O5.out (sl_two (x := k5) (y := kA) F5.out))).mono ?_); rintro e w' ⟨pp, rfl, rfl⟩)); refine hK.out _ _ (by first | exact bl_gr (bl_tr BY4.out B9.out) _ | exact bl_gr (bl_tr BY4.out R5.out) _) (fun hS => ?_); clear hK K; (try simp only [Act.put, List.getElem_toArray, List.getElem_cons_zero, List.getElem_cons_succ, List.setIfInBounds_toArray, List.set_cons_zero, List.set_cons_succ]); (refine wpAnyH_take (i := 23) (v := ?_) rfl (by kernel_rfl) (by kernel_rfl) (by kernel_rfl) (fun _ _ _ h => h) ?_ (by assumption) ?_; rotate_left; (next => (refine Or.inl ⟨by kernel_rfl, ?_⟩; ((intro w hSw; (try dsimp only at hSw); go_simp) <;> with_reducible rfl))); (try simp only [Act.put, List.getElem_toArray, List.getElem_cons_zero, List.getElem_cons_succ, List.setIfInBounds_toArray, List.set_cons_zero, List.set_cons_succ])); (refine wpAnyH_take (i := 24) (v := ?_) rfl (by kernel_rfl) (by kernel_rfl) (by kernel_rfl) (fun _ _ _ h => h) ?_ (by assumption) ?_; rotate_left; (next => (refine Or.inl ⟨by kernel_rfl, ?_⟩; ((intro w hSw; (try dsimp only at hSw); go_simp) <;> with_reducible rfl))); (try simp only [Act.put, List.getElem_toArray, List.getElem_cons_zero, List.getElem_cons_succ, List.setIfInBounds_toArray, List.set_cons_zero, List.set_cons_succ])); (refine wpAnyH_take (i := 25) (v := ?_) rfl (by kernel_rfl) (by kernel_rfl) (by kernel_rfl) (fun _ _ _ h => h) ?_ (by assumption) ?_; rotate_left; (next => (refine Or.inl ⟨by kernel_rfl, ?_⟩; ((intro w hSw; (try dsimp only at hSw); go_simp) <;> with_reducible rfl))); (try simp only [Act.put, List.getElem_toArray, List.getElem_cons_zero, List.getElem_cons_succ, List.setIfInBounds_toArray, List.set_cons_zero, List.set_cons_succ])); (refine wpAnyH_take (i := 26) (v := ?_) rfl (by kernel_rfl) (by kernel_rfl) (by kernel_rfl) (fun _ _ _ h => h) ?_ (by assumption) ?_; rotate_left; (next => (refine Or.inl ⟨by kernel_rfl, ?_⟩; ((intro w hSw; (try dsimp only at hSw); (obtain ⟨z0, z1⟩ := KD.out _ hSw; obtain ⟨⟨k0, k1, k2⟩, _⟩ := cells3k z0; obtain ⟨⟨f0, f1, f2⟩, _⟩ := cells3k z1; clear z0 z1); go_simp) <;> with_reducible rfl))); (try simp only [Act.put, List.getElem_toArray, List.getElem_cons_zero, List.getElem_cons_succ, List.setIfInBounds_toArray, List.set_cons_zero, List.set_cons_succ])); refine wpAnyH_ready (rs := [27]) (by kernel_rfl) (by simp) ?_; refine AllReadyH.cons rfl (fun K hK => ?_) AllReadyH.nil; go_simp; ((go_at_call 18; (first | refine (callGr (F1.out _ _ _ (P4.out.below (bl_gr B9.out _)))).mono ?_ | refine (callGr (F1.out _ _ _ (P4.out.below (bl_gr R5.out _)))).mono ?_); rintro e w' ⟨qq, rfl, rfl⟩)); refine hK.out _ _ (by first | exact bl_gr (bl_gr (bl_tr BY4.out B9.out) _) _ | exact bl_gr (bl_gr (bl_tr BY4.out R5.out) _) _ | exact bl_gr (bl_tr BY4.out B9.out) _ | exact bl_gr (bl_tr BY4.out R5.out) _) (fun hS => ?_); clear hK K; (try simp only [Act.put, List.getElem_toArray, List.getElem_cons_zero, List.getElem_cons_succ, List.setIfInBounds_toArray, List.set_cons_zero, List.set_cons_succ]); (refine wpAnyH_take (i := 28) (v := ?_) rfl (by kernel_rfl) (by kernel_rfl) (by kernel_rfl) (fun _ _ _ h => h) ?_ (by assumption) ?_; rotate_left; (next => (refine Or.inl ⟨by kernel_rfl, ?_⟩; ((intro w hSw; (try dsimp only at hSw); go_simp) <;> with_reducible rfl))); (try simp only [Act.put, List.getElem_toArray, List.getElem_cons_zero, List.getElem_cons_succ, List.setIfInBounds_toArray, List.set_cons_zero, List.set_cons_succ])); (refine wpAnyH_take (i := 29) (v := ?_) rfl (by kernel_rfl) (by kernel_rfl) (by kernel_rfl) (fun _ _ _ h => h) ?_ (by assumption) ?_; rotate_left; (next => (refine Or.inl ⟨by kernel_rfl, ?_⟩; ((intro w hSw; (try dsimp only at hSw); go_simp) <;> with_reducible rfl))); (try simp only [Act.put, List.getElem_toArray, List.getElem_cons_zero, List.getElem_cons_succ, List.setIfInBounds_toArray, List.set_cons_zero, List.set_cons_succ])); (refine wpAnyH_take (i := 30) (v := ?_) rfl (by kernel_rfl) (by kernel_rfl) (by kernel_rfl) (fun _ _ _ h => h) ?_ (by assumption) ?_; rotate_left; (next => (refine Or.inl ⟨by kernel_rfl, ?_⟩; ((intro w hSw; (try dsimp only at hSw); go_simp) <;> with_reducible rfl))); (try simp only [Act.put, List.getElem_toArray, List.getElem_cons_zero, List.getElem_cons_succ, List.setIfInBounds_toArray, List.set_cons_zero, List.set_cons_succ])); refine wpAnyH_done (by kernel_rfl) ?_ _)
          all_goals go_simp
          all_goals go_wp2
          all_goals go_ret
          all_goals first
            | exact ⟨rfl, bl_tr BX.out (bl_gr (bl_gr (bl_tr BY4.out B9.out) _) _)⟩
            | exact ⟨rfl, bl_tr BX.out (bl_gr (bl_tr BY4.out B9.out) _)⟩
            | exact ⟨rfl, bl_tr BX.out (bl_gr (bl_gr (bl_tr BY4.out R5.out) _) _)⟩
            | exact ⟨rfl, bl_tr BX.out (bl_gr (bl_tr BY4.out R5.out) _)⟩
end Go.Proofs.Ytippimonpdeioaa
namespace Go.Proofs.Ytippimonpdeioaa
set_option linter.all false
open Go.ChangeShapes Go.WideShapes Go.ChangeAt Go.RowKit Go.Sort Go.Deep

abbrev askA (k : Val) (d : Dsc) : Value := .agg #[.int .i64 k.k, .int .i64 k.n, .string k.s, .int .i64 d.h, .int .i64 d.a, .int .i64 d.v.k, .int .i64 d.v.n, .string d.v.s, .int .i64 d.g.k, .int .i64 d.g.n, .string d.g.s, .int .i64 d.t.k, .int .i64 d.t.n, .string d.t.s]
abbrev askO (k : Val) (d : Dsc) : Obj := .cells #[.int .i64 k.k, .int .i64 k.n, .string k.s, .int .i64 d.h, .int .i64 d.a, .int .i64 d.v.k, .int .i64 d.v.n, .string d.v.s, .int .i64 d.g.k, .int .i64 d.g.n, .string d.g.s, .int .i64 d.t.k, .int .i64 d.t.n, .string d.t.s] 29
theorem cells14 {w : World} {b : Nat} {k : Val} {d : Dsc} (h : w.heap[b]? = some (askO k d)) : (w.cell? ⟨b, 0, none⟩ = some (.int .i64 k.k) ∧ w.cell? ⟨b, 1, none⟩ = some (.int .i64 k.n) ∧ w.cell? ⟨b, 2, none⟩ = some (.string k.s) ∧ w.cell? ⟨b, 3, none⟩ = some (.int .i64 d.h) ∧ w.cell? ⟨b, 4, none⟩ = some (.int .i64 d.a) ∧ w.cell? ⟨b, 5, none⟩ = some (.int .i64 d.v.k) ∧ w.cell? ⟨b, 6, none⟩ = some (.int .i64 d.v.n) ∧ w.cell? ⟨b, 7, none⟩ = some (.string d.v.s) ∧ w.cell? ⟨b, 8, none⟩ = some (.int .i64 d.g.k) ∧ w.cell? ⟨b, 9, none⟩ = some (.int .i64 d.g.n) ∧ w.cell? ⟨b, 10, none⟩ = some (.string d.g.s) ∧ w.cell? ⟨b, 11, none⟩ = some (.int .i64 d.t.k) ∧ w.cell? ⟨b, 12, none⟩ = some (.int .i64 d.t.n) ∧ w.cell? ⟨b, 13, none⟩ = some (.string d.t.s)) ∧ ∀ j, w.frozen? ⟨b, j, none⟩ = false := by
  refine ⟨?_, fun j => frozen_of_row w b _ _ _ h⟩
  and_intros <;> (rw [cell_of_row w b _ _ _ _ h]; rfl)
theorem few_le {n : Nat} (h : fewB n = true) : n ≤ 1100 := by
  unfold fewB at h
  simp only [Bool.or_eq_true, Bool.and_eq_true, decide_eq_true_eq] at h
  omega
/-- a list of the call's own has the same elements as another of its elements -/
theorem rsame_self (u v : Value) (xs : List Prp) (hm : xs.length ≤ 3000) (w : World) (ha : IsP w u xs) (hb : IsP w v xs) : Calls Try.prog 14 #[u, v] w fun e w' => e = .returned (.bool true) ∧ Below w.heap.size w w' := by
  have := rsameP_any u v xs xs hm w ha hb
  rwa [show decide (xs = xs) = true by simp] at this
theorem defM_len (xs : List Prp) (ext : Bool) (k : Val) (d : Dsc) : (defM xs ext k d).1.length ≤ xs.length + 1 := by
  unfold defM
  split <;> split <;> simp

set_option maxRecDepth 100000 in
set_option maxHeartbeats 8000000 in
theorem defines_w (v : Value) (xs : List Prp) (ext : Bool) (k : Val) (d : Dsc) (hok : ∀ x ∈ xs, x.ok) (hdk : d.ok) (w : World) (hv : IsP w v xs) :
    Calls Try.prog 3 #[v, .bool ext, askA k d] w fun e w' => e = .returned (.bool true) ∧ Below w.heap.size w w' := by
  obtain ⟨A, cp, rfl, _, _⟩ := hv.form
  have H := Lib.hid hv
  have GO := Lib.hid goes_any
  have FW := Lib.hid (fun W h => few_any (.slice A xs.length cp) xs W h)
  cases hfw : fewB xs.length
  · rw [hfw] at FW
    clear hv hok hdk hfw
    go_enter Try.func3, Try.ntmps3
    go_wp2_with (first | (go_at_call 8; refine (callGr (FW.out _ (H.out.below (by (repeat (with_reducible first | exact Below.refl _ _ | (refine bl_set ?_ (by first | omega | (simp; done) | (simp; omega)) _) | refine bl_gr ?_ _ | refine bl_al ?_ _ | refine below_setRow ?_ (by first | omega | (simp; done) | (simp; omega)) _ | refine bl_drewN ?_ _ | refine Below.drew ?_ | (refine bl_tr ?_ (by assumption)))))))).mono ?_; rintro e w' ⟨pp, rfl, rfl⟩) | (go_at_call 9; refine (callGr (GO.out _)).mono ?_; rintro e w' ⟨pp, rfl, rfl⟩))
    go_ret
    exact ⟨rfl, by (repeat (with_reducible first | exact Below.refl _ _ | (refine bl_set ?_ (by first | omega | (simp; done) | (simp; omega)) _) | refine bl_gr ?_ _ | refine bl_al ?_ _ | refine below_setRow ?_ (by first | omega | (simp; done) | (simp; omega)) _ | refine bl_drewN ?_ _ | refine Below.drew ?_ | (refine bl_tr ?_ (by assumption))))⟩
  · have hm := few_le hfw
    rw [hfw] at FW
    have HM := Lib.hid hm
    obtain ⟨L, ok, hL⟩ : ∃ L ok, defM xs ext k d = (L, ok) := ⟨_, _, rfl⟩
    have LM := Lib.hid (show L.length ≤ 3000 by have := defM_len xs ext k d; rw [hL] at this; simp only at this; omega)
    have DF := Lib.hid (fun u W (h : IsP W u xs) => (show Calls Try.prog 10 #[u, .bool ext, k.agg, d.agg] W (RetPB W L ok) from by
      have := define_any u xs ext k d (by omega) W h
      rwa [hL] at this))
    have RR := Lib.hid (fun W => rright_any d W hdk.1 hdk.2.1)
    have RL := Lib.hid (fun W h => rrightP_any (.slice A xs.length cp) xs (fun x hx => (hok x hx).1) W h)
    have RD := Lib.hid (fun (hr : rightR d = true) (hl : rightL xs = true) u W (h : IsP W u xs) => (show Calls Try.prog 13 #[u, .bool ext, k.agg, d.agg] W (RetPB W L ok) from by
      have := rdefine_any u xs ext k d hdk.1 hdk.2.1 (fun x hx => (hok x hx).2.1) (by omega) W h
      rwa [← def_eq hr hl, hL] at this))
    have SX := Lib.hid (fun u v W h1 h2 => rsame_self u v xs (by omega) W h1 h2)
    have SL := Lib.hid (fun u v W h1 h2 => rsame_self u v L LM.out W h1 h2)
    have TC := Lib.hid (fun (w0 W : World) (A : Option Addr) (n : Nat) h2 h3 => touched_any w0 W A L.length n L LM.out rfl h2 h3)
    clear hv hok hdk hfw hm hL
    go_enter Try.func3, Try.ntmps3
    go_upto_region 3 with (go_at_call 8; refine (callGr (FW.out _ (H.out.below (by (repeat (with_reducible first | exact Below.refl _ _ | (refine bl_set ?_ (by first | omega | (simp; done) | (simp; omega)) _) | refine bl_gr ?_ _ | refine bl_al ?_ _ | refine below_setRow ?_ (by first | omega | (simp; done) | (simp; omega)) _ | refine bl_drewN ?_ _ | refine Below.drew ?_ | (refine bl_tr ?_ (by assumption)))))))).mono ?_; rintro e w' ⟨pp, rfl, rfl⟩)
    refine wp_world4 (fun X => X.heap[w.heap.size]? = some (askO k d) ∧ Below w.heap.size w X) ⟨((below_gr _ _).block _ (by simp)).trans (heap_alloc_new _ _), by (repeat (with_reducible first | exact Below.refl _ _ | (refine bl_set ?_ (by first | omega | (simp; done) | (simp; omega)) _) | refine bl_gr ?_ _ | refine bl_al ?_ _ | refine below_setRow ?_ (by first | omega | (simp; done) | (simp; omega)) _ | refine bl_drewN ?_ _ | refine Below.drew ?_ | (refine bl_tr ?_ (by assumption))))⟩ ?_
    rintro X ⟨j0, jb⟩
    have l0 := (Array.getElem?_eq_some_iff.1 j0).1
    have KA := Lib.hid (fun Z (h : Below X.heap.size X Z) => (h.block _ l0).trans j0)
    have BX := Lib.hid jb
    have VX := Lib.hid (H.out.below jb)
    clear j0 jb
    go_upto_region 4 with (at_builtin; refine wpList_appG elem_prp rfl _ _ rfl X.heap.size [] xs (yv := .slice (some ⟨X.heap.size, 0, none⟩) 0 0) (sv := .slice A xs.length cp) rfl rfl (own_empty (heap_alloc_new _ _) (Nat.le_refl _)) (by simp) (VX.out.below (bl_al (Below.refl _ _) _)) (by have := HM.out; simp; omega) (by have := HM.out; simp; omega) ?_; intro A5 n5 w5 o5 g5; obtain ⟨m5, hm5⟩ : ∃ m5, m5 = (([] : List Prp) ++ xs).length := ⟨_, rfl⟩; rw [← hm5]; have R5 := Lib.hid (show RowI X xs A5 m5 n5 w5 from ⟨hm5, by rw [hm5]; exact o5, grown_lo (bl_al (Below.refl _ _) _) g5 (by intro g hg; simp [Value.ownBlock] at hg; omega)⟩); clear hm5 o5 g5)
    obtain ⟨⟨x0, x1, x2, x3, x4, x5, x6, x7, x8, x9, x10, x11, x12, x13⟩, _⟩ := cells14 (KA.out _ R5.out.2.2)
    have la := Nat.lt_of_lt_of_le l0 R5.out.2.2.size
    go_upto_region 5 with (go_at_call 10; refine (DF.out _ _ R5.out.2.1.isP).mono ?_; rintro e w6 ⟨A6, n6, rfl, o6, b6⟩; have O6 := Lib.hid o6; have B6 := Lib.hid b6; clear o6 b6)
    clear x0 x1 x2 x3 x4 x5 x6 x7 x8 x9 x10 x11 x12 x13 la
    obtain ⟨⟨x0, x1, x2, x3, x4, x5, x6, x7, x8, x9, x10, x11, x12, x13⟩, _⟩ := cells14 (KA.out _ (bl_tr R5.out.2.2 B6.out))
    have la := Nat.lt_of_lt_of_le l0 (bl_tr R5.out.2.2 B6.out).size
    cases hr : rightR d
    · rw [hr] at RR
      clear hr
      go_wp2_with (first | (go_at_call 11; refine (callGr (RR.out _)).mono ?_; rintro e w' ⟨pp, rfl, rfl⟩) | (go_at_call 9; refine (callGr (GO.out _)).mono ?_; rintro e w' ⟨pp, rfl, rfl⟩))
      all_goals go_ret
      all_goals exact ⟨rfl, bl_tr BX.out (bl_tr (bl_tr R5.out.2.2 B6.out) (by (repeat (with_reducible first | exact Below.refl _ _ | (refine bl_set ?_ (by first | omega | (simp; done) | (simp; omega)) _) | refine bl_gr ?_ _ | refine bl_al ?_ _ | refine below_setRow ?_ (by first | omega | (simp; done) | (simp; omega)) _ | refine bl_drewN ?_ _ | refine Below.drew ?_ | (refine bl_tr ?_ (by assumption))))))⟩
    · have HR := Lib.hid hr
      rw [hr] at RR
      clear hr
      cases hl : rightL xs
      · rw [hl] at RL
        clear hl
        go_wp2_with (first | (go_at_call 11; refine (callGr (RR.out _)).mono ?_; rintro e w' ⟨pp, rfl, rfl⟩) | (go_at_call 12; refine (callGr (RL.out _ (VX.out.below (bl_tr (bl_tr R5.out.2.2 B6.out) (by (repeat (with_reducible first | exact Below.refl _ _ | (refine bl_set ?_ (by first | omega | (simp; done) | (simp; omega)) _) | refine bl_gr ?_ _ | refine bl_al ?_ _ | refine below_setRow ?_ (by first | omega | (simp; done) | (simp; omega)) _ | refine bl_drewN ?_ _ | refine Below.drew ?_ | (refine bl_tr ?_ (by assumption))))))))).mono ?_; rintro e w' ⟨pp, rfl, rfl⟩) | (go_at_call 9; refine (callGr (GO.out _)).mono ?_; rintro e w' ⟨pp, rfl, rfl⟩))
        all_goals go_ret
        all_goals exact ⟨rfl, bl_tr BX.out (bl_tr (bl_tr R5.out.2.2 B6.out) (by (repeat (with_reducible first | exact Below.refl _ _ | (refine bl_set ?_ (by first | omega | (simp; done) | (simp; omega)) _) | refine bl_gr ?_ _ | refine bl_al ?_ _ | refine below_setRow ?_ (by first | omega | (simp; done) | (simp; omega)) _ | refine bl_drewN ?_ _ | refine Below.drew ?_ | (refine bl_tr ?_ (by assumption))))))⟩
      · have HL := Lib.hid hl
        rw [hl] at RL
        clear hl
        go_wp2_with (first
          | (go_at_call 11; refine (callGr (RR.out _)).mono ?_; rintro e w' ⟨pp, rfl, rfl⟩)
          | (go_at_call 12; refine (callGr (RL.out _ (VX.out.below (bl_tr (bl_tr R5.out.2.2 B6.out) (by (repeat (with_reducible first | exact Below.refl _ _ | (refine bl_set ?_ (by first | omega | (simp; done) | (simp; omega)) _) | refine bl_gr ?_ _ | refine bl_al ?_ _ | refine below_setRow ?_ (by first | omega | (simp; done) | (simp; omega)) _ | refine bl_drewN ?_ _ | refine Below.drew ?_ | (refine bl_tr ?_ (by assumption))))))))).mono ?_; rintro e w' ⟨pp, rfl, rfl⟩)
          | (go_at_call 13; refine (RD.out HR.out HL.out _ _ (VX.out.below (bl_tr (bl_tr R5.out.2.2 B6.out) (by (repeat (with_reducible first | exact Below.refl _ _ | (refine bl_set ?_ (by first | omega | (simp; done) | (simp; omega)) _) | refine bl_gr ?_ _ | refine bl_al ?_ _ | refine below_setRow ?_ (by first | omega | (simp; done) | (simp; omega)) _ | refine bl_drewN ?_ _ | refine Below.drew ?_ | (refine bl_tr ?_ (by assumption)))))))).mono ?_; rintro e w8 ⟨A8, n8, rfl, o8, b8⟩; have O8 := Lib.hid o8; have B8 := Lib.hid (show Below w6.heap.size w6 w8 from bl_tr (by (repeat (with_reducible first | exact Below.refl _ _ | (refine bl_set ?_ (by first | omega | (simp; done) | (simp; omega)) _) | refine bl_gr ?_ _ | refine bl_al ?_ _ | refine below_setRow ?_ (by first | omega | (simp; done) | (simp; omega)) _ | refine bl_drewN ?_ _ | refine Below.drew ?_ | (refine bl_tr ?_ (by assumption))))) b8); clear o8 b8)
          | (go_at_call_of 14 (Value.slice A6 L.length n6); refine (callGr (SL.out _ _ _ (O6.out.isP.below B8.out) O8.out.isP)).mono ?_; rintro e w' ⟨pp, rfl, rfl⟩)
          | (go_at_call 15; refine (TC.out w5 _ A6 n6 (ownsRow_below O6.out (bl_tr B8.out (by (repeat (with_reducible first | exact Below.refl _ _ | (refine bl_set ?_ (by first | omega | (simp; done) | (simp; omega)) _) | refine bl_gr ?_ _ | refine bl_al ?_ _ | refine below_setRow ?_ (by first | omega | (simp; done) | (simp; omega)) _ | refine bl_drewN ?_ _ | refine Below.drew ?_ | (refine bl_tr ?_ (by assumption))))))) (bl_tr (bl_tr B6.out B8.out) (by (repeat (with_reducible first | exact Below.refl _ _ | (refine bl_set ?_ (by first | omega | (simp; done) | (simp; omega)) _) | refine bl_gr ?_ _ | refine bl_al ?_ _ | refine below_setRow ?_ (by first | omega | (simp; done) | (simp; omega)) _ | refine bl_drewN ?_ _ | refine Below.drew ?_ | (refine bl_tr ?_ (by assumption))))))).mono ?_; rintro e w9 ⟨rfl, b9, -⟩; have B9 := Lib.hid b9; clear b9)
          | (go_at_call_of 14 (Value.slice A5 m5 n5); refine (callGr (SX.out _ _ _ (R5.out.2.1.isP.below B9.out) (VX.out.below (bl_tr R5.out.2.2 B9.out)))).mono ?_; rintro e w' ⟨pp, rfl, rfl⟩)
          | (go_at_call 9; refine (callGr (GO.out _)).mono ?_; rintro e w' ⟨pp, rfl, rfl⟩))
        all_goals go_ret
        all_goals exact ⟨by simp, bl_tr BX.out (bl_tr (bl_tr R5.out.2.2 B9.out) (by (repeat (with_reducible first | exact Below.refl _ _ | (refine bl_set ?_ (by first | omega | (simp; done) | (simp; omega)) _) | refine bl_gr ?_ _ | refine bl_al ?_ _ | refine below_setRow ?_ (by first | omega | (simp; done) | (simp; omega)) _ | refine bl_drewN ?_ _ | refine Below.drew ?_ | (refine bl_tr ?_ (by assumption))))))⟩
end Go.Proofs.Ytippimonpdeioaa
