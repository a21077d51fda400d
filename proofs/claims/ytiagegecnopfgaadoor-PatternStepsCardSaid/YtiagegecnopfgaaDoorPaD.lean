/- Deep of patterns, and the reference's; sizes. -/
import Derived.Test.YtiagegecnopfgaaDoorPaC
namespace Go.Proofs.YtiagegecnopfgaaDoor
set_option linter.all false
open Go.ChangeShapes Go.WideShapes Go.ChangeAt Go.RowKit Go.Sort Go.Deep

theorem wpd_world {P : Program} {c : Code} {Q : Exit → Act → World → Prop} {a : Act} {w : World} (C : World → Prop) (hC : C w) (h : ∀ w', C w' → c.wp P Q a w') : c.wp P Q a w := h w hC
theorem w64c {x : Int} {k : Nat} (h : x = (k : Int)) (hk : k < 9223372036854775808) : wrap64 x = (k : Int) := by subst h; unfold wrap64; omega
theorem meas_c {n q k : Nat} (h : k = q + 1) (hl : q < n) : n - (intOf (.int .i64 (k : Int))).toNat < n - (intOf (.int .i64 (q : Int))).toNat := by simp only [intOf]; omega
/-- a box that a function keeps -/
def OneB (w X : World) (o : Obj) : Prop := X.heap[w.heap.size]? = some o ∧ Below w.heap.size w X
theorem OneB.step {w X Y : World} {o : Obj} (h : OneB w X o) (hb : Below X.heap.size X Y) : OneB w Y o :=
  ⟨(hb.block _ (Array.getElem?_eq_some_iff.1 h.1).1).trans h.1, bl_tr h.2 hb⟩
theorem OneB.start (w : World) (o : Obj) : OneB w (w.alloc o) o := ⟨heap_alloc_new _ _, by (repeat (with_reducible first | exact Below.refl _ _ | (refine bl_set ?_ (by first | omega | (simp; done) | (simp; omega)) _) | refine bl_gr ?_ _ | refine bl_al ?_ _ | refine below_setRow ?_ (by first | omega | (simp; done) | (simp; omega)) _ | refine bl_drewN ?_ _ | refine Below.drew ?_ | (refine bl_tr ?_ (by assumption))))⟩
theorem OneB.lt {w X : World} {o : Obj} (h : OneB w X o) : w.heap.size < X.heap.size := (Array.getElem?_eq_some_iff.1 h.1).1
/-- the depth of the kid at an index -/
def kidD (t : Tree) (i : Nat) : Int := match t.kids[i]? with | some c => deepT c | none => 0
theorem deepA_kid (t : Tree) : deepA t.kids = kidD t 0 := by
  unfold kidD
  cases t.kids with
  | nil => rw [deepA]; rfl
  | cons a l => rw [deepA]; rfl
theorem deepB_kid (t : Tree) : deepB t.kids = kidD t 1 := by
  unfold kidD
  cases t.kids with
  | nil => rw [deepB]; rfl
  | cons a l =>
    rw [deepB]
    cases l with
    | nil => rw [deepA]; rfl
    | cons b l => rw [deepA]; rfl
/-- the depth of the first q kids -/
def deepQ (l : List Tree) (q : Nat) : Int := deepK (l.take q)
theorem deepK_append (l : List Tree) (t : Tree) : deepK (l ++ [t]) = max (deepK l) (deepT t) := by
  induction l with
  | nil => simp [deepK]; have := (deepT_bound t).1; omega
  | cons u l ih => rw [List.cons_append, deepK, ih, deepK]; omega
theorem deepQ_next {l : List Tree} {q : Nat} {t : Tree} (h : l[q]? = some t) : deepQ l (q + 1) = max (deepQ l q) (deepT t) := by
  unfold deepQ
  rw [List.take_add_one, h]
  exact deepK_append _ _
theorem deepQ_le (l : List Tree) (q : Nat) : deepQ l q ≤ (sizeK l : Int) := by
  unfold deepQ
  induction l generalizing q with
  | nil => simp [deepK, sizeK]
  | cons u l ih =>
    cases q with
    | zero => rw [List.take_zero, deepK]; omega
    | succ q => rw [List.take_succ_cons, deepK, sizeK]; have h1 := ih q; have h2 := (deepT_bound u).2; omega
theorem w64z {z : Int} (h : 0 ≤ z ∧ z ≤ 1000000) : wrap64 (z + 1) = z + 1 := by unfold wrap64; omega
theorem deepK_nonneg (l : List Tree) : 0 ≤ deepK l := by
  induction l with
  | nil => rw [deepK]; omega
  | cons u l ih => rw [deepK]; omega
theorem deepK_le (l : List Tree) : deepK l ≤ (sizeK l : Int) := by
  induction l with
  | nil => rw [deepK, sizeK]; omega
  | cons u l ih => rw [deepK, sizeK]; have := (deepT_bound u).2; omega
/-- Deep of a node, for trees smaller than N -/
def DeepC (N : Nat) : Prop := ∀ (P : Nat → Prop) (t : Tree) (A : Option Addr) (c : Nat) (w : World), sizeT t < N → IsNd P w (.slice A t.kids.length c) t.kids →
  Calls Tryd.prog 14 #[nodeV t (.slice A t.kids.length c)] w fun e w' => e = .returned (.int .i64 (deepT t)) ∧ Below w.heap.size w w'
set_option maxRecDepth 100000 in
set_option maxHeartbeats 4000000 in
theorem kid_any {N : Nat} (IH : DeepC N) (P : Nat → Prop) (t : Tree) (A : Option Addr) (c : Nat) (q : Nat) (w : World) (ht : sizeT t ≤ N) (h : IsNd P w (.slice A t.kids.length c) t.kids) :
    Calls Tryd.prog 27 #[nodeV t (.slice A t.kids.length c), .int .i64 (q : Int)] w fun e w' => e = .returned (.int .i64 (kidD t q)) ∧ Below w.heap.size w w' := by
  by_cases hq : t.kids.length ≤ q
  · have q1 : (t.kids.length : Int) ≤ (q : Int) := by omega
    have RS := Lib.hid (show kidD t q = 0 by unfold kidD; rw [List.getElem?_eq_none hq])
    rw [RS.out]
    clear h
    go_enter Tryd.func27, Tryd.ntmps27
    go_wp2
    go_ret
    exact ⟨rfl, by (repeat (with_reducible first | exact Below.refl _ _ | (refine bl_set ?_ (by first | omega | (simp; done) | (simp; omega)) _) | refine bl_gr ?_ _ | refine bl_al ?_ _ | refine below_setRow ?_ (by first | omega | (simp; done) | (simp; omega)) _ | refine bl_drewN ?_ _ | refine Below.drew ?_ | (refine bl_tr ?_ (by assumption))))⟩
  · have q1 : ¬ (t.kids.length : Int) ≤ (q : Int) := by omega
    have q2 : (q : Int) < (t.kids.length : Int) := by omega
    have q3 : ¬ (q : Int) < 0 := by omega
    obtain ⟨d, hd⟩ : ∃ d, t.kids[q]? = some d := ⟨_, List.getElem?_eq_getElem (by omega)⟩
    have RS := Lib.hid (show kidD t q = deepT d by unfold kidD; rw [hd])
    rw [RS.out]
    obtain ⟨b, off, cap, A', c', e1, lb, hp, hk, f0, f1, f2, f3, f4, f5⟩ := h.at_ hd
    simp only [Value.slice.injEq] at e1
    obtain ⟨rfl, _, rfl⟩ := e1
    have lbn : ∀ u, b < w.heap.size + u := fun u => Nat.lt_of_lt_of_le lb (Nat.le_add_right _ _)
    have DD := Lib.hid (fun W (hW : Below w.heap.size w W) => IH P d A' c' W (by have := sizeT_kid (List.mem_of_getElem? hd); omega) (hk.bel hW))
    clear h hk hd ht hq
    go_enter Tryd.func27, Tryd.ntmps27
    go_wp2_with (go_at_call 14; refine (callGr (DD.out _ (by (repeat (with_reducible first | exact Below.refl _ _ | (refine bl_set ?_ (by first | omega | (simp; done) | (simp; omega)) _) | refine bl_gr ?_ _ | refine bl_al ?_ _ | refine below_setRow ?_ (by first | omega | (simp; done) | (simp; omega)) _ | refine bl_drewN ?_ _ | refine Below.drew ?_ | (refine bl_tr ?_ (by assumption))))))).mono ?_; rintro e w' ⟨pp, rfl, rfl⟩)
    go_ret
    exact ⟨rfl, by (repeat (with_reducible first | exact Below.refl _ _ | (refine bl_set ?_ (by first | omega | (simp; done) | (simp; omega)) _) | refine bl_gr ?_ _ | refine bl_al ?_ _ | refine below_setRow ?_ (by first | omega | (simp; done) | (simp; omega)) _ | refine bl_drewN ?_ _ | refine Below.drew ?_ | (refine bl_tr ?_ (by assumption))))⟩
set_option maxRecDepth 100000 in
set_option maxHeartbeats 4000000 in
theorem deep_step {N : Nat} (hN : N ≤ 1000000) (IH : DeepC N) : DeepC (N + 1) := by
  intro P t A c w ht h
  have hs := deepT_bound t
  have KD := Lib.hid (fun (q : Nat) W (hW : Below w.heap.size w W) => kid_any IH P t A c q W (by omega) (h.bel hW))
  have KE := Lib.hid (deepT_eq t)
  have HL := Lib.hid (show t.kids.length ≤ 1000000 by have := sizeK_len t.kids; have := sizeT_eq t; omega)
  have HS := Lib.hid (show sizeK t.kids ≤ 1000000 by have := sizeT_eq t; omega)
  have ways : (t.op == 60) = true ∨ ((t.op == 60) = false ∧ (t.op == 61) = true) ∨ ((t.op == 60) = false ∧ (t.op == 61) = false ∧ (t.op == 63) = true) ∨ ((t.op == 60) = false ∧ (t.op == 61) = false ∧ (t.op == 63) = false ∧ (t.op == 64) = true) ∨ ((t.op == 60) = false ∧ (t.op == 61) = false ∧ (t.op == 63) = false ∧ (t.op == 64) = false ∧ (t.op == 62) = true) ∨ ((t.op == 60) = false ∧ (t.op == 61) = false ∧ (t.op == 63) = false ∧ (t.op == 64) = false ∧ (t.op == 62) = false) := by
    cases (t.op == 60) <;> cases (t.op == 61) <;> cases (t.op == 63) <;> cases (t.op == 64) <;> cases (t.op == 62) <;> simp
  have O := Lib.hid (fun (k : Int) (h : (t.op == k) = true) => (by simpa using h : t.op = k))
  have ON := Lib.hid (fun (k : Int) (h : (t.op == k) = false) => (by simpa using h : ¬ t.op = k))
  rcases ways with o0 | ⟨o0, o1⟩ | ⟨o0, o1, o3⟩ | ⟨o0, o1, o3, o4⟩ | ⟨o0, o1, o3, o4, o2⟩ | ⟨o0, o1, o3, o4, o2⟩
  · have R := Lib.hid (show deepT t = deepK t.kids + 1 by rw [KE.out, if_pos (.inl (O.out _ o0))])
    rw [R.out]
    have T0 := Lib.hid (OneB.start w (nodeO t (.slice A t.kids.length c)))
    clear hs h ht
    go_enter Tryd.func14, Tryd.ntmps14
    go_wp2
    go_loopw [3, 13] (fun s i X => ∃ (q : Nat) (z : Int), i = .int .i64 q ∧ s = .int .i64 z ∧ Hid (q ≤ t.kids.length ∧ z = deepQ t.kids q) ∧ OneB w X (nodeO t (.slice A t.kids.length c))) (fun _ i _ => t.kids.length - (intOf i).toNat)
    case atStart => exact ⟨0, 0, rfl, rfl, Lib.hid ⟨Nat.zero_le _, by unfold deepQ; rw [List.take_zero, deepK]⟩, T0.out⟩
    case round =>
      clear T0
      obtain ⟨q, z, rfl, rfl, HQ, hx⟩ := hrel
      have BX := Lib.hid hx
      obtain ⟨⟨a0, a1, a2, a3, a4, a5⟩, _⟩ := cells6n hx.1
      have l0 := hx.lt
      have DB := Lib.hid (show 0 ≤ deepQ t.kids q ∧ deepQ t.kids q ≤ 1000000 from ⟨deepK_nonneg _, by have h1 := deepQ_le t.kids q; have h2 := HS.out; omega⟩)
      by_cases hlt : q < t.kids.length
      · have q1 : (q : Int) < (t.kids.length : Int) := by omega
        obtain ⟨d, hd⟩ : ∃ d, t.kids[q]? = some d := ⟨_, List.getElem?_eq_getElem hlt⟩
        have NX := Lib.hid (show (if z < kidD t q then kidD t q else z) = deepQ t.kids (q + 1) by rw [deepQ_next hd, ← HQ.out.2]; unfold kidD; rw [hd]; simp only []; split <;> omega)
        have K1 := Lib.hid (fun W (hW : Below wr.heap.size wr W) => KD.out q W (bl_tr hx.2 hW))
        obtain ⟨kp, hkp, ek1⟩ : ∃ kp : Nat, kp = q + 1 ∧ wrap64 ((q : Int) + 1) = (kp : Int) := ⟨q + 1, rfl, w64c rfl (by have := HL.out; omega)⟩
        have KP := Lib.hid hkp
        have LQ := Lib.hid hlt
        generalize kidD t q = kd at *
        clear hkp hlt hd hx
        go_wp2_with (go_at_call 27; refine (callGr (K1.out _ (by (repeat (with_reducible first | exact Below.refl _ _ | (refine bl_set ?_ (by first | omega | (simp; done) | (simp; omega)) _) | refine bl_gr ?_ _ | refine bl_al ?_ _ | refine below_setRow ?_ (by first | omega | (simp; done) | (simp; omega)) _ | refine bl_drewN ?_ _ | refine Below.drew ?_ | (refine bl_tr ?_ (by assumption))))))).mono ?_; rintro e w' ⟨pp, rfl, rfl⟩)
        go_roundw
        case rel => exact ⟨kp, _, by first | with_reducible rfl | (rw [ek1]; done), rfl, Lib.hid ⟨by rw [KP.out]; exact LQ.out, by rw [KP.out]; exact NX.out⟩, BX.out.step (by (repeat (with_reducible first | exact Below.refl _ _ | (refine bl_set ?_ (by first | omega | (simp; done) | (simp; omega)) _) | refine bl_gr ?_ _ | refine bl_al ?_ _ | refine below_setRow ?_ (by first | omega | (simp; done) | (simp; omega)) _ | refine bl_drewN ?_ _ | refine Below.drew ?_ | (refine bl_tr ?_ (by assumption)))))⟩
        case measure => (first | ((try rw [ek1]); exact meas_c KP.out LQ.out) | (clear ek1; have := LQ.out; simp only [intOf]; omega))
      · have q1 : ¬ (q : Int) < (t.kids.length : Int) := by omega
        have FZ := Lib.hid (show z = deepK t.kids by rw [HQ.out.2, show q = t.kids.length by have := HQ.out.1; omega]; unfold deepQ; rw [List.take_length])
        have ez : wrap64 (z + 1) = z + 1 := w64z (by have h1 := DB.out; have h2 := HQ.out.2; rw [h2]; exact h1)
        clear hlt hx
        go_wp2
        go_ret
        exact ⟨by rw [← FZ.out]; rfl, BX.out.2⟩
  · have R := Lib.hid (show deepT t = deepK t.kids + 1 by rw [KE.out, if_pos (.inr (O.out _ o1))])
    rw [R.out]
    have T0 := Lib.hid (OneB.start w (nodeO t (.slice A t.kids.length c)))
    clear hs h ht
    go_enter Tryd.func14, Tryd.ntmps14
    go_wp2
    go_loopw [3, 13] (fun s i X => ∃ (q : Nat) (z : Int), i = .int .i64 q ∧ s = .int .i64 z ∧ Hid (q ≤ t.kids.length ∧ z = deepQ t.kids q) ∧ OneB w X (nodeO t (.slice A t.kids.length c))) (fun _ i _ => t.kids.length - (intOf i).toNat)
    case atStart => exact ⟨0, 0, rfl, rfl, Lib.hid ⟨Nat.zero_le _, by unfold deepQ; rw [List.take_zero, deepK]⟩, T0.out⟩
    case round =>
      clear T0
      obtain ⟨q, z, rfl, rfl, HQ, hx⟩ := hrel
      have BX := Lib.hid hx
      obtain ⟨⟨a0, a1, a2, a3, a4, a5⟩, _⟩ := cells6n hx.1
      have l0 := hx.lt
      have DB := Lib.hid (show 0 ≤ deepQ t.kids q ∧ deepQ t.kids q ≤ 1000000 from ⟨deepK_nonneg _, by have h1 := deepQ_le t.kids q; have h2 := HS.out; omega⟩)
      by_cases hlt : q < t.kids.length
      · have q1 : (q : Int) < (t.kids.length : Int) := by omega
        obtain ⟨d, hd⟩ : ∃ d, t.kids[q]? = some d := ⟨_, List.getElem?_eq_getElem hlt⟩
        have NX := Lib.hid (show (if z < kidD t q then kidD t q else z) = deepQ t.kids (q + 1) by rw [deepQ_next hd, ← HQ.out.2]; unfold kidD; rw [hd]; simp only []; split <;> omega)
        have K1 := Lib.hid (fun W (hW : Below wr.heap.size wr W) => KD.out q W (bl_tr hx.2 hW))
        obtain ⟨kp, hkp, ek1⟩ : ∃ kp : Nat, kp = q + 1 ∧ wrap64 ((q : Int) + 1) = (kp : Int) := ⟨q + 1, rfl, w64c rfl (by have := HL.out; omega)⟩
        have KP := Lib.hid hkp
        have LQ := Lib.hid hlt
        generalize kidD t q = kd at *
        clear hkp hlt hd hx
        go_wp2_with (go_at_call 27; refine (callGr (K1.out _ (by (repeat (with_reducible first | exact Below.refl _ _ | (refine bl_set ?_ (by first | omega | (simp; done) | (simp; omega)) _) | refine bl_gr ?_ _ | refine bl_al ?_ _ | refine below_setRow ?_ (by first | omega | (simp; done) | (simp; omega)) _ | refine bl_drewN ?_ _ | refine Below.drew ?_ | (refine bl_tr ?_ (by assumption))))))).mono ?_; rintro e w' ⟨pp, rfl, rfl⟩)
        go_roundw
        case rel => exact ⟨kp, _, by first | with_reducible rfl | (rw [ek1]; done), rfl, Lib.hid ⟨by rw [KP.out]; exact LQ.out, by rw [KP.out]; exact NX.out⟩, BX.out.step (by (repeat (with_reducible first | exact Below.refl _ _ | (refine bl_set ?_ (by first | omega | (simp; done) | (simp; omega)) _) | refine bl_gr ?_ _ | refine bl_al ?_ _ | refine below_setRow ?_ (by first | omega | (simp; done) | (simp; omega)) _ | refine bl_drewN ?_ _ | refine Below.drew ?_ | (refine bl_tr ?_ (by assumption)))))⟩
        case measure => (first | ((try rw [ek1]); exact meas_c KP.out LQ.out) | (clear ek1; have := LQ.out; simp only [intOf]; omega))
      · have q1 : ¬ (q : Int) < (t.kids.length : Int) := by omega
        have FZ := Lib.hid (show z = deepK t.kids by rw [HQ.out.2, show q = t.kids.length by have := HQ.out.1; omega]; unfold deepQ; rw [List.take_length])
        have ez : wrap64 (z + 1) = z + 1 := w64z (by have h1 := DB.out; have h2 := HQ.out.2; rw [h2]; exact h1)
        clear hlt hx
        go_wp2
        go_ret
        exact ⟨by rw [← FZ.out]; rfl, BX.out.2⟩
  · have R := Lib.hid (show deepT t = kidD t 0 by rw [KE.out]; rw [if_neg (by rintro (h | h); exact ON.out _ o0 h; exact ON.out _ o1 h)]; rw [if_pos (.inl (O.out _ o3)), deepA_kid])
    rw [R.out]
    clear hs h ht
    go_enter Tryd.func14, Tryd.ntmps14
    go_wp2_with (go_at_call 27; refine (callGr (KD.out 0 _ (by (repeat (with_reducible first | exact Below.refl _ _ | (refine bl_set ?_ (by first | omega | (simp; done) | (simp; omega)) _) | refine bl_gr ?_ _ | refine bl_al ?_ _ | refine below_setRow ?_ (by first | omega | (simp; done) | (simp; omega)) _ | refine bl_drewN ?_ _ | refine Below.drew ?_ | (refine bl_tr ?_ (by assumption))))))).mono ?_; rintro e w' ⟨pp, rfl, rfl⟩)
    go_ret
    exact ⟨rfl, by (repeat (with_reducible first | exact Below.refl _ _ | (refine bl_set ?_ (by first | omega | (simp; done) | (simp; omega)) _) | refine bl_gr ?_ _ | refine bl_al ?_ _ | refine below_setRow ?_ (by first | omega | (simp; done) | (simp; omega)) _ | refine bl_drewN ?_ _ | refine Below.drew ?_ | (refine bl_tr ?_ (by assumption))))⟩
  · have R := Lib.hid (show deepT t = kidD t 0 by rw [KE.out]; rw [if_neg (by rintro (h | h); exact ON.out _ o0 h; exact ON.out _ o1 h)]; rw [if_pos (.inr (O.out _ o4)), deepA_kid])
    rw [R.out]
    clear hs h ht
    go_enter Tryd.func14, Tryd.ntmps14
    go_wp2_with (go_at_call 27; refine (callGr (KD.out 0 _ (by (repeat (with_reducible first | exact Below.refl _ _ | (refine bl_set ?_ (by first | omega | (simp; done) | (simp; omega)) _) | refine bl_gr ?_ _ | refine bl_al ?_ _ | refine below_setRow ?_ (by first | omega | (simp; done) | (simp; omega)) _ | refine bl_drewN ?_ _ | refine Below.drew ?_ | (refine bl_tr ?_ (by assumption))))))).mono ?_; rintro e w' ⟨pp, rfl, rfl⟩)
    go_ret
    exact ⟨rfl, by (repeat (with_reducible first | exact Below.refl _ _ | (refine bl_set ?_ (by first | omega | (simp; done) | (simp; omega)) _) | refine bl_gr ?_ _ | refine bl_al ?_ _ | refine below_setRow ?_ (by first | omega | (simp; done) | (simp; omega)) _ | refine bl_drewN ?_ _ | refine Below.drew ?_ | (refine bl_tr ?_ (by assumption))))⟩
  · have R := Lib.hid (show deepT t = kidD t 1 by rw [KE.out]; rw [if_neg (by rintro (h | h); exact ON.out _ o0 h; exact ON.out _ o1 h)]; rw [if_neg (by rintro (h | h); exact ON.out _ o3 h; exact ON.out _ o4 h)]; rw [if_pos (O.out _ o2), deepB_kid])
    rw [R.out]
    clear hs h ht
    go_enter Tryd.func14, Tryd.ntmps14
    go_wp2_with (go_at_call 27; refine (callGr (KD.out 1 _ (by (repeat (with_reducible first | exact Below.refl _ _ | (refine bl_set ?_ (by first | omega | (simp; done) | (simp; omega)) _) | refine bl_gr ?_ _ | refine bl_al ?_ _ | refine below_setRow ?_ (by first | omega | (simp; done) | (simp; omega)) _ | refine bl_drewN ?_ _ | refine Below.drew ?_ | (refine bl_tr ?_ (by assumption))))))).mono ?_; rintro e w' ⟨pp, rfl, rfl⟩)
    go_ret
    exact ⟨rfl, by (repeat (with_reducible first | exact Below.refl _ _ | (refine bl_set ?_ (by first | omega | (simp; done) | (simp; omega)) _) | refine bl_gr ?_ _ | refine bl_al ?_ _ | refine below_setRow ?_ (by first | omega | (simp; done) | (simp; omega)) _ | refine bl_drewN ?_ _ | refine Below.drew ?_ | (refine bl_tr ?_ (by assumption))))⟩
  · have R := Lib.hid (show deepT t = 0 by rw [KE.out]; rw [if_neg (by rintro (h | h); exact ON.out _ o0 h; exact ON.out _ o1 h)]; rw [if_neg (by rintro (h | h); exact ON.out _ o3 h; exact ON.out _ o4 h)]; rw [if_neg (ON.out _ o2)])
    rw [R.out]
    clear hs h ht
    go_enter Tryd.func14, Tryd.ntmps14
    go_wp2
    go_ret
    exact ⟨rfl, by (repeat (with_reducible first | exact Below.refl _ _ | (refine bl_set ?_ (by first | omega | (simp; done) | (simp; omega)) _) | refine bl_gr ?_ _ | refine bl_al ?_ _ | refine below_setRow ?_ (by first | omega | (simp; done) | (simp; omega)) _ | refine bl_drewN ?_ _ | refine Below.drew ?_ | (refine bl_tr ?_ (by assumption))))⟩
theorem deep_any (P : Nat → Prop) (t : Tree) (A : Option Addr) (c : Nat) (w : World) (ht : sizeT t ≤ 100000) (h : IsNd P w (.slice A t.kids.length c) t.kids) :
    Calls Tryd.prog 14 #[nodeV t (.slice A t.kids.length c)] w fun e w' => e = .returned (.int .i64 (deepT t)) ∧ Below w.heap.size w w' := by
  have : ∀ N, N ≤ 1000000 → DeepC N := by
    intro N
    induction N with
    | zero => intro _ P t A c w ht; omega
    | succ N ih => exact fun hN => deep_step (by omega) (ih (by omega))
  exact this 100001 (by omega) P t A c w (by omega) h
end Go.Proofs.YtiagegecnopfgaaDoor
