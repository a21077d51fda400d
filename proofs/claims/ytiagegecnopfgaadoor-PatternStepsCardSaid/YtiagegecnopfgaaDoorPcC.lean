/- The reference's digits, called and rests, walked. -/
import Derived.Test.YtiagegecnopfgaaDoorPcB
import Derived.Lib.ConvBytes
namespace Go.Proofs.YtiagegecnopfgaaDoor
set_option linter.all false
open Go.ChangeShapes Go.WideShapes Go.ChangeAt Go.RowKit Go.Sort Go.Deep

abbrev decB' (d : Nat) : UInt8 := UInt8.ofNat (48 + d)
theorem strL_app (l m : List UInt8) : strL (l ++ m) = strL l ++ strL m := by
  unfold strL
  apply ByteArray.ext
  simp
theorem strL_sz (l : List UInt8) : (strL l).size = l.length := rfl
theorem dec_step {u : Nat} (h : ¬ u < 10) : Lib.decDigits u = Lib.decDigits (u / 10) ++ [decB' (u % 10)] := by
  rw [Lib.decDigits, dif_neg h]
theorem dec_one {u : Nat} (h : u < 10) : Lib.decDigits u = [decB' u] := by
  rw [Lib.decDigits, dif_pos h]
theorem dec_len (u : Nat) (h : u ≤ 9223372036854775808) : (Lib.decDigits u).length ≤ 21 := by
  by_cases h1 : u ≤ 9223372036854775807
  · have := Lib.itoa_length_le (u : Int) (by omega) (by omega)
    rw [Lib.itoa_nonneg] at this
    exact this
  · obtain rfl : u = 9223372036854775808 := by omega
    have := Lib.itoa_length_le (-9223372036854775808) (by omega) (by omega)
    unfold Lib.itoa at this
    rw [if_pos (by decide)] at this
    have e : (-9223372036854775808 : Int).natAbs = 9223372036854775808 := rfl
    rw [e, List.length_cons] at this
    omega
/-- one byte as a string -/
theorem conv_one (W : World) (d : Nat) (h : d ≤ 255) : (convert 69 9 (.slice (some ⟨W.heap.size, 0, none⟩) 1 1)).run Tryd.prog (W.alloc (.cells #[.int .u8 (d : Int)] 5)) = .ok (.string (strL [UInt8.ofNat d])) (W.alloc (.cells #[.int .u8 (d : Int)] 5)) := by
  have hd : ((UInt8.ofNat d).toNat : Int) = (d : Int) := by simp; omega
  refine run_convert_bytes_back _ 69 9 5 ⟨W.heap.size, 0, none⟩ 1 [UInt8.ofNat d] Tryd.underlying69 Tryd.underlying5 Tryd.underlying9 (fun j hj => ?_)
  simp at hj
  subst hj
  rw [add_off, cell_of_row _ W.heap.size _ _ _ _ (heap_alloc_new _ _)]
  simp
  omega
/-- the numbers of one digit's step -/
theorem digit_ex (v : Nat) (hv : v ≤ 9223372036854775808) : ∃ m r dd : Nat, v / 10 = m ∧ v % 10 = r ∧ dd = 48 + r ∧ dd ≤ 255 ∧ m ≤ 9223372036854775808 ∧ (v : Int).tmod 10 = (r : Int) ∧ (v : Int) % 10 = (r : Int) ∧ (v : Int).tdiv 10 = (m : Int) ∧ (v : Int) / 10 = (m : Int) ∧ IntKind.u64.wrap (48 + (r : Int)) = (dd : Int) ∧ IntKind.u8.wrap (dd : Int) = (dd : Int) ∧ IntKind.u64.wrap (m : Int) = (m : Int) ∧ IntKind.u64.wrap (r : Int) = (r : Int) := by
  refine ⟨v / 10, v % 10, 48 + v % 10, rfl, rfl, rfl, by omega, by omega, ?_, by omega, ?_, by omega, ?_, ?_, ?_, ?_⟩
  · rw [IntWalk.rem_in _ _ (by omega)]
    omega
  · rw [Int.tdiv_eq_ediv_of_nonneg (by omega)]
    omega
  · rw [IntWalk.u64_in _ (by omega)]
    omega
  · exact IntWalk.u8_in _ (by omega)
  · exact IntWalk.u64_in _ (by omega)
  · exact IntWalk.u64_in _ (by omega)
set_option maxRecDepth 100000 in
set_option maxHeartbeats 8000000 in
theorem plain_any (u : Nat) (w : World) (hu : u ≤ 9223372036854775808) : Calls Tryd.prog 45 #[.int .u64 (u : Int)] w fun e w' => e = .returned (.string (strL (Lib.decDigits u))) ∧ Below w.heap.size w w' := by
  have DL := Lib.hid (dec_len u hu)
  have HU := Lib.hid hu
  clear hu
  go_enter Tryd.func45, Tryd.ntmps45
  go_wp2
  go_loopw [0, 3] (fun x s X => ∃ (v : Nat) (O : ByteArray) (l : List UInt8), x = .int .u64 (v : Int) ∧ s = .string O ∧ Hid (O = strL l ∧ Lib.decDigits u = Lib.decDigits v ++ l ∧ v ≤ 9223372036854775808) ∧ Hid (Below w.heap.size w X)) (fun x _ _ => (intOf x).toNat)
  case atStart => exact ⟨u, ⟨#[]⟩, [], rfl, rfl, Lib.hid ⟨rfl, by simp, HU.out⟩, Lib.hid (Below.refl _ _)⟩
  case round =>
    obtain ⟨v, O, l, rfl, rfl, HI, HB⟩ := hrel
    obtain ⟨m, r, dd, hm, hr, hdd, d1, d2, w1, w2, w3, w4, w5, w6, w7, w8⟩ := digit_ex v HI.out.2.2
    have hO : O.size ≤ 21 := by
      have h1 := DL.out
      rw [HI.out.2.1, List.length_append] at h1
      rw [HI.out.1, strL_sz]
      omega
    by_cases hv : 10 ≤ v
    · have q0 : (10 : Int) ≤ (v : Int) := by omega
      have CV := fun W => conv_one W dd d1
      have hs1 : (strL [UInt8.ofNat dd]).size = 1 := rfl
      have RES := Lib.hid (show strL [UInt8.ofNat dd] ++ O = strL (UInt8.ofNat dd :: l) ∧ Lib.decDigits u = Lib.decDigits m ++ (UInt8.ofNat dd :: l) ∧ m ≤ 9223372036854775808 from ⟨by rw [HI.out.1, ← strL_app]; rfl, by rw [HI.out.2.1, dec_step (by omega), hm, hr, hdd]; simp, d2⟩)
      have MS := Lib.hid (show m < v by omega)
      generalize strL [UInt8.ofNat dd] = D at *
      have q1 : ¬ 9223372036854775807 < D.size + O.size := by omega
      have q2 : D.size + O.size ≤ 9223372036854775807 := by omega
      clear hm hr hdd d1 d2 hO hs1 hv
      go_wp2
      go_roundw
      case rel => exact ⟨m, D ++ O, _, rfl, rfl, Lib.hid RES.out, Lib.hid (by (repeat (with_reducible first | exact HB.out | exact Below.refl _ _ | refine bl_rapp ?_ | (refine bl_set ?_ (by first | omega | (simp; done) | (simp; omega)) _) | refine bl_gr ?_ _ | refine bl_al ?_ _ | refine bl_drewN ?_ _ | refine Below.drew ?_)))⟩
      case measure => (have := MS.out; clear w1 w2 w3 w4 w5 w6 w7 w8; simp only [intOf]; omega)
    · have q0 : ¬ (10 : Int) ≤ (v : Int) := by omega
      obtain ⟨de, he, e1, e2, e3⟩ : ∃ de : Nat, de = 48 + v ∧ de ≤ 255 ∧ IntKind.u64.wrap (48 + (v : Int)) = (de : Int) ∧ IntKind.u8.wrap (de : Int) = (de : Int) := ⟨48 + v, rfl, by omega, by rw [IntWalk.u64_in _ (by omega)]; omega, IntWalk.u8_in _ (by omega)⟩
      have CV := fun W => conv_one W de e1
      have hs1 : (strL [UInt8.ofNat de]).size = 1 := rfl
      have RES := Lib.hid (show strL [UInt8.ofNat de] ++ O = strL (Lib.decDigits u) by rw [HI.out.1, ← strL_app, HI.out.2.1, dec_one (by omega), he])
      generalize strL [UInt8.ofNat de] = D at *
      have q1 : ¬ 9223372036854775807 < D.size + O.size := by omega
      have q2 : D.size + O.size ≤ 9223372036854775807 := by omega
      clear hm hr hdd d1 d2 hO hs1 hv w1 w2 w3 w4 w5 w6 w7 w8 he e1
      go_wp2
      go_ret
      exact ⟨by rw [← RES.out]; rfl, by (repeat (with_reducible first | exact HB.out | exact Below.refl _ _ | refine bl_rapp ?_ | (refine bl_set ?_ (by first | omega | (simp; done) | (simp; omega)) _) | refine bl_gr ?_ _ | refine bl_al ?_ _ | refine bl_drewN ?_ _ | refine Below.drew ?_))⟩
set_option maxRecDepth 100000 in
set_option maxHeartbeats 8000000 in
theorem digits_any (n : Int) (w : World) (hn : i64ok n) : Calls Tryd.prog 43 #[.int .i64 n] w fun e w' => e = .returned (.string (strL (Lib.itoa n))) ∧ Below w.heap.size w w' := by
  unfold i64ok at hn
  by_cases h : n < 0
  · obtain ⟨u, hu, hu2⟩ : ∃ u : Nat, n = -(u : Int) ∧ u ≤ 9223372036854775808 := ⟨n.natAbs, by omega, by omega⟩
    have PA := Lib.hid (fun W => plain_any u W hu2)
    have RES := Lib.hid (show strL [45] ++ strL (Lib.decDigits u) = strL (Lib.itoa n) by
      unfold Lib.itoa
      rw [if_pos h, ← strL_app, show n.natAbs = u by omega]
      rfl)
    obtain ⟨p, hp⟩ : ∃ p : Nat, u = p + 1 := ⟨u - 1, by omega⟩
    have k1 : wrap64 (n + 1) = -(p : Int) := by unfold wrap64; omega
    have k2 : wrap64 (-(-(p : Int))) = (p : Int) := by unfold wrap64; omega
    have k2' : wrap64 (p : Int) = (p : Int) := by unfold wrap64; omega
    have k3 : IntKind.u64.wrap (p : Int) = (p : Int) := IntWalk.u64_in _ (by omega)
    have k4 : IntKind.u64.wrap ((p : Int) + 1) = (u : Int) := by rw [IntWalk.u64_in _ (by omega)]; omega
    have hs := dec_len u hu2
    have hs1 : (strL (Lib.decDigits u)).size ≤ 21 := hs
    generalize strL (Lib.decDigits u) = D at *
    have q1 : ¬ 9223372036854775807 < 1 + D.size := by omega
    have q2 : 1 + D.size ≤ 9223372036854775807 := by omega
    have e45 : strL [45] = ⟨#[45]⟩ := rfl
    have es : (⟨#[45]⟩ : ByteArray).size = 1 := rfl
    rw [e45] at RES
    clear hn hu hu2 hp hs hs1 e45
    go_enter Tryd.func43, Tryd.ntmps43
    go_wp2_with (go_at_call 45; refine (callGr (PA.out _)).mono ?_; rintro e w' ⟨pp, rfl, rfl⟩)
    go_ret
    exact ⟨by rw [← RES.out]; rfl, by (repeat (with_reducible first | exact Below.refl _ _ | (refine bl_set ?_ (by first | omega | (simp; done) | (simp; omega)) _) | refine bl_gr ?_ _ | refine bl_al ?_ _ | refine below_setRow ?_ (by first | omega | (simp; done) | (simp; omega)) _ | refine bl_drewN ?_ _ | refine Below.drew ?_ | (refine bl_tr ?_ (by assumption))))⟩
  · obtain ⟨u, hu, hu2⟩ : ∃ u : Nat, n = (u : Int) ∧ u ≤ 9223372036854775807 := ⟨n.toNat, by omega, by omega⟩
    subst hu
    have PA := Lib.hid (fun W => plain_any u W (by omega))
    have RES := Lib.hid (show strL (Lib.decDigits u) = strL (Lib.itoa (u : Int)) by rw [Lib.itoa_nonneg])
    have k3 : IntKind.u64.wrap (u : Int) = (u : Int) := IntWalk.u64_in _ (by omega)
    clear hn
    go_enter Tryd.func43, Tryd.ntmps43
    go_wp2_with (go_at_call 45; refine (callGr (PA.out _)).mono ?_; rintro e w' ⟨pp, rfl, rfl⟩)
    go_ret
    exact ⟨by rw [← RES.out]; rfl, by (repeat (with_reducible first | exact Below.refl _ _ | (refine bl_set ?_ (by first | omega | (simp; done) | (simp; omega)) _) | refine bl_gr ?_ _ | refine bl_al ?_ _ | refine below_setRow ?_ (by first | omega | (simp; done) | (simp; omega)) _ | refine bl_drewN ?_ _ | refine Below.drew ?_ | (refine bl_tr ?_ (by assumption))))⟩
set_option maxRecDepth 100000 in
set_option maxHeartbeats 8000000 in
theorem called_any (t : Tree) (k : Value) (w : World) (hn : i64ok t.n) : Calls Tryd.prog 41 #[nodeV t k] w fun e w' => e = .returned (.string (keyS t)) ∧ Below w.heap.size w w' := by
  by_cases h : t.op = 31
  · have o1 : (t.op == 31) = true := beq_iff_eq.2 h
    have RES := Lib.hid (show keyS t = t.s by unfold keyS; rw [if_pos h])
    clear h hn
    go_enter Tryd.func41, Tryd.ntmps41
    go_wp2
    go_ret
    exact ⟨by rw [RES.out]; rfl, by (repeat (with_reducible first | exact Below.refl _ _ | (refine bl_set ?_ (by first | omega | (simp; done) | (simp; omega)) _) | refine bl_gr ?_ _ | refine bl_al ?_ _ | refine below_setRow ?_ (by first | omega | (simp; done) | (simp; omega)) _ | refine bl_drewN ?_ _ | refine Below.drew ?_ | (refine bl_tr ?_ (by assumption))))⟩
  · have o1 : (t.op == 31) = false := beq_eq_false_iff_ne.2 h
    have RES := Lib.hid (show keyS t = strL (Lib.itoa t.n) by unfold keyS; rw [if_neg h])
    have DA := Lib.hid (fun W => digits_any t.n W hn)
    clear h hn
    go_enter Tryd.func41, Tryd.ntmps41
    go_wp2_with (go_at_call 43; refine (callGr (DA.out _)).mono ?_; rintro e w' ⟨pp, rfl, rfl⟩)
    go_ret
    exact ⟨by rw [RES.out]; rfl, by (repeat (with_reducible first | exact Below.refl _ _ | (refine bl_set ?_ (by first | omega | (simp; done) | (simp; omega)) _) | refine bl_gr ?_ _ | refine bl_al ?_ _ | refine below_setRow ?_ (by first | omega | (simp; done) | (simp; omega)) _ | refine bl_drewN ?_ _ | refine Below.drew ?_ | (refine bl_tr ?_ (by assumption))))⟩
theorem restK_nil : restK [] = false := rfl
set_option maxRecDepth 100000 in
set_option maxHeartbeats 8000000 in
theorem rests_any (P : Nat → Prop) (t : Tree) (A : Option Addr) (c : Nat) (w : World) (h : IsNd P w (.slice A t.kids.length c) t.kids) : Calls Tryd.prog 40 #[nodeV t (.slice A t.kids.length c)] w fun e w' => e = .returned (.bool (restK t.kids)) ∧ Below w.heap.size w w' := by
  by_cases hl : 0 < t.kids.length
  · obtain ⟨d, hd⟩ : ∃ d, t.kids[t.kids.length - 1]? = some d := ⟨_, List.getElem?_eq_getElem (by omega)⟩
    have RES := Lib.hid (restK_last t.kids d hd)
    obtain ⟨b, off, cap, A5, c5, e1, lb, hp, hk, f0, f1, f2, f3, f4, f5⟩ := h.at_ hd
    simp only [Value.slice.injEq] at e1
    obtain ⟨rfl, _, rfl⟩ := e1
    have hm : t.kids.length ≤ 9223372036854775807 := by obtain ⟨_, _, _, hm⟩ := h.form; unfold maxLen at hm; omega
    have lbn : ∀ u, b < w.heap.size + u := fun u => Nat.lt_of_lt_of_le lb (Nat.le_add_right _ _)
    obtain ⟨m, hmm, kw⟩ : ∃ m : Nat, t.kids.length - 1 = m ∧ wrap64 ((t.kids.length : Int) - 1) = (m : Int) := ⟨_, rfl, w64c (by omega) (by omega)⟩
    rw [hmm] at f0 f1 f2 f3 f4 f5
    have q0 : (0 : Int) < (t.kids.length : Int) := by omega
    have q1 : (m : Int) < (t.kids.length : Int) := by omega
    have q2 : ¬ (m : Int) < 0 := by omega
    have ob : (d.op == 64) = true ∨ (d.op == 64) = false := by cases (d.op == 64) <;> simp
    rw [RES.out]
    clear h hd hp hk hmm hm hl
    rcases ob with ob | ob
    · rw [ob]
      go_enter Tryd.func40, Tryd.ntmps40
      go_wp2
      go_ret
      exact ⟨rfl, by (repeat (with_reducible first | exact Below.refl _ _ | (refine bl_set ?_ (by first | omega | (simp; done) | (simp; omega)) _) | refine bl_gr ?_ _ | refine bl_al ?_ _ | refine below_setRow ?_ (by first | omega | (simp; done) | (simp; omega)) _ | refine bl_drewN ?_ _ | refine Below.drew ?_ | (refine bl_tr ?_ (by assumption))))⟩
    · rw [ob]
      go_enter Tryd.func40, Tryd.ntmps40
      go_wp2
      go_ret
      exact ⟨rfl, by (repeat (with_reducible first | exact Below.refl _ _ | (refine bl_set ?_ (by first | omega | (simp; done) | (simp; omega)) _) | refine bl_gr ?_ _ | refine bl_al ?_ _ | refine below_setRow ?_ (by first | omega | (simp; done) | (simp; omega)) _ | refine bl_drewN ?_ _ | refine Below.drew ?_ | (refine bl_tr ?_ (by assumption))))⟩
  · have hk : t.kids = [] := List.eq_nil_of_length_eq_zero (by omega)
    have RES := Lib.hid (show restK t.kids = false by rw [hk]; rfl)
    have q0 : ¬ (0 : Int) < (t.kids.length : Int) := by omega
    rw [RES.out]
    clear h hl hk
    go_enter Tryd.func40, Tryd.ntmps40
    go_wp2
    go_ret
    exact ⟨rfl, by (repeat (with_reducible first | exact Below.refl _ _ | (refine bl_set ?_ (by first | omega | (simp; done) | (simp; omega)) _) | refine bl_gr ?_ _ | refine bl_al ?_ _ | refine below_setRow ?_ (by first | omega | (simp; done) | (simp; omega)) _ | refine bl_drewN ?_ _ | refine Below.drew ?_ | (refine bl_tr ?_ (by assumption))))⟩
end Go.Proofs.YtiagegecnopfgaaDoor
