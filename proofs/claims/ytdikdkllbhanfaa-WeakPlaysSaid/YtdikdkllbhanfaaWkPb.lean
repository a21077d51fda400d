/- Weak maps: the law WeakPlays, walked. -/
import Derived.Test.YtdikdkllbhanfaaWkPa
import Derived.Test.YtdikdkllbhanfaaWkXa
namespace Go.Proofs.Ytdikdkllbhanfaa
set_option linter.all false
open Go.RowKit Go.Sort Go.Deep Go.Shelf

def kP (keys : List Int) (i : Nat) : Int := 1 + ((keys[i]?.getD 0) % 18446744073709551616) % 5
def dP (deeds : List Int) (i : Nat) : Bool := (deeds[i]?.getD 0).tmod 3 == 0
theorem kP_range (keys : List Int) (i : Nat) : 1 ≤ kP keys i ∧ kP keys i ≤ 5 := by unfold kP; omega
theorem min3 (a b : Nat) : ∃ n : Nat, n = min (min a b) 60 ∧ n ≤ 60 ∧ n ≤ a ∧ n ≤ b ∧ 
    (if (60 : Int) < (if b < a then (b : Int) else (a : Int)) then (60 : Int) else (if b < a then (b : Int) else (a : Int))) = (n : Int) := by
  refine ⟨_, rfl, by omega, by omega, by omega, ?_⟩
  split <;> split at * <;> omega
theorem isV_other {w w' : World} {v : Value} {xs : List Val} {B : Nat} {k sh fl ag : Int} {S1 S2 : Option Addr} {l1 l2 c1 c2 : Nat} (h : IsV w v xs) (hc : w.heap[B]? = some (cellO k sh fl ag (.slice S1 l1 c1) (.slice S2 l2 c2))) (ht : Touch (fun b => b = B) w w') : IsV w' v xs := by
  obtain ⟨hm, A, cap, e, hn, hx⟩ := h
  refine ⟨hm, A, cap, e, hn, fun h0 => ?_⟩
  obtain ⟨b, off, hA, hb, hx⟩ := hx h0
  have hne : ¬ b = B := by
    rintro rfl
    have g2 : w.cell? ⟨b, off + 0 * 3 + 2, none⟩ = some (.string (xs[0]).s) := hx 0 _ (List.getElem?_eq_getElem h0) 2 _ rfl
    rw [cell_of_row w b _ _ _ _ hc] at g2
    rcases (by omega : off = 0 ∨ off = 1 ∨ off = 2 ∨ off = 3 ∨ 4 ≤ off) with rfl | rfl | rfl | rfl | h
    · simp at g2
    · simp at g2
    · simp at g2
    · simp at g2
    · rw [Array.getElem?_eq_none (by simp; omega)] at g2
      cases g2
  exact ⟨b, off, hA, Nat.lt_of_lt_of_le hb ht.size, fun i x hi j u hj => (ht.cell hb hne).trans (hx i x hi j u hj)⟩
/-- the keys and the deeds, as the program reads them -/
theorem kP_at {keys : List Int} {r : Nat} {x : Int} (h : keys[r]? = some x) : ∃ m : Nat, m < 5 ∧ kP keys r = 1 + (m : Int) ∧ wrap64 ((IntKind.u64.wrap x).tmod 5) = (m : Int) ∧ IntKind.i64.wrap ((IntKind.u64.wrap x).tmod 5) = (m : Int) ∧ IntKind.i64.wrap (1 + (m : Int)) = 1 + (m : Int) := by
  obtain ⟨m, hm, e0, em⟩ := uint_rem x 5 (by omega) (by omega)
  have e1 : x % 18446744073709551616 % 5 = (m : Int) := e0.symm
  have ek : kP keys r = 1 + (m : Int) := by
    unfold kP
    rw [h]
    show 1 + x % 18446744073709551616 % 5 = _
    omega
  refine ⟨m, hm, ek, em, ?_, IntWalk.i64_in _ (by omega)⟩
  · rw [show IntKind.u64.wrap x = x % 18446744073709551616 from rfl, Int.tmod_eq_emod_of_nonneg (Int.emod_nonneg _ (by omega)), e1]
    exact IntWalk.i64_in _ (by omega)
theorem dP_at {deeds : List Int} {r : Nat} {y : Int} (h : deeds[r]? = some y) : dP deeds r = (y.tmod 3 == 0) := by unfold dP; rw [h]; rfl
/-- the cell after r deeds lies at block B -/
def PlI (B : Nat) (k : Nat → Int) (d : Nat → Bool) (r : Nat) (w wr : World) : Prop := ∃ (A4 : Option Addr) (n4 : Nat) (A5 : Option Addr) (n5 : Nat),
  wr.heap[B]? = some (cellO 8 0 0 0 (.slice A4 1 n4) (.slice A5 (fl (stP k d r)).length n5)) ∧ IsV wr (.slice A4 1 n4) [⟨1, 0, ⟨#[]⟩⟩] ∧ IsV wr (.slice A5 (fl (stP k d r)).length n5) (fl (stP k d r)) ∧ Below w.heap.size w wr ∧ w.heap.size ≤ B
theorem PlI.put {B r : Nat} {k : Nat → Int} {d : Nat → Bool} {w Y : World} {A4 A5 A6 A7 : Option Addr} {l5 n4 n5 n6 n7 : Nat} (h1 : Y.heap[B]? = some (cellO 8 0 0 0 (.slice A4 1 n4) (.slice A5 l5 n5))) (v1 : IsV Y (.slice A6 1 n6) [⟨1, 0, ⟨#[]⟩⟩]) (v2 : IsV Y (.slice A7 (fl (stP k d r)).length n7) (fl (stP k d r))) (hw : Below w.heap.size w Y) (hB : w.heap.size ≤ B) :
    PlI B k d r w ((((((Y.setCell ⟨B, 0, none⟩ (.int .i64 8)).setCell ⟨B, 1, none⟩ (.int .i64 0)).setCell ⟨B, 2, none⟩ (.int .i64 0)).setCell ⟨B, 3, none⟩ (.int .i64 0)).setCell ⟨B, 4, none⟩ (.slice A6 1 n6)).setCell ⟨B, 5, none⟩ (.slice A7 (fl (stP k d r)).length n7)) := by
  have P := put6 (k' := 8) (sh' := 0) (fl' := 0) (ag' := 0) (s' := .slice A6 1 n6) (mm' := .slice A7 (fl (stP k d r)).length n7) hw hB h1
  exact ⟨A6, n6, A7, n7, P.1, isV_other v1 h1 P.2.1, isV_other v2 h1 P.2.1, P.2.2, hB⟩
set_option maxRecDepth 100000 in
set_option maxHeartbeats 16000000 in
theorem weakPlays_any (kv dv : Value) (keys deeds : List Int) (w : World) (h1 : IsI w kv keys) (h2 : IsI w dv deeds) :
    Calls Try.prog 5 #[kv, dv] w fun e w' => e = .returned (.bool true) ∧ Below w.heap.size w w' := by
  obtain ⟨A1, n1, rfl, c1, m1⟩ := h1.form
  obtain ⟨A2, n2, rfl, c2, m2⟩ := h2.form
  have I1 := Lib.hid h1
  have I2 := Lib.hid h2
  obtain ⟨n, -, hn, hn1, hn2, en⟩ := min3 keys.length deeds.length
  clear h1 h2
  go_enter Try.func5, Try.ntmps5
  go_upto_region 4 with (go_at_call 7; refine (callGr (awake_any _)).mono ?_; rintro e w' ⟨pp, rfl, rfl⟩)
  clear en
  refine wp_world (fun Z => Below w.heap.size w Z) (by (repeat (with_reducible first  | exact Below.refl _ _ | refine bl_rapp ?_ | (refine bl_set ?_ (by first | omega | (simp; done) | (simp; omega)) _) | refine bl_gr ?_ _ | refine bl_al ?_ _ | refine bl_drewN ?_ _ | refine Below.drew ?_))) ?_
  intro W hW
  have BW := Lib.hid hW
  go_upto_region 5 with fail
  refine wp_world (fun X => PlI (W.heap.size + 1) (kP keys) (dP deeds) 0 w X) ⟨some ⟨W.heap.size, 0, none⟩, 1, none, 0, ?_, ?_, SlOf.nil_, ?_, by have := hW.size; omega⟩ ?_
  rotate_left
  · exact (lit_valsB (W := W) (l := [⟨1, 0, ⟨#[]⟩⟩]) (k := 1) rfl rfl rfl (by omega)).below (bl_al (Below.refl _ _) _)
  · exact bl_tr hW (by (repeat (with_reducible first | exact Below.refl _ _ | (refine bl_set ?_ (by first | omega | (simp; done) | (simp; omega)) _) | refine bl_gr ?_ _ | refine bl_al ?_ _ | refine below_setRow ?_ (by first | omega | (simp; done) | (simp; omega)) _ | refine bl_drewN ?_ _ | refine Below.drew ?_ | (refine bl_tr ?_ (by assumption)))))
  rotate_left
  · have := heap_alloc_new (W.alloc (.cells #[.int .i64 1, .int .i64 0, .string ⟨#[]⟩] 34)) (cellO 8 0 0 0 (.slice (some ⟨W.heap.size, 0, none⟩) 1 1) (.slice none 0 0))
    rw [World.size_alloc] at this
    exact this
  generalize W.heap.size + 1 = B
  intro X hX
  have PX := Lib.hid hX
  clear hX hW BW
  go_wp2
  go_loopw [7] (fun i wr => ∃ r : Nat, r ≤ n ∧ i = .int .i64 r ∧ PlI B (kP keys) (dP deeds) r w wr) (fun i _ => n - (intOf i).toNat)
  case atStart => exact ⟨0, by omega, rfl, PX.out⟩
  case round =>
    obtain ⟨r, hr, rfl, A4, n4, A5, n5, q1, q2, q3, q4, qB⟩ := hrel
    by_cases hlt : r < n
    · obtain ⟨b, off, cap', e, _, hb, hx⟩ := (I1.out.below q4).at_ (by omega)
      simp only [Value.slice.injEq, true_and] at e
      obtain ⟨rfl, rfl⟩ := e
      obtain ⟨b2, off2, cap2', e, _, hb2, hx2⟩ := (I2.out.below q4).at_ (by omega)
      simp only [Value.slice.injEq, true_and] at e
      obtain ⟨rfl, rfl⟩ := e
      obtain ⟨x, ex⟩ : ∃ x, keys[r]? = some x := ⟨_, List.getElem?_eq_getElem (by omega)⟩
      obtain ⟨y, ey⟩ : ∃ y, deeds[r]? = some y := ⟨_, List.getElem?_eq_getElem (by omega)⟩
      have cx : wr.cell? ⟨b, off + r, none⟩ = some (.int .i64 x) := by have := hx r x ex 0 _ rfl; simpa using this
      have cy : ∀ Z, Below wr.heap.size wr Z → Z.cell? ⟨b2, off2 + r, none⟩ = some (.int .i64 y) := fun Z hZ => (hZ.cell (p := ⟨b2, _, none⟩) hb2).trans (by have := hx2 r y ey 0 _ rfl; simpa using this)
      have CY := Lib.hid cy
      obtain ⟨m, hm, km, em, em2, em3⟩ := kP_at ex
      have dm := (dP_at ey).symm
      have dw : IntKind.i64.wrap (y.tmod 3) = y.tmod 3 := IntWalk.i64_in _ (by have := Int.lt_tmod_of_pos y (show (0 : Int) < 3 by omega); have := Int.tmod_lt_of_pos y (show (0 : Int) < 3 by omega); omega)
      have g1 : (r : Int) < n := by omega
      have g0 : ¬ (r : Int) < 0 := by omega
      have g2 : (r : Int) < keys.length := by omega
      have g3 : (r : Int) < deeds.length := by omega
      have QQ := Lib.hid (And.intro q1 (And.intro q2 (And.intro q3 (And.intro q4 qB))))
      have lB : B < wr.heap.size := (Array.getElem?_eq_some_iff.1 q1).1
      clear hx hx2 ex ey cy q1 q2 q3 q4 qB
      go_upto_region 9 with (go_at_call 25; refine (object_any _ _).mono ?_; rintro e w9 ⟨rfl, hb⟩; have R9 := Lib.hid (show Below wr.heap.size wr w9 from bl_tr (by (repeat (with_reducible first  | exact Below.refl _ _ | refine bl_rapp ?_ | (refine bl_set ?_ (by first | omega | (simp; done) | (simp; omega)) _) | refine bl_gr ?_ _ | refine bl_al ?_ _ | refine bl_drewN ?_ _ | refine Below.drew ?_))) hb); clear hb)
      refine wp_world (fun Z => Z.heap[w9.heap.size]? = some (valB (objV (kP keys r))) ∧ Below w9.heap.size w9 Z) ⟨by rw [km]; exact heap_alloc_new _ _, bl_al (Below.refl _ _) _⟩ ?_
      rintro Z ⟨z0, zb⟩
      have BZ := Lib.hid (bl_tr R9.out zb)
      clear em em2 em3 hm km cx hb R9 zb
      have cy := CY.out Z BZ.out
      obtain ⟨x0, x1, x2⟩ := cells3 z0
      have lo := (Array.getElem?_eq_some_iff.1 z0).1
      have lB2 : B < Z.heap.size := Nat.lt_of_lt_of_le lB BZ.out.size
      have FB := Lib.hid ((BZ.out.block _ lB).trans QQ.out.1)
      obtain ⟨⟨a0, a1, a2, a3, a4, a5⟩, f0, f1, f2, f3, f4, f5⟩ := cells6 FB.out
      have VZ := Lib.hid (And.intro (QQ.out.2.1.below BZ.out) (And.intro (QQ.out.2.2.1.below BZ.out) (And.intro (bl_tr QQ.out.2.2.2.1 BZ.out) QQ.out.2.2.2.2)))
      have RNG : ∀ j, j < r → 1 ≤ kP keys j ∧ kP keys j ≤ 5 := fun j _ => kP_range keys j
      have okS := ok_st (kP keys) (dP deeds) r RNG (by omega)
      have fitS := fit_st (kP keys) (dP deeds) r RNG
      have KR := kP_range keys r
      have okK : (objV (kP keys r)).ok := ⟨(⟨by decide, by decide⟩ : i64ok 7), ⟨by show _ ≤ kP keys r; omega, by show kP keys r ≤ _; omega⟩, Nat.zero_le _⟩
      have okN : (numV r).ok := ⟨(⟨by decide, by decide⟩ : i64ok 3), ⟨by show _ ≤ (r : Int); omega, by show (r : Int) ≤ _; omega⟩, Nat.zero_le _⟩
      clear z0 CY QQ hb2
      cases hd : dP deeds r
      · rw [hd] at dm
        have S1 := set_st (kP keys) (dP deeds) r RNG (by omega) KR.1 hd
        have SET := Lib.hid (fun W a b => set_any (.slice A4 1 n4) (.slice A5 (fl (stP (kP keys) (dP deeds) r)).length n5) (cellS (stP (kP keys) (dP deeds) r)) (objV (kP keys r)) (numV r) okS fitS.1 (Nat.le_trans (show (fl (stP (kP keys) (dP deeds) r)).length ≤ 10 from fitS.2) (by omega)) okK okN W a b)
        rw [S1.1, S1.2] at SET
        clear S1 okS fitS okK okN RNG KR hd
        go_upto_region 12 with (go_at_call 16; refine (SET.out _ (VZ.out.1.below (by (repeat (with_reducible first  | exact Below.refl _ _ | refine bl_rapp ?_ | (refine bl_set ?_ (by first | omega | (simp; done) | (simp; omega)) _) | refine bl_gr ?_ _ | refine bl_al ?_ _ | refine bl_drewN ?_ _ | refine Below.drew ?_)))) (VZ.out.2.1.below (by (repeat (with_reducible first  | exact Below.refl _ _ | refine bl_rapp ?_ | (refine bl_set ?_ (by first | omega | (simp; done) | (simp; omega)) _) | refine bl_gr ?_ _ | refine bl_al ?_ _ | refine bl_drewN ?_ _ | refine Below.drew ?_))))).mono ?_; rintro e w2 ⟨A6, n6, A7, n7, rfl, o1, o2, hb⟩; have R2 := Lib.hid (And.intro o1 (And.intro o2 (show Below Z.heap.size Z w2 from bl_tr (by (repeat (with_reducible first  | exact Below.refl _ _ | refine bl_rapp ?_ | (refine bl_set ?_ (by first | omega | (simp; done) | (simp; omega)) _) | refine bl_gr ?_ _ | refine bl_al ?_ _ | refine bl_drewN ?_ _ | refine Below.drew ?_))) hb))); clear o1 o2 hb)
        refine wp_world (fun Y => Y.heap[w2.heap.size]? = some (cellO 8 0 0 0 (.slice A6 1 n6) (.slice A7 (fl (stP (kP keys) (dP deeds) (r + 1))).length n7)) ∧ Below w2.heap.size w2 Y) ⟨heap_alloc_new _ _, bl_al (Below.refl _ _) _⟩ ?_
        rintro Y ⟨z0, zb⟩
        have BY : Below Z.heap.size Z Y := bl_tr R2.out.2.2 zb
        have F2 := (BY.block _ lB2).trans FB.out
        have V2 := Lib.hid (And.intro (R2.out.1.below zb) (And.intro (R2.out.2.1.below zb) (And.intro (bl_tr VZ.out.2.2.1 BY) VZ.out.2.2.2)))
        have lY := (Array.getElem?_eq_some_iff.1 z0).1
        have lB3 : B < Y.heap.size := Nat.lt_of_lt_of_le lB2 BY.size
        have G2 := Lib.hid F2
        clear a0 a1 a2 a3 a4 a5 f0 f1 f2 f3 f4 f5 x0 x1 x2 cy zb R2 BY VZ FB SET BZ lo lB lB2
        obtain ⟨⟨a0, a1, a2, a3, a4, a5⟩, f0, f1, f2, f3, f4, f5⟩ := cells6 F2
        obtain ⟨⟨d0, d1, d2, d3, d4, d5⟩, _⟩ := cells6 z0
        clear F2 z0
        go_upto_region 7 with fail
        refine wp_world (fun Z => PlI B (kP keys) (dP deeds) (r + 1) w Z) ?_ ?_
        · exact PlI.put G2.out V2.out.1 V2.out.2.1 V2.out.2.2.1 V2.out.2.2.2
        intro Z HZ
        have PZ := Lib.hid HZ
        clear HZ
        go_wp2
        go_roundw
        case rel => exact ⟨r + 1, by omega, by go_num, PZ.out⟩
        case measure => simp [intOf]; omega
      · rw [hd] at dm
        have D1 := del_st (kP keys) (dP deeds) r RNG (by omega) hd
        have DEL := Lib.hid (fun W a b => delete_any (.slice A4 1 n4) (.slice A5 (fl (stP (kP keys) (dP deeds) r)).length n5) (cellS (stP (kP keys) (dP deeds) r)) (objV (kP keys r)) okS fitS.1 W a b)
        rw [D1] at DEL
        clear D1 okS fitS okK okN RNG KR hd
        go_upto_region 7 with (go_at_call 18; refine (DEL.out _ (VZ.out.1.below (by (repeat (with_reducible first  | exact Below.refl _ _ | refine bl_rapp ?_ | (refine bl_set ?_ (by first | omega | (simp; done) | (simp; omega)) _) | refine bl_gr ?_ _ | refine bl_al ?_ _ | refine bl_drewN ?_ _ | refine Below.drew ?_)))) (VZ.out.2.1.below (by (repeat (with_reducible first  | exact Below.refl _ _ | refine bl_rapp ?_ | (refine bl_set ?_ (by first | omega | (simp; done) | (simp; omega)) _) | refine bl_gr ?_ _ | refine bl_al ?_ _ | refine bl_drewN ?_ _ | refine Below.drew ?_))))).mono ?_; rintro e w2 ⟨A6, n6, A7, n7, rfl, o1, o2, hb⟩; have R2 := Lib.hid (And.intro o1 (And.intro o2 (show Below Z.heap.size Z w2 from bl_tr (by (repeat (with_reducible first  | exact Below.refl _ _ | refine bl_rapp ?_ | (refine bl_set ?_ (by first | omega | (simp; done) | (simp; omega)) _) | refine bl_gr ?_ _ | refine bl_al ?_ _ | refine bl_drewN ?_ _ | refine Below.drew ?_))) hb))); clear o1 o2 hb a0 a1 a2 a3 a4 a5 f0 f1 f2 f3 f4 f5; obtain ⟨⟨a0, a1, a2, a3, a4, a5⟩, f0, f1, f2, f3, f4, f5⟩ := cells6 ((R2.out.2.2.block _ lB2).trans FB.out); have lB3 := Nat.lt_of_lt_of_le lB2 R2.out.2.2.size)
        refine wp_world (fun Z => PlI B (kP keys) (dP deeds) (r + 1) w Z) ?_ ?_
        · exact PlI.put ((R2.out.2.2.block _ lB2).trans FB.out) R2.out.1 R2.out.2.1 (bl_tr VZ.out.2.2.1 R2.out.2.2) VZ.out.2.2.2
        intro Z HZ
        have PZ := Lib.hid HZ
        clear HZ
        go_wp2
        go_roundw
        case rel => exact ⟨r + 1, by omega, by go_num, PZ.out⟩
        case measure => simp [intOf]; omega
    · obtain ⟨W1, rfl⟩ : ∃ W1 : World, W1 = wr := ⟨wr, rfl⟩
      have hrn : r = n := by omega
      subst r
      have hge : ¬ (n : Int) < n := by omega
      have QQ := Lib.hid (And.intro q2 (And.intro q3 q4))
      have lB : B < W1.heap.size := (Array.getElem?_eq_some_iff.1 q1).1
      have KK := Lib.hid (show ∀ Z, Below W1.heap.size W1 Z → Z.heap[B]? = some (cellO 8 0 0 0 (.slice A4 1 n4) (.slice A5 (fl (stP (kP keys) (dP deeds) n)).length n5)) from fun Z h => (h.block _ lB).trans q1)
      have RNG : ∀ j, j < n → 1 ≤ kP keys j ∧ kP keys j ≤ 5 := fun j _ => kP_range keys j
      have okS := ok_st (kP keys) (dP deeds) n RNG (by omega)
      have GET := Lib.hid (fun W a b o => get_any (.slice A4 1 n4) (.slice A5 (fl (stP (kP keys) (dP deeds) n)).length n5) (cellS (stP (kP keys) (dP deeds) n)) o okS W a b)
      have LEN := Lib.hid (fun W a b => len_any (.slice A4 1 n4) (.slice A5 (fl (stP (kP keys) (dP deeds) n)).length n5) (cellS (stP (kP keys) (dP deeds) n)) okS W a b)
      rw [len_of_st (kP keys) (dP deeds) n RNG (by omega)] at LEN
      have GS := Lib.hid (fun a => get_st (kP keys) (dP deeds) n RNG (by omega) a)
      have SV := Lib.hid (show IsV W1 (.slice A4 1 n4) (cellS (stP (kP keys) (dP deeds) n)).sl ∧ IsV W1 (.slice A5 (fl (stP (kP keys) (dP deeds) n)).length n5) (cellS (stP (kP keys) (dP deeds) n)).mo from ⟨q2, q3⟩)
      clear q1 q2 q3 q4 qB RNG okS PX
      have hk1 : (cellS (stP (kP keys) (dP deeds) n)).k = 8 := rfl
      have hk2 : (cellS (stP (kP keys) (dP deeds) n)).sh = 0 := rfl
      have hk3 : (cellS (stP (kP keys) (dP deeds) n)).fl = 0 := rfl
      have hk4 : (cellS (stP (kP keys) (dP deeds) n)).ag = 0 := rfl
      rw [hk1, hk2, hk3, hk4] at GET LEN
      clear hk1 hk2 hk3 hk4
      generalize cellS (stP (kP keys) (dP deeds) n) = S at *
      generalize (fl (stP (kP keys) (dP deeds) n)).length = ln at *
      go_wp2
      go_loopw [11, 12] (fun mn j wr => ∃ q : Nat, q ≤ 5 ∧ j = .int .i64 ((q + 1 : Nat) : Int) ∧ mn = .int .i64 (manyP (kP keys) (dP deeds) n q : Nat) ∧ Below W1.heap.size W1 wr) (fun _ j _ => 6 - (intOf j).toNat)
      case atStart => exact ⟨0, by omega, rfl, by rw [show manyP (kP keys) (dP deeds) n 0 = 0 from rfl]; rfl, Below.refl _ _⟩
      case round =>
        obtain ⟨q, hq, rfl, rfl, hB⟩ := hrel
        have HB := Lib.hid hB
        clear hB
        by_cases hlt : q < 5
        · obtain ⟨J, hJ⟩ : ∃ J : Int, J = ((q + 1 : Nat) : Int) := ⟨_, rfl⟩
          rw [← hJ]
          have j5 : J ≤ 5 := by omega
          have j1 : 1 ≤ J := by omega
          have HJ := Lib.hid hJ
          clear hJ
          go_wp2
          go_loop [13, 14] (fun l i => ∃ r : Nat, r ≤ n ∧ i = .int .i64 r ∧ l = .int .i64 (lastP (kP keys) (dP deeds) J r)) (fun _ i => n - (intOf i).toNat)
          case atStart => exact ⟨0, by omega, rfl, rfl⟩
          case round =>
            obtain ⟨z, hz, rfl, rfl⟩ := hrel
            by_cases h2 : z < n
            · have bw := bl_tr QQ.out.2.2 HB.out
              obtain ⟨b, off, cap', e, _, hb, hx⟩ := (I1.out.below bw).at_ (by omega)
              simp only [Value.slice.injEq, true_and] at e
              obtain ⟨rfl, rfl⟩ := e
              obtain ⟨b2, off2, cap2', e, _, hb2, hx2⟩ := (I2.out.below bw).at_ (by omega)
              simp only [Value.slice.injEq, true_and] at e
              obtain ⟨rfl, rfl⟩ := e
              obtain ⟨x, ex⟩ : ∃ x, keys[z]? = some x := ⟨_, List.getElem?_eq_getElem (by omega)⟩
              obtain ⟨y, ey⟩ : ∃ y, deeds[z]? = some y := ⟨_, List.getElem?_eq_getElem (by omega)⟩
              have cx : wr.cell? ⟨b, off + z, none⟩ = some (.int .i64 x) := by have := hx z x ex 0 _ rfl; simpa using this
              have cy : wr.cell? ⟨b2, off2 + z, none⟩ = some (.int .i64 y) := by have := hx2 z y ey 0 _ rfl; simpa using this
              obtain ⟨m, hm, km, em, em2, em3⟩ := kP_at ex
              have dm := (dP_at ey).symm
              have dw : IntKind.i64.wrap (y.tmod 3) = y.tmod 3 := IntWalk.i64_in _ (by have := Int.lt_tmod_of_pos y (show (0 : Int) < 3 by omega); have := Int.tmod_lt_of_pos y (show (0 : Int) < 3 by omega); omega)
              have g1 : (z : Int) < n := by omega
              have g0 : ¬ (z : Int) < 0 := by omega
              have g2 : (z : Int) < keys.length := by omega
              have g3 : (z : Int) < deeds.length := by omega
              have LP := Lib.hid (show lastP (kP keys) (dP deeds) J (z + 1) = if kP keys z == J then (if dP deeds z then -1 else (z : Int)) else lastP (kP keys) (dP deeds) J z from rfl)
              rw [km] at LP
              clear hx hx2 ex ey bw hb hb2 km
              cases hk : ((1 + (m : Int)) == J)
              · rw [hk, if_neg (by simp)] at LP
                go_wp2
                go_round
                case rel => exact ⟨z + 1, by omega, by go_num, by rw [LP.out]⟩
                case measure => simp [intOf]; omega
              · rw [hk, if_pos rfl] at LP
                cases hd : dP deeds z
                · rw [hd] at dm
                  rw [hd, if_neg (by simp)] at LP
                  go_wp2
                  go_round
                  case rel => exact ⟨z + 1, by omega, by go_num, by rw [LP.out]⟩
                  case measure => simp [intOf]; omega
                · rw [hd] at dm
                  rw [hd, if_pos rfl] at LP
                  go_wp2
                  go_round
                  case rel => exact ⟨z + 1, by omega, by go_num, by rw [LP.out]⟩
                  case measure => simp [intOf]; omega
            · have hzn : z = n := by omega
              subst hzn
              have hge2 : ¬ (z : Int) < z := by omega
              replace GS := Lib.hid (GS.out J)
              replace GET := Lib.hid (fun W a b => GET.out W a b (objV J))
              have MP := Lib.hid (show manyP (kP keys) (dP deeds) z (q + 1) = manyP (kP keys) (dP deeds) z q + if 0 ≤ lastP (kP keys) (dP deeds) ((q + 1 : Nat) : Int) z then 1 else 0 from rfl)
              rw [← HJ.out] at MP
              have ML := many_le (kP keys) (dP deeds) z q
              generalize getC S (objV J) = GV at *
              generalize getB S (objV J) = gb at *
              generalize lastP (kP keys) (dP deeds) J z = L at *
              go_upto_region 27 with fail
              go_cut [15, 16] from 64 to 112 (fun p9 e9 Y9 => ∃ A, p9 = .pointer (some ⟨A, 0, none⟩) ∧ e9 = .bool gb ∧ Y9.heap[A]? = some (valB GV) ∧ Below W1.heap.size W1 Y9)
              case first =>
                have KB := Lib.hid (show ∀ Z, Below wr.heap.size wr Z → Z.heap[B]? = some (cellO 8 0 0 0 (.slice A4 1 n4) (.slice A5 ln n5)) from fun Z h => KK.out Z (bl_tr HB.out h))
                (refine wp_region_held_drew (S := (fun Z : World => Below wr.heap.size wr Z)) Try.mixed (by ((repeat (with_reducible first | exact B9.out | exact Below.refl _ _ | refine bl_rapp ?_ | (refine bl_set ?_ (by first | omega | (simp; done) | (simp; omega)) _) | refine bl_gr ?_ _ | refine bl_al ?_ _ | refine bl_drewN ?_ _ | refine Below.drew ?_)))) (fun hS => ?_); (refine wpAnyH_take (i := 0) (v := ?_) rfl (by kernel_rfl) (by kernel_rfl) (by kernel_rfl) (fun _ _ _ h => h) ?_ (by assumption) ?_; rotate_left; (next => (refine Or.inl ⟨by kernel_rfl, ?_⟩; ((intro w hSw; (try dsimp only at hSw); (obtain ⟨⟨a0, a1, a2, a3, a4, a5⟩, _⟩ := cells6 (KB.out _ hSw)); go_simp) <;> with_reducible rfl))); (try simp only [Act.put, List.setIfInBounds_toArray, List.set_cons_zero, List.set_cons_succ])); (refine wpAnyH_take (i := 1) (v := ?_) rfl (by kernel_rfl) (by kernel_rfl) (by kernel_rfl) (fun _ _ _ h => h) ?_ (by assumption) ?_; rotate_left; (next => (refine Or.inl ⟨by kernel_rfl, ?_⟩; ((intro w hSw; (try dsimp only at hSw); go_simp) <;> with_reducible rfl))); (try simp only [Act.put, List.setIfInBounds_toArray, List.set_cons_zero, List.set_cons_succ])); refine wpAnyH_ready (rs := [2, 7]) (by kernel_rfl) (by simp) ?_; refine AllReadyH.cons rfl (fun K hK => ?_) (AllReadyH.cons rfl (fun K hK => ?_) AllReadyH.nil); go_simp; (((go_at_call 25; refine (callGr (object_any _ _)).mono ?_; rintro e w' ⟨pp, rfl, rfl⟩))); refine hK.out _ _ (by ((repeat (with_reducible first | exact B9.out | exact Below.refl _ _ | refine bl_rapp ?_ | (refine bl_set ?_ (by first | omega | (simp; done) | (simp; omega)) _) | refine bl_gr ?_ _ | refine bl_al ?_ _ | refine bl_drewN ?_ _ | refine Below.drew ?_)))) (fun hS => ?_); clear hK K; (try simp only [Act.put, List.setIfInBounds_toArray, List.set_cons_zero, List.set_cons_succ]); refine wpAnyH_ready (rs := [3, 7]) (by kernel_rfl) (by simp) ?_; refine AllReadyH.cons rfl (fun K hK => ?_) (AllReadyH.cons rfl (fun K hK => ?_) AllReadyH.nil); go_simp; ((go_at_call 20; refine (callGr (GET.out _ (SV.out.1.below (bl_tr HB.out (by (repeat (with_reducible first | exact B9.out | exact Below.refl _ _ | refine bl_rapp ?_ | (refine bl_set ?_ (by first | omega | (simp; done) | (simp; omega)) _) | refine bl_gr ?_ _ | refine bl_al ?_ _ | refine bl_drewN ?_ _ | refine Below.drew ?_))))) (SV.out.2.below (bl_tr HB.out (by (repeat (with_reducible first | exact B9.out | exact Below.refl _ _ | refine bl_rapp ?_ | (refine bl_set ?_ (by first | omega | (simp; done) | (simp; omega)) _) | refine bl_gr ?_ _ | refine bl_al ?_ _ | refine bl_drewN ?_ _ | refine Below.drew ?_))))))).mono ?_; rintro e w' ⟨pp, rfl, rfl⟩)); refine hK.out _ _ (by ((repeat (with_reducible first | exact B9.out | exact Below.refl _ _ | refine bl_rapp ?_ | (refine bl_set ?_ (by first | omega | (simp; done) | (simp; omega)) _) | refine bl_gr ?_ _ | refine bl_al ?_ _ | refine bl_drewN ?_ _ | refine Below.drew ?_)))) (fun hS => ?_); clear hK K; (try simp only [Act.put, List.setIfInBounds_toArray, List.set_cons_zero, List.set_cons_succ]); (refine wpAnyH_take (i := 4) (v := ?_) rfl (by kernel_rfl) (by kernel_rfl) (by kernel_rfl) (fun _ _ _ h => h) ?_ (by assumption) ?_; rotate_left; (next => (refine Or.inl ⟨by kernel_rfl, ?_⟩; ((intro w hSw; (try dsimp only at hSw); go_simp) <;> with_reducible rfl))); (try simp only [Act.put, List.setIfInBounds_toArray, List.set_cons_zero, List.set_cons_succ])); (refine wpAnyH_take (i := 5) (v := ?_) rfl (by kernel_rfl) (by kernel_rfl) (by kernel_rfl) (fun _ _ _ h => h) ?_ (by assumption) ?_; rotate_left; (next => (refine Or.inl ⟨by kernel_rfl, ?_⟩; ((intro w hSw; (try dsimp only at hSw); go_simp) <;> with_reducible rfl))); (try simp only [Act.put, List.setIfInBounds_toArray, List.set_cons_zero, List.set_cons_succ])); (refine wpAnyH_take (i := 6) (v := ?_) rfl (by kernel_rfl) (by kernel_rfl) (by kernel_rfl) (fun _ _ _ h => h) ?_ (by assumption) ?_; rotate_left; (next => (refine Or.inl ⟨by kernel_rfl, ?_⟩; ((intro w hSw; (try dsimp only at hSw); go_simp) <;> with_reducible rfl))); (try simp only [Act.put, List.setIfInBounds_toArray, List.set_cons_zero, List.set_cons_succ])); refine wpAnyH_ready (rs := [7]) (by kernel_rfl) (by simp) ?_; refine AllReadyH.cons rfl (fun K hK => ?_) AllReadyH.nil; go_simp; refine hK.out _ _ (by ((repeat (with_reducible first | exact B9.out | exact Below.refl _ _ | refine bl_rapp ?_ | (refine bl_set ?_ (by first | omega | (simp; done) | (simp; omega)) _) | refine bl_gr ?_ _ | refine bl_al ?_ _ | refine bl_drewN ?_ _ | refine Below.drew ?_)))) (fun hS => ?_); clear hK K; (try simp only [Act.put, List.setIfInBounds_toArray, List.set_cons_zero, List.set_cons_succ]); (first | refine anyH_alloc rfl (fun Z fB bB => ?_) | refine anyH_allocD rfl (fun Z fB bB => ?_)); have B9 := Lib.hid (show Below wr.heap.size wr Z from bl_tr (by (repeat (with_reducible first  | exact Below.refl _ _ | refine bl_rapp ?_ | (refine bl_set ?_ (by first | omega | (simp; done) | (simp; omega)) _) | refine bl_gr ?_ _ | refine bl_al ?_ _ | refine bl_drewN ?_ _ | refine Below.drew ?_))) bB); (try simp only [gr_size, World.size_alloc] at fB); have FB := Lib.hid fB; have lZ := (Array.getElem?_eq_some_iff.1 fB).1; obtain ⟨⟨x0, x1, x2⟩, y0, y1, y2⟩ := cells3f fB; clear fB bB; refine wpAnyH_ready (rs := [8]) (by kernel_rfl) (by simp) ?_; refine AllReadyH.cons rfl (fun K hK => ?_) AllReadyH.nil; go_simp; refine hK.out _ _ (by ((repeat (with_reducible first | exact B9.out | exact Below.refl _ _ | refine bl_rapp ?_ | (refine bl_set ?_ (by first | omega | (simp; done) | (simp; omega)) _) | refine bl_gr ?_ _ | refine bl_al ?_ _ | refine bl_drewN ?_ _ | refine Below.drew ?_)))) (fun hS => ?_); clear hK K; (try simp only [Act.put, List.setIfInBounds_toArray, List.set_cons_zero, List.set_cons_succ]); (refine wpAnyH_take (i := 9) (v := ?_) rfl (by kernel_rfl) (by kernel_rfl) (by kernel_rfl) (fun _ _ _ h => h) ?_ (by assumption) ?_; rotate_left; (next => (refine Or.inl ⟨by kernel_rfl, ?_⟩; ((intro w hSw; (try dsimp only at hSw); go_simp) <;> with_reducible rfl))); (try simp only [Act.put, List.setIfInBounds_toArray, List.set_cons_zero, List.set_cons_succ])); refine wpAnyH_done (by kernel_rfl) ?_ _; rotate_left 1; go_simp; refine hK.out _ _ (by ((repeat (with_reducible first | exact B9.out | exact Below.refl _ _ | refine bl_rapp ?_ | (refine bl_set ?_ (by first | omega | (simp; done) | (simp; omega)) _) | refine bl_gr ?_ _ | refine bl_al ?_ _ | refine bl_drewN ?_ _ | refine Below.drew ?_)))) (fun hS => ?_); clear hK K; (try simp only [Act.put, List.setIfInBounds_toArray, List.set_cons_zero, List.set_cons_succ]); (first | refine anyH_alloc rfl (fun Z fB bB => ?_) | refine anyH_allocD rfl (fun Z fB bB => ?_)); have B9 := Lib.hid (show Below wr.heap.size wr Z from bl_tr (by (repeat (with_reducible first  | exact Below.refl _ _ | refine bl_rapp ?_ | (refine bl_set ?_ (by first | omega | (simp; done) | (simp; omega)) _) | refine bl_gr ?_ _ | refine bl_al ?_ _ | refine bl_drewN ?_ _ | refine Below.drew ?_))) bB); (try simp only [gr_size, World.size_alloc] at fB); have FB := Lib.hid fB; have lZ := (Array.getElem?_eq_some_iff.1 fB).1; obtain ⟨⟨x0, x1, x2⟩, y0, y1, y2⟩ := cells3f fB; clear fB bB; refine wpAnyH_ready (rs := [3]) (by kernel_rfl) (by simp) ?_; refine AllReadyH.cons rfl (fun K hK => ?_) AllReadyH.nil; go_simp; ((go_at_call 20; refine (callGr (GET.out _ (SV.out.1.below (bl_tr HB.out (by (repeat (with_reducible first | exact B9.out | exact Below.refl _ _ | refine bl_rapp ?_ | (refine bl_set ?_ (by first | omega | (simp; done) | (simp; omega)) _) | refine bl_gr ?_ _ | refine bl_al ?_ _ | refine bl_drewN ?_ _ | refine Below.drew ?_))))) (SV.out.2.below (bl_tr HB.out (by (repeat (with_reducible first | exact B9.out | exact Below.refl _ _ | refine bl_rapp ?_ | (refine bl_set ?_ (by first | omega | (simp; done) | (simp; omega)) _) | refine bl_gr ?_ _ | refine bl_al ?_ _ | refine bl_drewN ?_ _ | refine Below.drew ?_))))))).mono ?_; rintro e w' ⟨pp, rfl, rfl⟩)); refine hK.out _ _ (by ((repeat (with_reducible first | exact B9.out | exact Below.refl _ _ | refine bl_rapp ?_ | (refine bl_set ?_ (by first | omega | (simp; done) | (simp; omega)) _) | refine bl_gr ?_ _ | refine bl_al ?_ _ | refine bl_drewN ?_ _ | refine Below.drew ?_)))) (fun hS => ?_); clear hK K; (try simp only [Act.put, List.setIfInBounds_toArray, List.set_cons_zero, List.set_cons_succ]); (refine wpAnyH_take (i := 4) (v := ?_) rfl (by kernel_rfl) (by kernel_rfl) (by kernel_rfl) (fun _ _ _ h => h) ?_ (by assumption) ?_; rotate_left; (next => (refine Or.inl ⟨by kernel_rfl, ?_⟩; ((intro w hSw; (try dsimp only at hSw); go_simp) <;> with_reducible rfl))); (try simp only [Act.put, List.setIfInBounds_toArray, List.set_cons_zero, List.set_cons_succ])); (refine wpAnyH_take (i := 5) (v := ?_) rfl (by kernel_rfl) (by kernel_rfl) (by kernel_rfl) (fun _ _ _ h => h) ?_ (by assumption) ?_; rotate_left; (next => (refine Or.inl ⟨by kernel_rfl, ?_⟩; ((intro w hSw; (try dsimp only at hSw); go_simp) <;> with_reducible rfl))); (try simp only [Act.put, List.setIfInBounds_toArray, List.set_cons_zero, List.set_cons_succ])); (refine wpAnyH_take (i := 6) (v := ?_) rfl (by kernel_rfl) (by kernel_rfl) (by kernel_rfl) (fun _ _ _ h => h) ?_ (by assumption) ?_; rotate_left; (next => (refine Or.inl ⟨by kernel_rfl, ?_⟩; ((intro w hSw; (try dsimp only at hSw); go_simp) <;> with_reducible rfl))); (try simp only [Act.put, List.setIfInBounds_toArray, List.set_cons_zero, List.set_cons_succ])); refine wpAnyH_ready (rs := [8]) (by kernel_rfl) (by simp) ?_; refine AllReadyH.cons rfl (fun K hK => ?_) AllReadyH.nil; go_simp; refine hK.out _ _ (by ((repeat (with_reducible first | exact B9.out | exact Below.refl _ _ | refine bl_rapp ?_ | (refine bl_set ?_ (by first | omega | (simp; done) | (simp; omega)) _) | refine bl_gr ?_ _ | refine bl_al ?_ _ | refine bl_drewN ?_ _ | refine Below.drew ?_)))) (fun hS => ?_); clear hK K; (try simp only [Act.put, List.setIfInBounds_toArray, List.set_cons_zero, List.set_cons_succ]); (refine wpAnyH_take (i := 9) (v := ?_) rfl (by kernel_rfl) (by kernel_rfl) (by kernel_rfl) (fun _ _ _ h => h) ?_ (by assumption) ?_; rotate_left; (next => (refine Or.inl ⟨by kernel_rfl, ?_⟩; ((intro w hSw; (try dsimp only at hSw); go_simp) <;> with_reducible rfl))); (try simp only [Act.put, List.setIfInBounds_toArray, List.set_cons_zero, List.set_cons_succ])); refine wpAnyH_done (by kernel_rfl) ?_ _; rotate_left 1; go_simp; refine hK.out _ _ (by ((repeat (with_reducible first | exact B9.out | exact Below.refl _ _ | refine bl_rapp ?_ | (refine bl_set ?_ (by first | omega | (simp; done) | (simp; omega)) _) | refine bl_gr ?_ _ | refine bl_al ?_ _ | refine bl_drewN ?_ _ | refine Below.drew ?_)))) (fun hS => ?_); clear hK K; (try simp only [Act.put, List.setIfInBounds_toArray, List.set_cons_zero, List.set_cons_succ]); (first | refine anyH_alloc rfl (fun Z fB bB => ?_) | refine anyH_allocD rfl (fun Z fB bB => ?_)); have B9 := Lib.hid (show Below wr.heap.size wr Z from bl_tr (by (repeat (with_reducible first  | exact Below.refl _ _ | refine bl_rapp ?_ | (refine bl_set ?_ (by first | omega | (simp; done) | (simp; omega)) _) | refine bl_gr ?_ _ | refine bl_al ?_ _ | refine bl_drewN ?_ _ | refine Below.drew ?_))) bB); (try simp only [gr_size, World.size_alloc] at fB); have FB := Lib.hid fB; have lZ := (Array.getElem?_eq_some_iff.1 fB).1; obtain ⟨⟨x0, x1, x2⟩, y0, y1, y2⟩ := cells3f fB; clear fB bB; refine wpAnyH_ready (rs := [2]) (by kernel_rfl) (by simp) ?_; refine AllReadyH.cons rfl (fun K hK => ?_) AllReadyH.nil; go_simp; (((go_at_call 25; refine (callGr (object_any _ _)).mono ?_; rintro e w' ⟨pp, rfl, rfl⟩))); refine hK.out _ _ (by ((repeat (with_reducible first | exact B9.out | exact Below.refl _ _ | refine bl_rapp ?_ | (refine bl_set ?_ (by first | omega | (simp; done) | (simp; omega)) _) | refine bl_gr ?_ _ | refine bl_al ?_ _ | refine bl_drewN ?_ _ | refine Below.drew ?_)))) (fun hS => ?_); clear hK K; (try simp only [Act.put, List.setIfInBounds_toArray, List.set_cons_zero, List.set_cons_succ]); refine wpAnyH_ready (rs := [3]) (by kernel_rfl) (by simp) ?_; refine AllReadyH.cons rfl (fun K hK => ?_) AllReadyH.nil; go_simp; ((go_at_call 20; refine (callGr (GET.out _ (SV.out.1.below (bl_tr HB.out (by (repeat (with_reducible first | exact B9.out | exact Below.refl _ _ | refine bl_rapp ?_ | (refine bl_set ?_ (by first | omega | (simp; done) | (simp; omega)) _) | refine bl_gr ?_ _ | refine bl_al ?_ _ | refine bl_drewN ?_ _ | refine Below.drew ?_))))) (SV.out.2.below (bl_tr HB.out (by (repeat (with_reducible first | exact B9.out | exact Below.refl _ _ | refine bl_rapp ?_ | (refine bl_set ?_ (by first | omega | (simp; done) | (simp; omega)) _) | refine bl_gr ?_ _ | refine bl_al ?_ _ | refine bl_drewN ?_ _ | refine Below.drew ?_))))))).mono ?_; rintro e w' ⟨pp, rfl, rfl⟩)); refine hK.out _ _ (by ((repeat (with_reducible first | exact B9.out | exact Below.refl _ _ | refine bl_rapp ?_ | (refine bl_set ?_ (by first | omega | (simp; done) | (simp; omega)) _) | refine bl_gr ?_ _ | refine bl_al ?_ _ | refine bl_drewN ?_ _ | refine Below.drew ?_)))) (fun hS => ?_); clear hK K; (try simp only [Act.put, List.setIfInBounds_toArray, List.set_cons_zero, List.set_cons_succ]); (refine wpAnyH_take (i := 4) (v := ?_) rfl (by kernel_rfl) (by kernel_rfl) (by kernel_rfl) (fun _ _ _ h => h) ?_ (by assumption) ?_; rotate_left; (next => (refine Or.inl ⟨by kernel_rfl, ?_⟩; ((intro w hSw; (try dsimp only at hSw); go_simp) <;> with_reducible rfl))); (try simp only [Act.put, List.setIfInBounds_toArray, List.set_cons_zero, List.set_cons_succ])); (refine wpAnyH_take (i := 5) (v := ?_) rfl (by kernel_rfl) (by kernel_rfl) (by kernel_rfl) (fun _ _ _ h => h) ?_ (by assumption) ?_; rotate_left; (next => (refine Or.inl ⟨by kernel_rfl, ?_⟩; ((intro w hSw; (try dsimp only at hSw); go_simp) <;> with_reducible rfl))); (try simp only [Act.put, List.setIfInBounds_toArray, List.set_cons_zero, List.set_cons_succ])); (refine wpAnyH_take (i := 6) (v := ?_) rfl (by kernel_rfl) (by kernel_rfl) (by kernel_rfl) (fun _ _ _ h => h) ?_ (by assumption) ?_; rotate_left; (next => (refine Or.inl ⟨by kernel_rfl, ?_⟩; ((intro w hSw; (try dsimp only at hSw); go_simp) <;> with_reducible rfl))); (try simp only [Act.put, List.setIfInBounds_toArray, List.set_cons_zero, List.set_cons_succ])); refine wpAnyH_ready (rs := [8]) (by kernel_rfl) (by simp) ?_; refine AllReadyH.cons rfl (fun K hK => ?_) AllReadyH.nil; go_simp; refine hK.out _ _ (by ((repeat (with_reducible first | exact B9.out | exact Below.refl _ _ | refine bl_rapp ?_ | (refine bl_set ?_ (by first | omega | (simp; done) | (simp; omega)) _) | refine bl_gr ?_ _ | refine bl_al ?_ _ | refine bl_drewN ?_ _ | refine Below.drew ?_)))) (fun hS => ?_); clear hK K; (try simp only [Act.put, List.setIfInBounds_toArray, List.set_cons_zero, List.set_cons_succ]); (refine wpAnyH_take (i := 9) (v := ?_) rfl (by kernel_rfl) (by kernel_rfl) (by kernel_rfl) (fun _ _ _ h => h) ?_ (by assumption) ?_; rotate_left; (next => (refine Or.inl ⟨by kernel_rfl, ?_⟩; ((intro w hSw; (try dsimp only at hSw); go_simp) <;> with_reducible rfl))); (try simp only [Act.put, List.setIfInBounds_toArray, List.set_cons_zero, List.set_cons_succ])); refine wpAnyH_done (by kernel_rfl) ?_ _)
                all_goals go_simp
                all_goals
                  have PP := setV (w := wr) (u := Val.zero) GV.k GV.n GV.s FB.out B9.out
                  obtain ⟨Y, hY, hc, hB'⟩ := PP (by omega)
                  clear PP
                  rw [← hY]
                  have lY := (Array.getElem?_eq_some_iff.1 hc).1
                  have HC := Lib.hid (And.intro hc (And.intro hB' lY))
                  clear hY hc hB' lY x0 x1 x2 y0 y1 y2 hS
                  go_wp2_with fail
                  go_meet
                  exact ⟨_, rfl, rfl, by first | exact HC.out.1 | exact ((below_gr _ _).block _ HC.out.2.2).trans HC.out.1, bl_tr HB.out (by first | exact HC.out.2.1 | exact bl_gr HC.out.2.1 _)⟩
              case rest =>
                obtain ⟨A, rfl, rfl, hA, bY⟩ := hcut
                obtain ⟨u0, u1, u2⟩ := cells3 hA
                have lA := (Array.getElem?_eq_some_iff.1 hA).1
                have BY := Lib.hid bY
                clear hA bY
                rcases GS.out with ⟨hl, e1, e2⟩ | ⟨hl, e1, e2⟩
                · subst e1 e2
                  rw [if_neg (by omega)] at MP
                  have l1 : ¬ L ≥ 0 := by omega
                  have l2 : ¬ 0 ≤ L := by omega
                  go_wp2
                  go_roundw
                  case rel => exact ⟨q + 1, by omega, by rw [HJ.out]; go_num, by rw [MP.out]; rfl, by (repeat (with_reducible first | exact BY.out | exact Below.refl _ _ | refine bl_rapp ?_ | (refine bl_set ?_ (by first | omega | (simp; done) | (simp; omega)) _) | refine bl_gr ?_ _ | refine bl_al ?_ _ | refine bl_drewN ?_ _ | refine Below.drew ?_))⟩
                  case measure => simp [intOf]; omega
                · subst e1 e2
                  rw [if_pos hl] at MP
                  have l1 : L ≥ 0 := by omega
                  go_wp2
                  go_roundw
                  case rel => exact ⟨q + 1, by omega, by rw [HJ.out]; go_num, by rw [MP.out]; go_num, by (repeat (with_reducible first | exact BY.out | exact Below.refl _ _ | refine bl_rapp ?_ | (refine bl_set ?_ (by first | omega | (simp; done) | (simp; omega)) _) | refine bl_gr ?_ _ | refine bl_al ?_ _ | refine bl_drewN ?_ _ | refine Below.drew ?_))⟩
                  case measure => simp [intOf]; omega
        · have hq5 : q = 5 := by omega
          subst hq5
          have h56 : ((5 + 1 : Nat) : Int) = 6 := rfl
          rw [h56]
          have h65 : ¬ (6 : Int) ≤ 5 := by omega
          clear h56
          generalize manyP (kP keys) (dP deeds) n 5 = M at *
          obtain ⟨⟨a0, a1, a2, a3, a4, a5⟩, _⟩ := cells6 (KK.out _ HB.out)
          have lB2 : B < wr.heap.size := Nat.lt_of_lt_of_le lB HB.out.size
          go_wp2_with (go_at_call 22; refine (callGr (LEN.out _ (SV.out.1.below (by (repeat (with_reducible first | exact HB.out | exact Below.refl _ _ | refine bl_rapp ?_ | (refine bl_set ?_ (by first | omega | (simp; done) | (simp; omega)) _) | refine bl_gr ?_ _ | refine bl_al ?_ _ | refine bl_drewN ?_ _ | refine Below.drew ?_)))) (SV.out.2.below (by (repeat (with_reducible first | exact HB.out | exact Below.refl _ _ | refine bl_rapp ?_ | (refine bl_set ?_ (by first | omega | (simp; done) | (simp; omega)) _) | refine bl_gr ?_ _ | refine bl_al ?_ _ | refine bl_drewN ?_ _ | refine Below.drew ?_)))))).mono ?_; rintro e w' ⟨pp, rfl, rfl⟩)
          go_ret
          exact ⟨rfl, bl_tr QQ.out.2.2 (by (repeat (with_reducible first | exact HB.out | exact Below.refl _ _ | refine bl_rapp ?_ | (refine bl_set ?_ (by first | omega | (simp; done) | (simp; omega)) _) | refine bl_gr ?_ _ | refine bl_al ?_ _ | refine bl_drewN ?_ _ | refine Below.drew ?_)))⟩
end Go.Proofs.Ytdikdkllbhanfaa
