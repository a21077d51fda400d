/- verify.head; checker.ins. -/
import Derived.Test.YtcmpgohpncnagaaChA
import Derived.Test.YtcmpgohpncnagaaWyA
namespace Go.Proofs.Ytcmpgohpncnagaa
set_option linter.all false
open Go.ChangeShapes Go.WideShapes Go.ChangeAt Go.RowKit Go.Sort Go.Deep Go.Shelf

/-- the greatest of four -/
def mx4 (x y z u : Int) : Int := if u > (if z > (if y > x then y else x) then z else (if y > x then y else x)) then u else (if z > (if y > x then y else x) then z else (if y > x then y else x))
theorem run_max4 {P : Program} {w : World} (ts : Array TypeId) (t : TypeId) (x y z u : Int) : (Builtin.max_ ts t #[.int .i64 x, .int .i64 y, .int .i64 z, .int .i64 u]).run P w = .ok (.int .i64 (mx4 x y z u)) w := by
  unfold mx4
  simp [Builtin.max_, Builtin.max2]
theorem mx4_le (x y z u m : Int) : mx4 x y z u ≤ m ↔ (x ≤ m ∧ y ≤ m ∧ z ≤ m ∧ u ≤ m) := by
  unfold mx4
  repeat' split
  all_goals omega
attribute [local go_sem] run_max4
set_option maxRecDepth 100000 in
set_option maxHeartbeats 8000000 in
theorem head_any (c : CodeD) (i p k g : Value) (w : World) (h : Cd4 w i p k g c) :
    Calls Try.prog 55 #[codeV c.nm c.kd c.ln c.rg i p k g] w fun e w' => e = .returned (.bool (headC c)) ∧ Below w.heap.size w w' := by
  obtain ⟨A1, c1, A2, c2, A3, c3, A4, c4, rfl, rfl, rfl, rfl⟩ := h.forms
  have RS := Lib.hid (show headC c = (inB c.kd 0 255 && (inB c.ln 0 1024 && (inB c.rg 0 4096 && (decide ((c.nm.size : Int) ≤ 65536) && decide (c.ins.length ≤ 65536 ∧ c.pl.length ≤ 65536 ∧ c.ks.length ≤ 65536 ∧ c.gs.length ≤ 65536))))) by
    unfold headC
    rw [show decide ((c.nm.size : Int) ≤ 65536) = decide (c.nm.size ≤ 65536) from decide_eq_decide.2 (by omega)]
    simp)
  rw [RS.out]
  have I0 := Lib.hid (fun W => vin_any c.kd 0 255 W)
  have I1 := Lib.hid (fun W => vin_any c.ln 0 1024 W)
  have I2 := Lib.hid (fun W => vin_any c.rg 0 4096 W)
  clear h
  generalize inB c.kd 0 255 = t0 at *
  generalize inB c.ln 0 1024 = t1 at *
  generalize inB c.rg 0 4096 = t2 at *
  cases t0
  · go_enter Try.func55, Try.ntmps55
    go_wp2_with (go_at_call_of 32 (Value.int IntKind.i64 c.kd); refine (I0.out _).mono ?_; rintro e w' ⟨rfl, rfl⟩)
    all_goals go_ret
    all_goals exact ⟨ret_bool (by simp), by (repeat (with_reducible first | exact Below.refl _ _ | (refine bl_set ?_ (by first | omega | (simp; done) | (simp; omega)) _) | refine bl_gr ?_ _ | refine bl_al ?_ _ | refine below_setRow ?_ (by first | omega | (simp; done) | (simp; omega)) _ | refine bl_drewN ?_ _ | refine Below.drew ?_ | (refine bl_tr ?_ (by assumption))))⟩
  cases t1
  · go_enter Try.func55, Try.ntmps55
    go_wp2_with (first | (go_at_call_of 32 (Value.int IntKind.i64 c.kd); refine (I0.out _).mono ?_; rintro e w' ⟨rfl, rfl⟩) | (go_at_call_of 32 (Value.int IntKind.i64 c.ln); refine (I1.out _).mono ?_; rintro e w' ⟨rfl, rfl⟩))
    all_goals go_ret
    all_goals exact ⟨ret_bool (by simp), by (repeat (with_reducible first | exact Below.refl _ _ | (refine bl_set ?_ (by first | omega | (simp; done) | (simp; omega)) _) | refine bl_gr ?_ _ | refine bl_al ?_ _ | refine below_setRow ?_ (by first | omega | (simp; done) | (simp; omega)) _ | refine bl_drewN ?_ _ | refine Below.drew ?_ | (refine bl_tr ?_ (by assumption))))⟩
  cases t2
  · go_enter Try.func55, Try.ntmps55
    go_wp2_with (first | (go_at_call_of 32 (Value.int IntKind.i64 c.kd); refine (I0.out _).mono ?_; rintro e w' ⟨rfl, rfl⟩) | (go_at_call_of 32 (Value.int IntKind.i64 c.ln); refine (I1.out _).mono ?_; rintro e w' ⟨rfl, rfl⟩) | (go_at_call_of 32 (Value.int IntKind.i64 c.rg); refine (I2.out _).mono ?_; rintro e w' ⟨rfl, rfl⟩))
    all_goals go_ret
    all_goals exact ⟨ret_bool (by simp), by (repeat (with_reducible first | exact Below.refl _ _ | (refine bl_set ?_ (by first | omega | (simp; done) | (simp; omega)) _) | refine bl_gr ?_ _ | refine bl_al ?_ _ | refine below_setRow ?_ (by first | omega | (simp; done) | (simp; omega)) _ | refine bl_drewN ?_ _ | refine Below.drew ?_ | (refine bl_tr ?_ (by assumption))))⟩
  by_cases h3 : (c.nm.size : Int) ≤ 65536
  · have ML := Lib.hid (show decide (c.ins.length ≤ 65536 ∧ c.pl.length ≤ 65536 ∧ c.ks.length ≤ 65536 ∧ c.gs.length ≤ 65536) = decide (mx4 (c.ins.length : Int) c.pl.length c.ks.length c.gs.length ≤ 65536) from decide_eq_decide.2 (by rw [mx4_le]; omega))
    rw [ML.out]
    go_enter Try.func55, Try.ntmps55
    go_wp2_with (first | (go_at_call_of 32 (Value.int IntKind.i64 c.kd); refine (I0.out _).mono ?_; rintro e w' ⟨rfl, rfl⟩) | (go_at_call_of 32 (Value.int IntKind.i64 c.ln); refine (I1.out _).mono ?_; rintro e w' ⟨rfl, rfl⟩) | (go_at_call_of 32 (Value.int IntKind.i64 c.rg); refine (I2.out _).mono ?_; rintro e w' ⟨rfl, rfl⟩))
    all_goals go_ret
    all_goals exact ⟨ret_bool (by simp [*]), by (repeat (with_reducible first | exact Below.refl _ _ | (refine bl_set ?_ (by first | omega | (simp; done) | (simp; omega)) _) | refine bl_gr ?_ _ | refine bl_al ?_ _ | refine below_setRow ?_ (by first | omega | (simp; done) | (simp; omega)) _ | refine bl_drewN ?_ _ | refine Below.drew ?_ | (refine bl_tr ?_ (by assumption))))⟩
  · go_enter Try.func55, Try.ntmps55
    go_wp2_with (first | (go_at_call_of 32 (Value.int IntKind.i64 c.kd); refine (I0.out _).mono ?_; rintro e w' ⟨rfl, rfl⟩) | (go_at_call_of 32 (Value.int IntKind.i64 c.ln); refine (I1.out _).mono ?_; rintro e w' ⟨rfl, rfl⟩) | (go_at_call_of 32 (Value.int IntKind.i64 c.rg); refine (I2.out _).mono ?_; rintro e w' ⟨rfl, rfl⟩))
    all_goals go_ret
    all_goals exact ⟨ret_bool (by simp; intros; omega), by (repeat (with_reducible first | exact Below.refl _ _ | (refine bl_set ?_ (by first | omega | (simp; done) | (simp; omega)) _) | refine bl_gr ?_ _ | refine bl_al ?_ _ | refine below_setRow ?_ (by first | omega | (simp; done) | (simp; omega)) _ | refine bl_drewN ?_ _ | refine Below.drew ?_ | (refine bl_tr ?_ (by assumption))))⟩
theorem op_two {a : Int} (h : a = 46 ∨ a = 47) : (a == 46) = true ∨ ((a == 46) = false ∧ (a == 47) = true) := by
  rcases h with rfl | rfl
  · exact .inl rfl
  · exact .inr ⟨rfl, rfl⟩
theorem kd_bit {kd : Int} (hk : 0 ≤ kd ∧ kd ≤ 255) : (bits BinOp.and IntKind.i64 kd 4 == 0) = decide (kd / 4 % 2 = 0) := by
  obtain ⟨n, rfl⟩ : ∃ n : Nat, kd = (n : Int) := ⟨kd.toNat, by omega⟩
  have : ∀ i : Fin 256, (bits BinOp.and IntKind.i64 (i.val : Int) 4 == 0) = decide ((i.val : Int) / 4 % 2 = 0) := by decide +kernel
  exact this ⟨n, by omega⟩
/-- the error of an instruction -/
def insE (N : Int) (c : CodeD) (at_ : Nat) (x : InsD) : Int :=
  if ¬ (0 ≤ x.op ∧ x.op < 55) ∨ ((x.op = 46 ∨ x.op = 47) ∧ c.kd / 4 % 2 = 0) then 40
  else if prtE N c at_ (sgn x.op 0) x.a ≠ 0 then prtE N c at_ (sgn x.op 0) x.a
  else if prtE N c at_ (sgn x.op 1) x.b ≠ 0 then prtE N c at_ (sgn x.op 1) x.b
  else prtE N c at_ (sgn x.op 2) x.c
set_option maxRecDepth 100000 in
set_option maxHeartbeats 8000000 in
theorem vins_any (N : Int) (c : CodeD) (i p k g : Value) (at_ : Nat) (x : InsD) (hx : c.ins[at_]? = some x) (ho : x.ok) (hk : 0 ≤ c.kd ∧ c.kd ≤ 255) (hN : 1 ≤ N ∧ N ≤ 4096) (hr : 0 ≤ c.rg ∧ c.rg ≤ 4096) (w : World) (h : Cd4 w i p k g c) :
    Calls Try.prog 56 #[chkV c.nm c.kd c.ln c.rg i p k g N, .int .i64 (at_ : Int)] w fun e w' => e = .returned (.int .i64 (insE N c at_ x)) ∧ Below w.heap.size w w' := by
  obtain ⟨A1, c1, A2, c2, A3, c3, A4, c4, rfl, rfl, rfl, rfl⟩ := h.forms
  have hlt := (List.getElem?_eq_some_iff.1 hx).1
  obtain ⟨b, off, cap', e1, lb, h0, h1, h2, h3⟩ := at_In h.i hx
  simp only [Value.slice.injEq] at e1
  obtain ⟨rfl, _, rfl⟩ := e1
  have q0 : (at_ : Int) < (c.ins.length : Int) := by omega
  have q1 : ¬ (at_ : Int) < 0 := by omega
  have PT := Lib.hid (parts_any x.op)
  have lbn : ∀ u, b < w.heap.size + u := fun u => Nat.lt_of_lt_of_le lb (Nat.le_add_right _ _)
  by_cases hop : 0 ≤ x.op ∧ x.op < 55
  · obtain ⟨b0, b1, b2, hp, s0, s1, s2, k0, k1, k2⟩ := part_three x.op hop
    rw [hp] at PT
    have hne : ((⟨#[b0, b1, b2]⟩ : ByteArray).toList == []) = false := by rw [ByteArray.toList_eq]; rfl
    have P0 := Lib.hid (fun W h => vpart_any N c (.slice (some ⟨b, off, none⟩) c.ins.length c1) (.slice A2 c.pl.length c2) (.slice A3 c.ks.length c3) (.slice A4 c.gs.length c4) at_ b0.toNat k0 x.a hN hr ho.2.1 W h)
    have P1 := Lib.hid (fun W h => vpart_any N c (.slice (some ⟨b, off, none⟩) c.ins.length c1) (.slice A2 c.pl.length c2) (.slice A3 c.ks.length c3) (.slice A4 c.gs.length c4) at_ b1.toNat k1 x.b hN hr ho.2.2.1 W h)
    have P2 := Lib.hid (fun W h => vpart_any N c (.slice (some ⟨b, off, none⟩) c.ins.length c1) (.slice A2 c.pl.length c2) (.slice A3 c.ks.length c3) (.slice A4 c.gs.length c4) at_ b2.toNat k2 x.c hN hr ho.2.2.2 W h)
    have IE := Lib.hid (show ¬ ((x.op = 46 ∨ x.op = 47) ∧ c.kd / 4 % 2 = 0) → insE N c at_ x = if prtE N c at_ b0.toNat x.a ≠ 0 then prtE N c at_ b0.toNat x.a else if prtE N c at_ b1.toNat x.b ≠ 0 then prtE N c at_ b1.toNat x.b else prtE N c at_ b2.toNat x.c from fun hno => by
      unfold insE
      rw [if_neg (by rintro (h | h); exact h hop; exact hno h), s0, s1, s2])
    have IF := Lib.hid (show ((x.op = 46 ∨ x.op = 47) ∧ c.kd / 4 % 2 = 0) → insE N c at_ x = 40 from fun hy => by
      unfold insE
      rw [if_pos (.inr hy)])
    have H := Lib.hid h
    have KB := Lib.hid (show (bits BinOp.and IntKind.i64 c.kd 4 == 0) = decide (c.kd / 4 % 2 = 0) from kd_bit hk)
    generalize prtE N c at_ b0.toNat x.a = r0 at *
    generalize prtE N c at_ b1.toNat x.b = r1 at *
    generalize prtE N c at_ b2.toNat x.c = r2 at *
    rw [show b0.toNat = ((⟨#[b0, b1, b2]⟩ : ByteArray)[0]'(show 0 < 3 by decide)).toNat from rfl] at P0
    rw [show b1.toNat = ((⟨#[b0, b1, b2]⟩ : ByteArray)[1]'(show 1 < 3 by decide)).toNat from rfl] at P1
    rw [show b2.toNat = ((⟨#[b0, b1, b2]⟩ : ByteArray)[2]'(show 2 < 3 by decide)).toNat from rfl] at P2
    have ways3 : ((x.op == 46) = false ∧ (x.op == 47) = false) ∨ ((x.op = 46 ∨ x.op = 47) ∧ c.kd / 4 % 2 = 0) ∨ ((x.op = 46 ∨ x.op = 47) ∧ ¬ c.kd / 4 % 2 = 0) := by
      by_cases h1 : x.op = 46
      · by_cases h2 : c.kd / 4 % 2 = 0
        · exact .inr (.inl ⟨.inl h1, h2⟩)
        · exact .inr (.inr ⟨.inl h1, h2⟩)
      · by_cases h3 : x.op = 47
        · by_cases h2 : c.kd / 4 % 2 = 0
          · exact .inr (.inl ⟨.inr h3, h2⟩)
          · exact .inr (.inr ⟨.inr h3, h2⟩)
        · exact .inl ⟨by simpa using h1, by simpa using h3⟩
    clear h hx hlt ho hp s0 s1 s2 k0 k1 k2 hop hr hN hk
    rcases ways3 with ⟨o6, o7⟩ | ⟨o, hb⟩ | ⟨o, hb⟩
    · have IE := Lib.hid (IE.out (by rintro ⟨h | h, _⟩; rw [h] at o6; simp at o6; rw [h] at o7; simp at o7))
      go_enter Try.func56, Try.ntmps56
      go_wp2_with (go_at_call 46; refine (callGr (PT.out _)).mono ?_; rintro e w' ⟨pp, rfl, rfl⟩)
      have ix0 := fun W => (index3 x.a x.b x.c W).1
      have ix1 := fun W => (index3 x.a x.b x.c W).2.1
      have ix2 := fun W => (index3 x.a x.b x.c W).2.2
      go_loopw [45] (fun i X => ∃ q : Nat, q ≤ 3 ∧ i = .int .i64 q ∧ X.heap[w.heap.size]? = some (chkO c.nm c.kd c.ln c.rg (.slice (some ⟨b, off, none⟩) c.ins.length c1) (.slice A2 c.pl.length c2) (.slice A3 c.ks.length c3) (.slice A4 c.gs.length c4) N) ∧ Below w.heap.size w X ∧ Hid ((0 < q → r0 = 0) ∧ (1 < q → r1 = 0) ∧ (2 < q → r2 = 0))) (fun i _ => 3 - (intOf i).toNat)
      case atStart => exact ⟨0, by omega, rfl, ((show Below (w.alloc (chkO c.nm c.kd c.ln c.rg (.slice (some ⟨b, off, none⟩) c.ins.length c1) (.slice A2 c.pl.length c2) (.slice A3 c.ks.length c3) (.slice A4 c.gs.length c4) N)).heap.size (w.alloc (chkO c.nm c.kd c.ln c.rg (.slice (some ⟨b, off, none⟩) c.ins.length c1) (.slice A2 c.pl.length c2) (.slice A3 c.ks.length c3) (.slice A4 c.gs.length c4) N)) _ by (repeat (with_reducible first | exact Below.refl _ _ | (refine bl_set ?_ (by first | omega | (simp; done) | (simp; omega)) _) | refine bl_gr ?_ _ | refine bl_al ?_ _ | refine below_setRow ?_ (by first | omega | (simp; done) | (simp; omega)) _ | refine bl_drewN ?_ _ | refine Below.drew ?_ | (refine bl_tr ?_ (by assumption))))).block _ (by simp)).trans (heap_alloc_new _ _), by (repeat (with_reducible first | exact Below.refl _ _ | (refine bl_set ?_ (by first | omega | (simp; done) | (simp; omega)) _) | refine bl_gr ?_ _ | refine bl_al ?_ _ | refine below_setRow ?_ (by first | omega | (simp; done) | (simp; omega)) _ | refine bl_drewN ?_ _ | refine Below.drew ?_ | (refine bl_tr ?_ (by assumption)))), Lib.hid ⟨fun h => absurd h (by omega), fun h => absurd h (by omega), fun h => absurd h (by omega)⟩⟩
      case round =>
        obtain ⟨q, hq, hi, hco, hlo, HI⟩ := hrel
        have CO := Lib.hid (And.intro hco hlo)
        obtain ⟨a0, a1, a2, a3, a4, a5, a6, a7, a8⟩ := cells9 hco
        have l0 := (Array.getElem?_eq_some_iff.1 hco).1
        have HB := Lib.hid (H.out.below hlo)
        clear hco hlo
        rcases (by omega : q = 0 ∨ q = 1 ∨ q = 2 ∨ q = 3) with rfl | rfl | rfl | rfl
        · have hi : _ = Value.int .i64 0 := hi
          subst hi
          by_cases hz : r0 = 0
          · have NX := Lib.hid (show (0 < 1 → r0 = 0) ∧ (1 < 1 → r1 = 0) ∧ (2 < 1 → r2 = 0) from ⟨fun _ => hz, fun h => absurd h (by omega), fun h => absurd h (by omega)⟩)
            have PK := P0
            rw [hz] at PK
            clear hz
            go_upto_region 8 with fail
            ((first | (with_reducible refine wp_quiet_gr Try.mixed ?_ ?_) | (with_reducible refine wp_quiet_any Try.mixed ?_ ?_)); (next => kernel_rfl); (repeat (with_reducible refine wpQuiet_step (fun K hK => ?_); go_simp; first | (refine hK _ ?_; clear hK K) | (apply Exists.intro; refine ⟨fun _ => ?_, hK _ ?_⟩; (((go_at_call 74; go_loud (exact callQ (PK.out _ (HB.out.below (below_gr _ _))))))); clear hK K))); refine wpQuiet_nil ?_; intro pq)
            go_simp
            go_wp2
            go_roundw
            case rel => exact ⟨1, by omega, rfl, ((below_gr _ _).block _ l0).trans CO.out.1, bl_tr CO.out.2 (by (repeat (with_reducible first | exact Below.refl _ _ | (refine bl_set ?_ (by first | omega | (simp; done) | (simp; omega)) _) | refine bl_gr ?_ _ | refine bl_al ?_ _ | refine below_setRow ?_ (by first | omega | (simp; done) | (simp; omega)) _ | refine bl_drewN ?_ _ | refine Below.drew ?_ | (refine bl_tr ?_ (by assumption))))), NX⟩
            case measure => simp [intOf]
          · have RS := Lib.hid (show insE N c at_ x = r0 from by rw [IE.out, if_pos (by exact hz)])
            have e9 : (r0 != 0) = true := by simpa using hz
            have e8 : (r0 == 0) = false := by simpa using hz
            clear hz
            go_upto_region 8 with fail
            ((first | (with_reducible refine wp_quiet_gr Try.mixed ?_ ?_) | (with_reducible refine wp_quiet_any Try.mixed ?_ ?_)); (next => kernel_rfl); (repeat (with_reducible refine wpQuiet_step (fun K hK => ?_); go_simp; first | (refine hK _ ?_; clear hK K) | (apply Exists.intro; refine ⟨fun _ => ?_, hK _ ?_⟩; (((go_at_call 74; go_loud (exact callQ (P0.out _ (HB.out.below (below_gr _ _))))))); clear hK K))); refine wpQuiet_nil ?_; intro pq)
            go_simp
            go_wp2
            go_ret
            exact ⟨ret_int RS.out.symm, bl_tr CO.out.2 (by (repeat (with_reducible first | exact Below.refl _ _ | (refine bl_set ?_ (by first | omega | (simp; done) | (simp; omega)) _) | refine bl_gr ?_ _ | refine bl_al ?_ _ | refine below_setRow ?_ (by first | omega | (simp; done) | (simp; omega)) _ | refine bl_drewN ?_ _ | refine Below.drew ?_ | (refine bl_tr ?_ (by assumption)))))⟩
        · have hi : _ = Value.int .i64 1 := hi
          subst hi
          have z0 := HI.out.1 (by omega)
          by_cases hz : r1 = 0
          · have NX := Lib.hid (show (0 < 2 → r0 = 0) ∧ (1 < 2 → r1 = 0) ∧ (2 < 2 → r2 = 0) from ⟨fun _ => z0, fun _ => hz, fun h => absurd h (by omega)⟩)
            have PK := P1
            rw [hz] at PK
            clear hz z0
            go_upto_region 8 with fail
            ((first | (with_reducible refine wp_quiet_gr Try.mixed ?_ ?_) | (with_reducible refine wp_quiet_any Try.mixed ?_ ?_)); (next => kernel_rfl); (repeat (with_reducible refine wpQuiet_step (fun K hK => ?_); go_simp; first | (refine hK _ ?_; clear hK K) | (apply Exists.intro; refine ⟨fun _ => ?_, hK _ ?_⟩; (((go_at_call 74; go_loud (exact callQ (PK.out _ (HB.out.below (below_gr _ _))))))); clear hK K))); refine wpQuiet_nil ?_; intro pq)
            go_simp
            go_wp2
            go_roundw
            case rel => exact ⟨2, by omega, rfl, ((below_gr _ _).block _ l0).trans CO.out.1, bl_tr CO.out.2 (by (repeat (with_reducible first | exact Below.refl _ _ | (refine bl_set ?_ (by first | omega | (simp; done) | (simp; omega)) _) | refine bl_gr ?_ _ | refine bl_al ?_ _ | refine below_setRow ?_ (by first | omega | (simp; done) | (simp; omega)) _ | refine bl_drewN ?_ _ | refine Below.drew ?_ | (refine bl_tr ?_ (by assumption))))), NX⟩
            case measure => simp [intOf]
          · have RS := Lib.hid (show insE N c at_ x = r1 from by rw [IE.out, if_neg (by rw [z0]; simp), if_pos (by exact hz)])
            have e9 : (r1 != 0) = true := by simpa using hz
            have e8 : (r1 == 0) = false := by simpa using hz
            clear hz z0
            go_upto_region 8 with fail
            ((first | (with_reducible refine wp_quiet_gr Try.mixed ?_ ?_) | (with_reducible refine wp_quiet_any Try.mixed ?_ ?_)); (next => kernel_rfl); (repeat (with_reducible refine wpQuiet_step (fun K hK => ?_); go_simp; first | (refine hK _ ?_; clear hK K) | (apply Exists.intro; refine ⟨fun _ => ?_, hK _ ?_⟩; (((go_at_call 74; go_loud (exact callQ (P1.out _ (HB.out.below (below_gr _ _))))))); clear hK K))); refine wpQuiet_nil ?_; intro pq)
            go_simp
            go_wp2
            go_ret
            exact ⟨ret_int RS.out.symm, bl_tr CO.out.2 (by (repeat (with_reducible first | exact Below.refl _ _ | (refine bl_set ?_ (by first | omega | (simp; done) | (simp; omega)) _) | refine bl_gr ?_ _ | refine bl_al ?_ _ | refine below_setRow ?_ (by first | omega | (simp; done) | (simp; omega)) _ | refine bl_drewN ?_ _ | refine Below.drew ?_ | (refine bl_tr ?_ (by assumption)))))⟩
        · have hi : _ = Value.int .i64 2 := hi
          subst hi
          have z0 := HI.out.1 (by omega)
          have z1 := HI.out.2.1 (by omega)
          by_cases hz : r2 = 0
          · have NX := Lib.hid (show (0 < 3 → r0 = 0) ∧ (1 < 3 → r1 = 0) ∧ (2 < 3 → r2 = 0) from ⟨fun _ => z0, fun _ => z1, fun _ => hz⟩)
            have PK := P2
            rw [hz] at PK
            clear hz z0 z1
            go_upto_region 8 with fail
            ((first | (with_reducible refine wp_quiet_gr Try.mixed ?_ ?_) | (with_reducible refine wp_quiet_any Try.mixed ?_ ?_)); (next => kernel_rfl); (repeat (with_reducible refine wpQuiet_step (fun K hK => ?_); go_simp; first | (refine hK _ ?_; clear hK K) | (apply Exists.intro; refine ⟨fun _ => ?_, hK _ ?_⟩; (((go_at_call 74; go_loud (exact callQ (PK.out _ (HB.out.below (below_gr _ _))))))); clear hK K))); refine wpQuiet_nil ?_; intro pq)
            go_simp
            go_wp2
            go_roundw
            case rel => exact ⟨3, by omega, rfl, ((below_gr _ _).block _ l0).trans CO.out.1, bl_tr CO.out.2 (by (repeat (with_reducible first | exact Below.refl _ _ | (refine bl_set ?_ (by first | omega | (simp; done) | (simp; omega)) _) | refine bl_gr ?_ _ | refine bl_al ?_ _ | refine below_setRow ?_ (by first | omega | (simp; done) | (simp; omega)) _ | refine bl_drewN ?_ _ | refine Below.drew ?_ | (refine bl_tr ?_ (by assumption))))), NX⟩
            case measure => simp [intOf]
          · have RS := Lib.hid (show insE N c at_ x = r2 from by rw [IE.out, if_neg (by rw [z0]; simp), if_neg (by rw [z1]; simp)])
            have e9 : (r2 != 0) = true := by simpa using hz
            have e8 : (r2 == 0) = false := by simpa using hz
            clear hz z0 z1
            go_upto_region 8 with fail
            ((first | (with_reducible refine wp_quiet_gr Try.mixed ?_ ?_) | (with_reducible refine wp_quiet_any Try.mixed ?_ ?_)); (next => kernel_rfl); (repeat (with_reducible refine wpQuiet_step (fun K hK => ?_); go_simp; first | (refine hK _ ?_; clear hK K) | (apply Exists.intro; refine ⟨fun _ => ?_, hK _ ?_⟩; (((go_at_call 74; go_loud (exact callQ (P2.out _ (HB.out.below (below_gr _ _))))))); clear hK K))); refine wpQuiet_nil ?_; intro pq)
            go_simp
            go_wp2
            go_ret
            exact ⟨ret_int RS.out.symm, bl_tr CO.out.2 (by (repeat (with_reducible first | exact Below.refl _ _ | (refine bl_set ?_ (by first | omega | (simp; done) | (simp; omega)) _) | refine bl_gr ?_ _ | refine bl_al ?_ _ | refine below_setRow ?_ (by first | omega | (simp; done) | (simp; omega)) _ | refine bl_drewN ?_ _ | refine Below.drew ?_ | (refine bl_tr ?_ (by assumption)))))⟩
        · have hi : _ = Value.int .i64 3 := hi
          subst hi
          have z0 := HI.out.1 (by omega)
          have z1 := HI.out.2.1 (by omega)
          have z2 := HI.out.2.2 (by omega)
          have RS := Lib.hid (show insE N c at_ x = 0 by rw [IE.out, if_neg (by rw [z0]; simp), if_neg (by rw [z1]; simp), z2])
          clear z0 z1 z2 hq
          go_wp2
          go_ret
          exact ⟨ret_int RS.out.symm, CO.out.2⟩
    · have RS := Lib.hid (IF.out ⟨o, hb⟩)
      have bt : (bits BinOp.and IntKind.i64 c.kd 4 == 0) = true := by rw [KB.out]; exact decide_eq_true hb
      rw [RS.out]
      clear hb
      have o2 : (x.op == 46) = true ∨ ((x.op == 46) = false ∧ (x.op == 47) = true) := op_two o
      clear o
      rcases o2 with o6 | ⟨o6, o7⟩
      all_goals
        go_enter Try.func56, Try.ntmps56
        go_wp2_with (go_at_call 46; refine (callGr (PT.out _)).mono ?_; rintro e w' ⟨pp, rfl, rfl⟩)
        all_goals go_ret
        all_goals exact ⟨rfl, by (repeat (with_reducible first | exact Below.refl _ _ | (refine bl_set ?_ (by first | omega | (simp; done) | (simp; omega)) _) | refine bl_gr ?_ _ | refine bl_al ?_ _ | refine below_setRow ?_ (by first | omega | (simp; done) | (simp; omega)) _ | refine bl_drewN ?_ _ | refine Below.drew ?_ | (refine bl_tr ?_ (by assumption))))⟩
    · have IE := Lib.hid (IE.out (fun h => hb h.2))
      have bt : (bits BinOp.and IntKind.i64 c.kd 4 == 0) = false := by rw [KB.out]; exact decide_eq_false hb
      clear hb IF
      have o2 : (x.op == 46) = true ∨ ((x.op == 46) = false ∧ (x.op == 47) = true) := op_two o
      clear o
      rcases o2 with o6 | ⟨o6, o7⟩
      all_goals
        go_enter Try.func56, Try.ntmps56
        go_wp2_with (go_at_call 46; refine (callGr (PT.out _)).mono ?_; rintro e w' ⟨pp, rfl, rfl⟩)
        have ix0 := fun W => (index3 x.a x.b x.c W).1
        have ix1 := fun W => (index3 x.a x.b x.c W).2.1
        have ix2 := fun W => (index3 x.a x.b x.c W).2.2
        go_loopw [45] (fun i X => ∃ q : Nat, q ≤ 3 ∧ i = .int .i64 q ∧ X.heap[w.heap.size]? = some (chkO c.nm c.kd c.ln c.rg (.slice (some ⟨b, off, none⟩) c.ins.length c1) (.slice A2 c.pl.length c2) (.slice A3 c.ks.length c3) (.slice A4 c.gs.length c4) N) ∧ Below w.heap.size w X ∧ Hid ((0 < q → r0 = 0) ∧ (1 < q → r1 = 0) ∧ (2 < q → r2 = 0))) (fun i _ => 3 - (intOf i).toNat)
        case atStart => exact ⟨0, by omega, rfl, ((show Below (w.alloc (chkO c.nm c.kd c.ln c.rg (.slice (some ⟨b, off, none⟩) c.ins.length c1) (.slice A2 c.pl.length c2) (.slice A3 c.ks.length c3) (.slice A4 c.gs.length c4) N)).heap.size (w.alloc (chkO c.nm c.kd c.ln c.rg (.slice (some ⟨b, off, none⟩) c.ins.length c1) (.slice A2 c.pl.length c2) (.slice A3 c.ks.length c3) (.slice A4 c.gs.length c4) N)) _ by (repeat (with_reducible first | exact Below.refl _ _ | (refine bl_set ?_ (by first | omega | (simp; done) | (simp; omega)) _) | refine bl_gr ?_ _ | refine bl_al ?_ _ | refine below_setRow ?_ (by first | omega | (simp; done) | (simp; omega)) _ | refine bl_drewN ?_ _ | refine Below.drew ?_ | (refine bl_tr ?_ (by assumption))))).block _ (by simp)).trans (heap_alloc_new _ _), by (repeat (with_reducible first | exact Below.refl _ _ | (refine bl_set ?_ (by first | omega | (simp; done) | (simp; omega)) _) | refine bl_gr ?_ _ | refine bl_al ?_ _ | refine below_setRow ?_ (by first | omega | (simp; done) | (simp; omega)) _ | refine bl_drewN ?_ _ | refine Below.drew ?_ | (refine bl_tr ?_ (by assumption)))), Lib.hid ⟨fun h => absurd h (by omega), fun h => absurd h (by omega), fun h => absurd h (by omega)⟩⟩
        case round =>
          obtain ⟨q, hq, hi, hco, hlo, HI⟩ := hrel
          have CO := Lib.hid (And.intro hco hlo)
          obtain ⟨a0, a1, a2, a3, a4, a5, a6, a7, a8⟩ := cells9 hco
          have l0 := (Array.getElem?_eq_some_iff.1 hco).1
          have HB := Lib.hid (H.out.below hlo)
          clear hco hlo
          rcases (by omega : q = 0 ∨ q = 1 ∨ q = 2 ∨ q = 3) with rfl | rfl | rfl | rfl
          · have hi : _ = Value.int .i64 0 := hi
            subst hi
            by_cases hz : r0 = 0
            · have NX := Lib.hid (show (0 < 1 → r0 = 0) ∧ (1 < 1 → r1 = 0) ∧ (2 < 1 → r2 = 0) from ⟨fun _ => hz, fun h => absurd h (by omega), fun h => absurd h (by omega)⟩)
              have PK := P0
              rw [hz] at PK
              clear hz
              go_upto_region 8 with fail
              ((first | (with_reducible refine wp_quiet_gr Try.mixed ?_ ?_) | (with_reducible refine wp_quiet_any Try.mixed ?_ ?_)); (next => kernel_rfl); (repeat (with_reducible refine wpQuiet_step (fun K hK => ?_); go_simp; first | (refine hK _ ?_; clear hK K) | (apply Exists.intro; refine ⟨fun _ => ?_, hK _ ?_⟩; (((go_at_call 74; go_loud (exact callQ (PK.out _ (HB.out.below (below_gr _ _))))))); clear hK K))); refine wpQuiet_nil ?_; intro pq)
              go_simp
              go_wp2
              go_roundw
              case rel => exact ⟨1, by omega, rfl, ((below_gr _ _).block _ l0).trans CO.out.1, bl_tr CO.out.2 (by (repeat (with_reducible first | exact Below.refl _ _ | (refine bl_set ?_ (by first | omega | (simp; done) | (simp; omega)) _) | refine bl_gr ?_ _ | refine bl_al ?_ _ | refine below_setRow ?_ (by first | omega | (simp; done) | (simp; omega)) _ | refine bl_drewN ?_ _ | refine Below.drew ?_ | (refine bl_tr ?_ (by assumption))))), NX⟩
              case measure => simp [intOf]
            · have RS := Lib.hid (show insE N c at_ x = r0 from by rw [IE.out, if_pos (by exact hz)])
              have e9 : (r0 != 0) = true := by simpa using hz
              have e8 : (r0 == 0) = false := by simpa using hz
              clear hz
              go_upto_region 8 with fail
              ((first | (with_reducible refine wp_quiet_gr Try.mixed ?_ ?_) | (with_reducible refine wp_quiet_any Try.mixed ?_ ?_)); (next => kernel_rfl); (repeat (with_reducible refine wpQuiet_step (fun K hK => ?_); go_simp; first | (refine hK _ ?_; clear hK K) | (apply Exists.intro; refine ⟨fun _ => ?_, hK _ ?_⟩; (((go_at_call 74; go_loud (exact callQ (P0.out _ (HB.out.below (below_gr _ _))))))); clear hK K))); refine wpQuiet_nil ?_; intro pq)
              go_simp
              go_wp2
              go_ret
              exact ⟨ret_int RS.out.symm, bl_tr CO.out.2 (by (repeat (with_reducible first | exact Below.refl _ _ | (refine bl_set ?_ (by first | omega | (simp; done) | (simp; omega)) _) | refine bl_gr ?_ _ | refine bl_al ?_ _ | refine below_setRow ?_ (by first | omega | (simp; done) | (simp; omega)) _ | refine bl_drewN ?_ _ | refine Below.drew ?_ | (refine bl_tr ?_ (by assumption)))))⟩
          · have hi : _ = Value.int .i64 1 := hi
            subst hi
            have z0 := HI.out.1 (by omega)
            by_cases hz : r1 = 0
            · have NX := Lib.hid (show (0 < 2 → r0 = 0) ∧ (1 < 2 → r1 = 0) ∧ (2 < 2 → r2 = 0) from ⟨fun _ => z0, fun _ => hz, fun h => absurd h (by omega)⟩)
              have PK := P1
              rw [hz] at PK
              clear hz z0
              go_upto_region 8 with fail
              ((first | (with_reducible refine wp_quiet_gr Try.mixed ?_ ?_) | (with_reducible refine wp_quiet_any Try.mixed ?_ ?_)); (next => kernel_rfl); (repeat (with_reducible refine wpQuiet_step (fun K hK => ?_); go_simp; first | (refine hK _ ?_; clear hK K) | (apply Exists.intro; refine ⟨fun _ => ?_, hK _ ?_⟩; (((go_at_call 74; go_loud (exact callQ (PK.out _ (HB.out.below (below_gr _ _))))))); clear hK K))); refine wpQuiet_nil ?_; intro pq)
              go_simp
              go_wp2
              go_roundw
              case rel => exact ⟨2, by omega, rfl, ((below_gr _ _).block _ l0).trans CO.out.1, bl_tr CO.out.2 (by (repeat (with_reducible first | exact Below.refl _ _ | (refine bl_set ?_ (by first | omega | (simp; done) | (simp; omega)) _) | refine bl_gr ?_ _ | refine bl_al ?_ _ | refine below_setRow ?_ (by first | omega | (simp; done) | (simp; omega)) _ | refine bl_drewN ?_ _ | refine Below.drew ?_ | (refine bl_tr ?_ (by assumption))))), NX⟩
              case measure => simp [intOf]
            · have RS := Lib.hid (show insE N c at_ x = r1 from by rw [IE.out, if_neg (by rw [z0]; simp), if_pos (by exact hz)])
              have e9 : (r1 != 0) = true := by simpa using hz
              have e8 : (r1 == 0) = false := by simpa using hz
              clear hz z0
              go_upto_region 8 with fail
              ((first | (with_reducible refine wp_quiet_gr Try.mixed ?_ ?_) | (with_reducible refine wp_quiet_any Try.mixed ?_ ?_)); (next => kernel_rfl); (repeat (with_reducible refine wpQuiet_step (fun K hK => ?_); go_simp; first | (refine hK _ ?_; clear hK K) | (apply Exists.intro; refine ⟨fun _ => ?_, hK _ ?_⟩; (((go_at_call 74; go_loud (exact callQ (P1.out _ (HB.out.below (below_gr _ _))))))); clear hK K))); refine wpQuiet_nil ?_; intro pq)
              go_simp
              go_wp2
              go_ret
              exact ⟨ret_int RS.out.symm, bl_tr CO.out.2 (by (repeat (with_reducible first | exact Below.refl _ _ | (refine bl_set ?_ (by first | omega | (simp; done) | (simp; omega)) _) | refine bl_gr ?_ _ | refine bl_al ?_ _ | refine below_setRow ?_ (by first | omega | (simp; done) | (simp; omega)) _ | refine bl_drewN ?_ _ | refine Below.drew ?_ | (refine bl_tr ?_ (by assumption)))))⟩
          · have hi : _ = Value.int .i64 2 := hi
            subst hi
            have z0 := HI.out.1 (by omega)
            have z1 := HI.out.2.1 (by omega)
            by_cases hz : r2 = 0
            · have NX := Lib.hid (show (0 < 3 → r0 = 0) ∧ (1 < 3 → r1 = 0) ∧ (2 < 3 → r2 = 0) from ⟨fun _ => z0, fun _ => z1, fun _ => hz⟩)
              have PK := P2
              rw [hz] at PK
              clear hz z0 z1
              go_upto_region 8 with fail
              ((first | (with_reducible refine wp_quiet_gr Try.mixed ?_ ?_) | (with_reducible refine wp_quiet_any Try.mixed ?_ ?_)); (next => kernel_rfl); (repeat (with_reducible refine wpQuiet_step (fun K hK => ?_); go_simp; first | (refine hK _ ?_; clear hK K) | (apply Exists.intro; refine ⟨fun _ => ?_, hK _ ?_⟩; (((go_at_call 74; go_loud (exact callQ (PK.out _ (HB.out.below (below_gr _ _))))))); clear hK K))); refine wpQuiet_nil ?_; intro pq)
              go_simp
              go_wp2
              go_roundw
              case rel => exact ⟨3, by omega, rfl, ((below_gr _ _).block _ l0).trans CO.out.1, bl_tr CO.out.2 (by (repeat (with_reducible first | exact Below.refl _ _ | (refine bl_set ?_ (by first | omega | (simp; done) | (simp; omega)) _) | refine bl_gr ?_ _ | refine bl_al ?_ _ | refine below_setRow ?_ (by first | omega | (simp; done) | (simp; omega)) _ | refine bl_drewN ?_ _ | refine Below.drew ?_ | (refine bl_tr ?_ (by assumption))))), NX⟩
              case measure => simp [intOf]
            · have RS := Lib.hid (show insE N c at_ x = r2 from by rw [IE.out, if_neg (by rw [z0]; simp), if_neg (by rw [z1]; simp)])
              have e9 : (r2 != 0) = true := by simpa using hz
              have e8 : (r2 == 0) = false := by simpa using hz
              clear hz z0 z1
              go_upto_region 8 with fail
              ((first | (with_reducible refine wp_quiet_gr Try.mixed ?_ ?_) | (with_reducible refine wp_quiet_any Try.mixed ?_ ?_)); (next => kernel_rfl); (repeat (with_reducible refine wpQuiet_step (fun K hK => ?_); go_simp; first | (refine hK _ ?_; clear hK K) | (apply Exists.intro; refine ⟨fun _ => ?_, hK _ ?_⟩; (((go_at_call 74; go_loud (exact callQ (P2.out _ (HB.out.below (below_gr _ _))))))); clear hK K))); refine wpQuiet_nil ?_; intro pq)
              go_simp
              go_wp2
              go_ret
              exact ⟨ret_int RS.out.symm, bl_tr CO.out.2 (by (repeat (with_reducible first | exact Below.refl _ _ | (refine bl_set ?_ (by first | omega | (simp; done) | (simp; omega)) _) | refine bl_gr ?_ _ | refine bl_al ?_ _ | refine below_setRow ?_ (by first | omega | (simp; done) | (simp; omega)) _ | refine bl_drewN ?_ _ | refine Below.drew ?_ | (refine bl_tr ?_ (by assumption)))))⟩
          · have hi : _ = Value.int .i64 3 := hi
            subst hi
            have z0 := HI.out.1 (by omega)
            have z1 := HI.out.2.1 (by omega)
            have z2 := HI.out.2.2 (by omega)
            have RS := Lib.hid (show insE N c at_ x = 0 by rw [IE.out, if_neg (by rw [z0]; simp), if_neg (by rw [z1]; simp), z2])
            clear z0 z1 z2 hq
            go_wp2
            go_ret
            exact ⟨ret_int RS.out.symm, CO.out.2⟩
  · have RS := Lib.hid (show insE N c at_ x = 40 by unfold insE; rw [if_pos (.inl hop)])
    rw [RS.out]
    rw [show partM x.op = ⟨#[]⟩ by unfold partM; rw [if_neg hop]] at PT
    have hne : ((⟨#[]⟩ : ByteArray).toList == []) = true := by rw [ByteArray.toList_eq]; rfl
    clear h hop hx hlt ho
    go_enter Try.func56, Try.ntmps56
    go_wp2_with (go_at_call 46; refine (callGr (PT.out _)).mono ?_; rintro e w' ⟨pp, rfl, rfl⟩)
    all_goals go_ret
    all_goals exact ⟨rfl, by (repeat (with_reducible first | exact Below.refl _ _ | (refine bl_set ?_ (by first | omega | (simp; done) | (simp; omega)) _) | refine bl_gr ?_ _ | refine bl_al ?_ _ | refine below_setRow ?_ (by first | omega | (simp; done) | (simp; omega)) _ | refine bl_drewN ?_ _ | refine Below.drew ?_ | (refine bl_tr ?_ (by assumption))))⟩
end Go.Proofs.Ytcmpgohpncnagaa
