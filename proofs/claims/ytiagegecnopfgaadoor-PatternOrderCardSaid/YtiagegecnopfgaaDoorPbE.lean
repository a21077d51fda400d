/- The law's used and made, walked. -/
import Derived.Test.YtiagegecnopfgaaDoorPbD
namespace Go.Proofs.YtiagegecnopfgaaDoor
set_option linter.all false
open Go.ChangeShapes Go.WideShapes Go.ChangeAt Go.RowKit Go.Sort Go.Deep

abbrev stepW (d : StepD) (A1 : Option Addr) (c1 : Nat) (A2 : Option Addr) (c2 : Nat) : Value := .agg #[.int .i64 d.k, .int .i64 d.r, .int .i64 d.f, .string d.s, .int .i64 d.nd.op, .int .i64 d.nd.at_, .int .i64 d.nd.n, .int .i64 d.nd.m, .string d.nd.s, .slice A1 d.nd.kids.length c1, .slice A2 d.ks.length c2]
theorem cells11p {w : World} {b : Nat} {d : StepD} {A1 A2 : Option Addr} {c1 c2 : Nat} (h : w.heap[b]? = some (stepO ⟨d, A1, c1, A2, c2⟩)) : AtS w b 0 d A1 c1 A2 c2 ∧ ∀ j, w.frozen? ⟨b, j, none⟩ = false := by
  refine ⟨?_, fun j => frozen_of_row w b j _ _ h⟩
  unfold AtS
  and_intros <;> (rw [cell_of_row w b _ _ _ _ h]; rfl)
set_option maxRecDepth 100000 in
set_option maxHeartbeats 8000000 in
theorem used_9 (d : StepD) (A1 A2 : Option Addr) (c1 c2 : Nat) (g : Int) (w : World) (hs : RdS w ⟨d, A1, c1, A2, c2⟩) (hks : ∀ k ∈ d.ks, 1 ≤ k ∧ k < g) (hk9 : d.k = 9) (h0 : 0 ≤ d.r) (h1 : d.r < g) :
    Calls Tryd.prog 19 #[stepW d A1 c1 A2 c2, .int .i64 g] w fun e w' => e = .returned (.bool true) ∧ Below w.heap.size w w' := by
  have o9 : (d.k == 9) = true := by rw [hk9]; decide
  have HS := Lib.hid hs.2
  have HK := Lib.hid hks
  have HL := Lib.hid (show d.ks.length ≤ 9223372036854775807 from by have hm := hs.2.1; unfold maxLen at hm; omega)
  have T0 := Lib.hid (OneB.start w (stepO ⟨d, A1, c1, A2, c2⟩))
  clear hs hks hk9
  go_enter Tryd.func19, Tryd.ntmps19
  go_wp2
  go_loopw [10] (fun i X => ∃ (q : Nat), i = .int .i64 q ∧ Hid (q ≤ d.ks.length) ∧ OneB w X (stepO ⟨d, A1, c1, A2, c2⟩)) (fun i _ => d.ks.length - (intOf i).toNat)
  case atStart => exact ⟨0, rfl, Lib.hid (Nat.zero_le _), T0.out⟩
  case round =>
    clear T0
    obtain ⟨q, rfl, HQ, hx⟩ := hrel
    have BX := Lib.hid hx
    obtain ⟨⟨a0, a1, a2, a3, a4, a5, a6, a7, a8, a9, a10⟩, _⟩ := cells11p hx.1
    have l0 := hx.lt
    by_cases hlt : q < d.ks.length
    · have q1 : (q : Int) < (d.ks.length : Int) := by omega
      have q3 : ¬ (q : Int) < 0 := by omega
      obtain ⟨k, hd⟩ : ∃ k, d.ks[q]? = some k := ⟨_, List.getElem?_eq_getElem hlt⟩
      obtain ⟨b, off, rfl, lb, u0⟩ := ints_at (HS.out.below hx.2) hd
      obtain ⟨k1, k2⟩ := HK.out k (List.mem_of_getElem? hd)
      have k3 : ¬ k < 1 := by omega
      have k4 : ¬ g ≤ k := by omega
      have kp1 : wrap64 ((q : Int) + 1) = ((q + 1 : Nat) : Int) := w64c (by omega) (by have := HL.out; omega)
      have LQ := Lib.hid hlt
      clear hlt hd hx
      go_wp2
      go_roundw
      case rel => exact ⟨q + 1, by first | with_reducible rfl | (rw [kp1]; done), Lib.hid LQ.out, BX.out.step (by (repeat (with_reducible first | exact Below.refl _ _ | (refine bl_set ?_ (by first | omega | (simp; done) | (simp; omega)) _) | refine bl_gr ?_ _ | refine bl_al ?_ _ | refine below_setRow ?_ (by first | omega | (simp; done) | (simp; omega)) _ | refine bl_drewN ?_ _ | refine Below.drew ?_ | (refine bl_tr ?_ (by assumption)))))⟩
      case measure => (first | ((try rw [kp1]); exact meas_c rfl LQ.out) | (clear kp1; have := LQ.out; simp only [intOf]; omega))
    · have q1 : ¬ (q : Int) < (d.ks.length : Int) := by omega
      clear hlt hx
      go_wp2
      go_ret
      exact ⟨rfl, BX.out.2⟩
set_option maxRecDepth 100000 in
set_option maxHeartbeats 8000000 in
theorem used_n (d : StepD) (A1 A2 : Option Addr) (c1 c2 : Nat) (g : Int) (w : World) (hs : RdS w ⟨d, A1, c1, A2, c2⟩) (hks : ∀ k ∈ d.ks, 1 ≤ k ∧ k < g) (hk9 : ¬ d.k = 9) (h0 : 0 ≤ d.f) (h1 : d.f < g) :
    Calls Tryd.prog 19 #[stepW d A1 c1 A2 c2, .int .i64 g] w fun e w' => e = .returned (.bool true) ∧ Below w.heap.size w w' := by
  have o9 : (d.k == 9) = false := beq_eq_false_iff_ne.2 hk9
  have HS := Lib.hid hs.2
  have HK := Lib.hid hks
  have HL := Lib.hid (show d.ks.length ≤ 9223372036854775807 from by have hm := hs.2.1; unfold maxLen at hm; omega)
  have T0 := Lib.hid (OneB.start w (stepO ⟨d, A1, c1, A2, c2⟩))
  clear hs hks hk9
  go_enter Tryd.func19, Tryd.ntmps19
  go_wp2
  go_loopw [10] (fun i X => ∃ (q : Nat), i = .int .i64 q ∧ Hid (q ≤ d.ks.length) ∧ OneB w X (stepO ⟨d, A1, c1, A2, c2⟩)) (fun i _ => d.ks.length - (intOf i).toNat)
  case atStart => exact ⟨0, rfl, Lib.hid (Nat.zero_le _), T0.out⟩
  case round =>
    clear T0
    obtain ⟨q, rfl, HQ, hx⟩ := hrel
    have BX := Lib.hid hx
    obtain ⟨⟨a0, a1, a2, a3, a4, a5, a6, a7, a8, a9, a10⟩, _⟩ := cells11p hx.1
    have l0 := hx.lt
    by_cases hlt : q < d.ks.length
    · have q1 : (q : Int) < (d.ks.length : Int) := by omega
      have q3 : ¬ (q : Int) < 0 := by omega
      obtain ⟨k, hd⟩ : ∃ k, d.ks[q]? = some k := ⟨_, List.getElem?_eq_getElem hlt⟩
      obtain ⟨b, off, rfl, lb, u0⟩ := ints_at (HS.out.below hx.2) hd
      obtain ⟨k1, k2⟩ := HK.out k (List.mem_of_getElem? hd)
      have k3 : ¬ k < 1 := by omega
      have k4 : ¬ g ≤ k := by omega
      have kp1 : wrap64 ((q : Int) + 1) = ((q + 1 : Nat) : Int) := w64c (by omega) (by have := HL.out; omega)
      have LQ := Lib.hid hlt
      clear hlt hd hx
      go_wp2
      go_roundw
      case rel => exact ⟨q + 1, by first | with_reducible rfl | (rw [kp1]; done), Lib.hid LQ.out, BX.out.step (by (repeat (with_reducible first | exact Below.refl _ _ | (refine bl_set ?_ (by first | omega | (simp; done) | (simp; omega)) _) | refine bl_gr ?_ _ | refine bl_al ?_ _ | refine below_setRow ?_ (by first | omega | (simp; done) | (simp; omega)) _ | refine bl_drewN ?_ _ | refine Below.drew ?_ | (refine bl_tr ?_ (by assumption)))))⟩
      case measure => (first | ((try rw [kp1]); exact meas_c rfl LQ.out) | (clear kp1; have := LQ.out; simp only [intOf]; omega))
    · have q1 : ¬ (q : Int) < (d.ks.length : Int) := by omega
      clear hlt hx
      go_wp2
      go_ret
      exact ⟨rfl, BX.out.2⟩
set_option maxRecDepth 100000 in
set_option maxHeartbeats 8000000 in
theorem made_2 (d : StepD) (A1 A2 : Option Addr) (c1 c2 : Nat) (w : World) (hk : d.k = 2) :
    Calls Tryd.prog 20 #[stepW d A1 c1 A2 c2] w fun e w' => e = .returned (.int .i64 d.r) ∧ Below w.heap.size w w' := by
  have o2 : (d.k == 2) = true := by rw [hk]; decide
  have o3 : (d.k == 3) = false := by rw [hk]; decide
  have o4 : (d.k == 4) = false := by rw [hk]; decide
  have o5 : (d.k == 5) = false := by rw [hk]; decide
  have o7 : (d.k == 7) = false := by rw [hk]; decide
  have o11 : (d.k == 11) = false := by rw [hk]; decide
  clear hk
  go_enter Tryd.func20, Tryd.ntmps20
  go_wp2
  go_ret
  exact ⟨rfl, by (repeat (with_reducible first | exact Below.refl _ _ | (refine bl_set ?_ (by first | omega | (simp; done) | (simp; omega)) _) | refine bl_gr ?_ _ | refine bl_al ?_ _ | refine below_setRow ?_ (by first | omega | (simp; done) | (simp; omega)) _ | refine bl_drewN ?_ _ | refine Below.drew ?_ | (refine bl_tr ?_ (by assumption))))⟩
set_option maxRecDepth 100000 in
set_option maxHeartbeats 8000000 in
theorem made_3 (d : StepD) (A1 A2 : Option Addr) (c1 c2 : Nat) (w : World) (hk : d.k = 3) :
    Calls Tryd.prog 20 #[stepW d A1 c1 A2 c2] w fun e w' => e = .returned (.int .i64 d.r) ∧ Below w.heap.size w w' := by
  have o2 : (d.k == 2) = false := by rw [hk]; decide
  have o3 : (d.k == 3) = true := by rw [hk]; decide
  have o4 : (d.k == 4) = false := by rw [hk]; decide
  have o5 : (d.k == 5) = false := by rw [hk]; decide
  have o7 : (d.k == 7) = false := by rw [hk]; decide
  have o11 : (d.k == 11) = false := by rw [hk]; decide
  clear hk
  go_enter Tryd.func20, Tryd.ntmps20
  go_wp2
  go_ret
  exact ⟨rfl, by (repeat (with_reducible first | exact Below.refl _ _ | (refine bl_set ?_ (by first | omega | (simp; done) | (simp; omega)) _) | refine bl_gr ?_ _ | refine bl_al ?_ _ | refine below_setRow ?_ (by first | omega | (simp; done) | (simp; omega)) _ | refine bl_drewN ?_ _ | refine Below.drew ?_ | (refine bl_tr ?_ (by assumption))))⟩
set_option maxRecDepth 100000 in
set_option maxHeartbeats 8000000 in
theorem made_4 (d : StepD) (A1 A2 : Option Addr) (c1 c2 : Nat) (w : World) (hk : d.k = 4) :
    Calls Tryd.prog 20 #[stepW d A1 c1 A2 c2] w fun e w' => e = .returned (.int .i64 d.r) ∧ Below w.heap.size w w' := by
  have o2 : (d.k == 2) = false := by rw [hk]; decide
  have o3 : (d.k == 3) = false := by rw [hk]; decide
  have o4 : (d.k == 4) = true := by rw [hk]; decide
  have o5 : (d.k == 5) = false := by rw [hk]; decide
  have o7 : (d.k == 7) = false := by rw [hk]; decide
  have o11 : (d.k == 11) = false := by rw [hk]; decide
  clear hk
  go_enter Tryd.func20, Tryd.ntmps20
  go_wp2
  go_ret
  exact ⟨rfl, by (repeat (with_reducible first | exact Below.refl _ _ | (refine bl_set ?_ (by first | omega | (simp; done) | (simp; omega)) _) | refine bl_gr ?_ _ | refine bl_al ?_ _ | refine below_setRow ?_ (by first | omega | (simp; done) | (simp; omega)) _ | refine bl_drewN ?_ _ | refine Below.drew ?_ | (refine bl_tr ?_ (by assumption))))⟩
set_option maxRecDepth 100000 in
set_option maxHeartbeats 8000000 in
theorem made_5 (d : StepD) (A1 A2 : Option Addr) (c1 c2 : Nat) (w : World) (hk : d.k = 5) :
    Calls Tryd.prog 20 #[stepW d A1 c1 A2 c2] w fun e w' => e = .returned (.int .i64 d.r) ∧ Below w.heap.size w w' := by
  have o2 : (d.k == 2) = false := by rw [hk]; decide
  have o3 : (d.k == 3) = false := by rw [hk]; decide
  have o4 : (d.k == 4) = false := by rw [hk]; decide
  have o5 : (d.k == 5) = true := by rw [hk]; decide
  have o7 : (d.k == 7) = false := by rw [hk]; decide
  have o11 : (d.k == 11) = false := by rw [hk]; decide
  clear hk
  go_enter Tryd.func20, Tryd.ntmps20
  go_wp2
  go_ret
  exact ⟨rfl, by (repeat (with_reducible first | exact Below.refl _ _ | (refine bl_set ?_ (by first | omega | (simp; done) | (simp; omega)) _) | refine bl_gr ?_ _ | refine bl_al ?_ _ | refine below_setRow ?_ (by first | omega | (simp; done) | (simp; omega)) _ | refine bl_drewN ?_ _ | refine Below.drew ?_ | (refine bl_tr ?_ (by assumption))))⟩
set_option maxRecDepth 100000 in
set_option maxHeartbeats 8000000 in
theorem made_7 (d : StepD) (A1 A2 : Option Addr) (c1 c2 : Nat) (w : World) (hk : d.k = 7) :
    Calls Tryd.prog 20 #[stepW d A1 c1 A2 c2] w fun e w' => e = .returned (.int .i64 d.r) ∧ Below w.heap.size w w' := by
  have o2 : (d.k == 2) = false := by rw [hk]; decide
  have o3 : (d.k == 3) = false := by rw [hk]; decide
  have o4 : (d.k == 4) = false := by rw [hk]; decide
  have o5 : (d.k == 5) = false := by rw [hk]; decide
  have o7 : (d.k == 7) = true := by rw [hk]; decide
  have o11 : (d.k == 11) = false := by rw [hk]; decide
  clear hk
  go_enter Tryd.func20, Tryd.ntmps20
  go_wp2
  go_ret
  exact ⟨rfl, by (repeat (with_reducible first | exact Below.refl _ _ | (refine bl_set ?_ (by first | omega | (simp; done) | (simp; omega)) _) | refine bl_gr ?_ _ | refine bl_al ?_ _ | refine below_setRow ?_ (by first | omega | (simp; done) | (simp; omega)) _ | refine bl_drewN ?_ _ | refine Below.drew ?_ | (refine bl_tr ?_ (by assumption))))⟩
set_option maxRecDepth 100000 in
set_option maxHeartbeats 8000000 in
theorem made_11 (d : StepD) (A1 A2 : Option Addr) (c1 c2 : Nat) (w : World) (hk : d.k = 11) :
    Calls Tryd.prog 20 #[stepW d A1 c1 A2 c2] w fun e w' => e = .returned (.int .i64 d.r) ∧ Below w.heap.size w w' := by
  have o2 : (d.k == 2) = false := by rw [hk]; decide
  have o3 : (d.k == 3) = false := by rw [hk]; decide
  have o4 : (d.k == 4) = false := by rw [hk]; decide
  have o5 : (d.k == 5) = false := by rw [hk]; decide
  have o7 : (d.k == 7) = false := by rw [hk]; decide
  have o11 : (d.k == 11) = true := by rw [hk]; decide
  clear hk
  go_enter Tryd.func20, Tryd.ntmps20
  go_wp2
  go_ret
  exact ⟨rfl, by (repeat (with_reducible first | exact Below.refl _ _ | (refine bl_set ?_ (by first | omega | (simp; done) | (simp; omega)) _) | refine bl_gr ?_ _ | refine bl_al ?_ _ | refine below_setRow ?_ (by first | omega | (simp; done) | (simp; omega)) _ | refine bl_drewN ?_ _ | refine Below.drew ?_ | (refine bl_tr ?_ (by assumption))))⟩
set_option maxRecDepth 100000 in
set_option maxHeartbeats 8000000 in
theorem made_no (d : StepD) (A1 A2 : Option Addr) (c1 c2 : Nat) (w : World) (h2 : ¬ d.k = 2) (h3 : ¬ d.k = 3) (h4 : ¬ d.k = 4) (h5 : ¬ d.k = 5) (h7 : ¬ d.k = 7) (h11 : ¬ d.k = 11) :
    Calls Tryd.prog 20 #[stepW d A1 c1 A2 c2] w fun e w' => e = .returned (.int .i64 (-1)) ∧ Below w.heap.size w w' := by
  have o2 : (d.k == 2) = false := beq_eq_false_iff_ne.2 h2
  have o3 : (d.k == 3) = false := beq_eq_false_iff_ne.2 h3
  have o4 : (d.k == 4) = false := beq_eq_false_iff_ne.2 h4
  have o5 : (d.k == 5) = false := beq_eq_false_iff_ne.2 h5
  have o7 : (d.k == 7) = false := beq_eq_false_iff_ne.2 h7
  have o11 : (d.k == 11) = false := beq_eq_false_iff_ne.2 h11
  clear h2 h3 h4 h5 h7 h11
  go_enter Tryd.func20, Tryd.ntmps20
  go_wp2
  go_ret
  exact ⟨rfl, by (repeat (with_reducible first | exact Below.refl _ _ | (refine bl_set ?_ (by first | omega | (simp; done) | (simp; omega)) _) | refine bl_gr ?_ _ | refine bl_al ?_ _ | refine below_setRow ?_ (by first | omega | (simp; done) | (simp; omega)) _ | refine bl_drewN ?_ _ | refine Below.drew ?_ | (refine bl_tr ?_ (by assumption))))⟩
end Go.Proofs.YtiagegecnopfgaaDoor
