/- The reference's Steps, walked. -/
import Derived.Test.YtiagegecnopfgaaDoorPcG
import Derived.Test.YtiagegecnopfgaaDoorPcH
namespace Go.Proofs.YtiagegecnopfgaaDoor
set_option linter.all false
open Go.ChangeShapes Go.WideShapes Go.ChangeAt Go.RowKit Go.Sort Go.Deep

theorem apR_all : ∀ N, N ≤ 100001 → ApRC N
  | 0, _ => fun _ _ _ _ _ _ _ _ _ _ _ _ h => by omega
  | N + 1, h => apartR_step (by omega) (apR_all N (by omega)) (objectR_step (by omega) (apR_all N (by omega))) (arrayR_step (by omega) (apR_all N (by omega)))
theorem Rel.nilBel {X Y : World} {v : Value} (h : Rel (.slice none 0 0) X Y v) : Below X.heap.size X Y := h.1.below (Nat.le_refl _) fun k hk => by simp [Value.ownBlock] at hk
/-- what the reference's Steps answers, and where it lies -/
def RetRS (E : Nat → Prop) (lo : Nat) (X : World) (t : Tree) (e : Ending) (Y : World) : Prop := ∃ (B : Option Addr) (n c : Nat) (rs : List StepR), e = .returned (.tuple #[.slice B n c, .int .i64 (stepsT t).2.1, .int .i64 (stepsT t).2.2]) ∧ RowR E lo (.slice B n c) n rs Y ∧ rs.map (·.d) = (stepsT t).1 ∧ Below X.heap.size X Y ∧ ∀ g, (Value.slice B n c).ownBlock = some g → X.heap.size ≤ g
set_option maxRecDepth 100000 in
set_option maxHeartbeats 8000000 in
theorem rsteps_any (E : Nat → Prop) (lo : Nat) (t : Tree) (A : Option Addr) (c : Nat) (X : World) (ht : sizeT t ≤ 100000) (hE : ∀ b, E b → b < X.heap.size) (hl : lo ≤ X.heap.size) (hT : IsNd (fun b => b < lo) X (.slice A t.kids.length c) t.kids) (hO : OkK [t]) :
    Calls Tryd.prog 11 #[nodeV t (.slice A t.kids.length c)] X (RetRS E lo X t) := by
  have DP := Lib.hid (fun V (hV : Below X.heap.size X V) => deepR_any (fun b => b < lo) t A c V ht (hT.bel hV))
  have IC := Lib.hid (show ∀ V, Below X.heap.size X V → Calls Tryd.prog 25 #[.slice none 0 0, .int .i64 1, .int .i64 0, nodeV t (.slice A t.kids.length c)] V (RetRf E lo (.slice none 0 0) V (apT t 0 mk0)) from fun V hV => apR_all 100001 (by omega) E lo none 0 0 [] t A c 1 0 V (by omega) ⟨Nat.le_trans hl hV.size, fun b e => Nat.lt_of_lt_of_le (hE b e) hV.size, RowR.nil⟩ (hT.bel hV) hO (ap_bd t ht))
  have T0 := Lib.hid (OneB.start X (nodeO t (.slice A t.kids.length c)))
  by_cases hd : 200 < deepT t
  · have q1 : 200 < deepT t := hd
    have RX := Lib.hid (show stepsT t = ([], 0, 10) by unfold stepsT; rw [if_pos hd])
    clear hT hO ht hd hE hl IC T0
    go_enter Tryd.func11, Tryd.ntmps11
    go_wp2_with (go_at_call 15; refine (callGr (DP.out _ (by (repeat (with_reducible first | exact Below.refl _ _ | (refine bl_set ?_ (by first | omega | (simp; done) | (simp; omega)) _) | refine bl_gr ?_ _ | refine bl_al ?_ _ | refine below_setRow ?_ (by first | omega | (simp; done) | (simp; omega)) _ | refine bl_drewN ?_ _ | refine Below.drew ?_ | (refine bl_tr ?_ (by assumption))))))).mono ?_; rintro e w' ⟨pp, rfl, rfl⟩)
    go_ret3
    unfold RetRS
    rw [RX.out]
    exact ⟨none, 0, 0, [], rfl, RowR.nil, rfl, by (repeat (with_reducible first | exact Below.refl _ _ | (refine bl_set ?_ (by first | omega | (simp; done) | (simp; omega)) _) | refine bl_gr ?_ _ | refine bl_al ?_ _ | refine below_setRow ?_ (by first | omega | (simp; done) | (simp; omega)) _ | refine bl_drewN ?_ _ | refine Below.drew ?_ | (refine bl_tr ?_ (by assumption)))), fun g hg => by simp [Value.ownBlock] at hg⟩
  have q1 : ¬ 200 < deepT t := hd
  have RX := Lib.hid (show stepsT t = if (apT t 0 mk0).b then ([], 0, 24) else ((apT t 0 mk0).l, (apT t 0 mk0).g, 0) by unfold stepsT; rw [if_neg hd])
  obtain ⟨y, hy⟩ : ∃ y, y = apT t 0 mk0 := ⟨_, rfl⟩
  rw [← hy] at RX IC
  clear hT hO ht hd hE hl hy
  cases hyb : y.b with
  | true =>
    have HY := Lib.hid hyb
    have RX2 := Lib.hid (show stepsT t = ([], 0, 24) by rw [RX.out, hyb]; rfl)
    clear hyb RX
    go_enter Tryd.func11, Tryd.ntmps11
    go_upto_region 3 with (go_at_call 15; refine (callGr (DP.out _ (by (repeat (with_reducible first | exact Below.refl _ _ | (refine bl_set ?_ (by first | omega | (simp; done) | (simp; omega)) _) | refine bl_gr ?_ _ | refine bl_al ?_ _ | refine below_setRow ?_ (by first | omega | (simp; done) | (simp; omega)) _ | refine bl_drewN ?_ _ | refine Below.drew ?_ | (refine bl_tr ?_ (by assumption))))))).mono ?_; rintro e w' ⟨pp, rfl, rfl⟩)
    refine wpd_world (fun Z => OneB X Z (nodeO t (.slice A t.kids.length c))) (T0.out.step (by (repeat (with_reducible first | exact Below.refl _ _ | (refine bl_set ?_ (by first | omega | (simp; done) | (simp; omega)) _) | refine bl_gr ?_ _ | refine bl_al ?_ _ | refine below_setRow ?_ (by first | omega | (simp; done) | (simp; omega)) _ | refine bl_drewN ?_ _ | refine Below.drew ?_ | (refine bl_tr ?_ (by assumption)))))) ?_
    intro Z hZ
    have BZ := Lib.hid hZ.2
    obtain ⟨⟨a0, a1, a2, a3, a4, a5⟩, _⟩ := cells6n hZ.1
    have l0 := hZ.lt
    clear hZ T0
    go_wp2_with (go_at_call 25; go_loud (refine ((IC.out _ BZ.out).mono fun e Y h => h.bad HY.out).mono ?_; rintro e Y ⟨rfl, r8⟩; have H8 := Lib.hid (bl_tr BZ.out r8.nilBel); clear r8))
    go_ret3
    unfold RetRS
    rw [RX2.out]
    exact ⟨none, 0, 0, [], rfl, RowR.nil, rfl, H8.out, fun g hg => by simp [Value.ownBlock] at hg⟩
  | false =>
    have HY := Lib.hid hyb
    have RX2 := Lib.hid (show stepsT t = (y.l, y.g, 0) by rw [RX.out, hyb]; rfl)
    clear hyb RX
    go_enter Tryd.func11, Tryd.ntmps11
    go_upto_region 3 with (go_at_call 15; refine (callGr (DP.out _ (by (repeat (with_reducible first | exact Below.refl _ _ | (refine bl_set ?_ (by first | omega | (simp; done) | (simp; omega)) _) | refine bl_gr ?_ _ | refine bl_al ?_ _ | refine below_setRow ?_ (by first | omega | (simp; done) | (simp; omega)) _ | refine bl_drewN ?_ _ | refine Below.drew ?_ | (refine bl_tr ?_ (by assumption))))))).mono ?_; rintro e w' ⟨pp, rfl, rfl⟩)
    refine wpd_world (fun Z => OneB X Z (nodeO t (.slice A t.kids.length c))) (T0.out.step (by (repeat (with_reducible first | exact Below.refl _ _ | (refine bl_set ?_ (by first | omega | (simp; done) | (simp; omega)) _) | refine bl_gr ?_ _ | refine bl_al ?_ _ | refine below_setRow ?_ (by first | omega | (simp; done) | (simp; omega)) _ | refine bl_drewN ?_ _ | refine Below.drew ?_ | (refine bl_tr ?_ (by assumption)))))) ?_
    intro Z hZ
    have BZ := Lib.hid hZ.2
    obtain ⟨⟨a0, a1, a2, a3, a4, a5⟩, _⟩ := cells6n hZ.1
    have l0 := hZ.lt
    clear hZ T0
    go_wp2_with (go_at_call 25; go_loud (refine ((IC.out _ BZ.out).mono fun e Y h => h.good HY.out).mono ?_; rintro e Y ⟨B8, n8, c8, rs8, rfl, h8, m8, r8⟩; have H8 := Lib.hid (And.intro h8 (And.intro m8 (And.intro (bl_tr BZ.out r8.nilBel) (fun g (hg : (Value.slice B8 n8 c8).ownBlock = some g) => (r8.2 g hg).elim (fun e => by simp [Value.ownBlock] at e) fun e => Nat.le_trans BZ.out.size e)))); clear h8 m8 r8))
    go_ret3
    unfold RetRS
    rw [RX2.out]
    exact ⟨B8, n8, c8, rs8, rfl, H8.out.1, H8.out.2.1, H8.out.2.2.1, H8.out.2.2.2⟩
end Go.Proofs.YtiagegecnopfgaaDoor
