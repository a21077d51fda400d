/- The reference's Size, walked. -/
import Derived.Test.YtiagegecnopfgaaDoorPaR
namespace Go.Proofs.YtiagegecnopfgaaDoor
set_option linter.all false
open Go.ChangeShapes Go.WideShapes Go.ChangeAt Go.RowKit Go.Sort Go.Deep

theorem sizeK_take {l : List Tree} {q : Nat} {d : Tree} (h : l[q]? = some d) : sizeK (l.take (q + 1)) = sizeK (l.take q) + sizeT d := by
  induction l generalizing q with
  | nil => simp at h
  | cons a l ih =>
    cases q with
    | zero =>
      simp at h
      subst h
      simp [sizeK]
    | succ q =>
      simp at h
      rw [List.take_succ_cons, List.take_succ_cons, sizeK, sizeK, ih h]
      omega
theorem sizeK_take_le (l : List Tree) (q : Nat) : sizeK (l.take q) ≤ sizeK l := by
  induction l generalizing q with
  | nil => simp
  | cons a l ih =>
    cases q with
    | zero => simp [sizeK]
    | succ q =>
      rw [List.take_succ_cons, sizeK, sizeK]
      have := ih q
      omega
def SizeC (m : Nat) : Prop := ∀ (P : Nat → Prop) (t : Tree) (A : Option Addr) (c : Nat) (w : World), IsNd P w (.slice A t.kids.length c) t.kids →
  Calls Tryd.prog 7 #[nodeV t (.slice A t.kids.length c), .int .i64 (m : Int)] w fun e w' => e = .returned (.int .i64 ((min (sizeT t) m : Nat) : Int)) ∧ Below w.heap.size w w'
set_option maxRecDepth 100000 in
set_option maxHeartbeats 4000000 in
theorem size_step {m : Nat} (hm : 1 ≤ m ∧ m ≤ 5000) (IH : ∀ m', 1 ≤ m' → m' < m → SizeC m') : SizeC m := by
  intro P t A c w h
  have H := Lib.hid h
  have M := Lib.hid hm
  have T0 := Lib.hid (OneB.start w (nodeO t (.slice A t.kids.length c)))
  have ST := Lib.hid (sizeT_eq t)
  clear h hm
  go_enter Tryd.func7, Tryd.ntmps7
  go_wp2
  go_loopw [5, 6] (fun s i X => ∃ (q : Nat) (z : Nat), i = .int .i64 q ∧ s = .int .i64 z ∧ Hid (q ≤ t.kids.length ∧ z = min (1 + sizeK (t.kids.take q)) m) ∧ OneB w X (nodeO t (.slice A t.kids.length c))) (fun _ i _ => t.kids.length - (intOf i).toNat)
  case atStart => exact ⟨0, 1, rfl, rfl, Lib.hid ⟨Nat.zero_le _, by rw [List.take_zero, sizeK]; have := M.out; omega⟩, T0.out⟩
  case round =>
    clear T0
    obtain ⟨q, z, rfl, rfl, HQ, hx⟩ := hrel
    have BX := Lib.hid hx
    obtain ⟨⟨a0, a1, a2, a3, a4, a5⟩, _⟩ := cells6n hx.1
    have l0 := hx.lt
    by_cases hlt : q < t.kids.length
    · have q1 : (q : Int) < (t.kids.length : Int) := by omega
      have q3 : ¬ (q : Int) < 0 := by omega
      by_cases hz : z < m
      · have z1 : (z : Int) < (m : Int) := by omega
        obtain ⟨d, hd⟩ : ∃ d, t.kids[q]? = some d := ⟨_, List.getElem?_eq_getElem hlt⟩
        obtain ⟨b, off, cap, A5, c5, e1, lb, hp, hk, f0, f1, f2, f3, f4, f5⟩ := (H.out.bel hx.2).at_ hd
        simp only [Value.slice.injEq] at e1
        obtain ⟨rfl, _, rfl⟩ := e1
        have z0 : 1 ≤ z := by have := HQ.out.2; have := M.out.1; omega
        have M2 := M.out
        have Q2 := HQ.out.2
        have L2 : q < 5000 := by
          have h1 := sizeK_len (t.kids.take q)
          rw [List.length_take] at h1
          omega
        obtain ⟨mk, hmk⟩ : ∃ mk : Nat, mk = m - z := ⟨_, rfl⟩
        have S1 := Lib.hid (fun W (hW : Below wr.heap.size wr W) => IH mk (by omega) (by omega) P d A5 c5 W (hk.bel hW))
        obtain ⟨zp, hzp⟩ : ∃ zp : Nat, zp = z + min (sizeT d) mk := ⟨_, rfl⟩
        have NX := Lib.hid (show zp = min (1 + sizeK (t.kids.take (q + 1))) m by rw [sizeK_take hd, hzp, hmk]; omega)
        generalize min (sizeT d) mk = ms at *
        have hz2 : zp ≤ m := by rw [NX.out]; exact Nat.min_le_right _ _
        obtain ⟨kp, hkp⟩ : ∃ kp : Nat, kp = q + 1 := ⟨_, rfl⟩
        have f2 : (m : Int) - (z : Int) = (mk : Int) := by omega
        have f3 : (z : Int) + (ms : Int) = (zp : Int) := by omega
        have f1 : (q : Int) + 1 = (kp : Int) := by omega
        have g2 : mk < 9223372036854775808 := by omega
        have g3 : zp < 9223372036854775808 := by omega
        have g1 : kp < 9223372036854775808 := by omega
        have ek2 := w64c f2 g2
        have ek3 := w64c f3 g3
        have ek1 := w64c f1 g1
        have KP := Lib.hid hkp
        have LQ := Lib.hid hlt
        clear hkp hlt hd hx hz z0 hmk hzp hk hp f1 f2 f3 g1 g2 g3 hz2 M2 Q2 L2
        go_wp2_with (go_at_call 7; refine (callGr (S1.out _ (by (repeat (with_reducible first | exact Below.refl _ _ | (refine bl_set ?_ (by first | omega | (simp; done) | (simp; omega)) _) | refine bl_gr ?_ _ | refine bl_al ?_ _ | refine below_setRow ?_ (by first | omega | (simp; done) | (simp; omega)) _ | refine bl_drewN ?_ _ | refine Below.drew ?_ | (refine bl_tr ?_ (by assumption))))))).mono ?_; rintro e w' ⟨pp, rfl, rfl⟩)
        go_roundw
        case rel => exact ⟨kp, zp, by first | with_reducible rfl | (rw [ek1]; done), by first | with_reducible rfl | (rw [ek3]; done), Lib.hid ⟨by rw [KP.out]; exact LQ.out, by rw [KP.out]; exact NX.out⟩, BX.out.step (by (repeat (with_reducible first | exact Below.refl _ _ | (refine bl_set ?_ (by first | omega | (simp; done) | (simp; omega)) _) | refine bl_gr ?_ _ | refine bl_al ?_ _ | refine below_setRow ?_ (by first | omega | (simp; done) | (simp; omega)) _ | refine bl_drewN ?_ _ | refine Below.drew ?_ | (refine bl_tr ?_ (by assumption)))))⟩
        case measure => (first | ((try rw [ek1]); exact meas_c KP.out LQ.out) | (clear ek1 ek2 ek3; have := LQ.out; simp only [intOf]; omega))
      · have z1 : ¬ (z : Int) < (m : Int) := by omega
        have FZ := Lib.hid (show min (sizeT t) m = z by have h1 := HQ.out.2; have h2 := sizeK_take_le t.kids q; have h3 := ST.out; omega)
        clear hlt hx hz
        go_wp2
        go_ret
        exact ⟨by rw [FZ.out]; rfl, BX.out.2⟩
    · have q1 : ¬ (q : Int) < (t.kids.length : Int) := by omega
      have FZ := Lib.hid (show min (sizeT t) m = z by have h1 := HQ.out.2; rw [show q = t.kids.length by have := HQ.out.1; omega, List.take_length] at h1; have h3 := ST.out; omega)
      clear hlt hx
      go_wp2
      go_ret
      exact ⟨by rw [FZ.out]; rfl, BX.out.2⟩
theorem size_any : ∀ m, 1 ≤ m → m ≤ 5000 → SizeC m := by
  intro m
  induction m using Nat.strongRecOn with
  | ind m IH => exact fun h1 h2 => size_step ⟨h1, h2⟩ fun m' h3 h4 => IH m' h4 h3 (by omega)
end Go.Proofs.YtiagegecnopfgaaDoor
