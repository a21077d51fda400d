/- The closure of the maker's array, walked. -/
import Derived.Test.YtiagegecnopfgaaDoorPaO
namespace Go.Proofs.YtiagegecnopfgaaDoor
set_option linter.all false
open Go.ChangeShapes Go.WideShapes Go.ChangeAt Go.RowKit Go.Sort Go.Deep
variable {E : Nat → Prop}

abbrev ptrO (B : Nat) : Obj := .cells #[.pointer (some ⟨B, 0, none⟩)] 48
abbrev intO (n : Int) : Obj := .cells #[.int .i64 n] 3
theorem cell1b {w : World} {b : Nat} {v : Value} {T : TypeId} (h : w.heap[b]? = some (.cells #[v] T)) : w.cell? ⟨b, 0, none⟩ = some v ∧ ∀ j, w.frozen? ⟨b, j, none⟩ = false := by
  refine ⟨?_, fun j => frozen_of_row w b j _ _ h⟩
  rw [cell_of_row w b _ _ _ _ h]
  rfl
/-- what is left of the bounds, ahead of one more step and register -/
def Be (y : Mk) (n : Nat) : Prop := 0 ≤ y.g ∧ y.g + 2 * n ≤ 500000 ∧ y.l.length + 4 * n ≤ 500000
set_option maxRecDepth 100000 in
set_option maxHeartbeats 8000000 in
theorem one_any {N : Nat} (IH : ApC N) (lo B : Nat) (x : Mk) (t : Tree) (A : Option Addr) (c : Nat) (k it : Int) (bm bi : Nat) (X : World) (ht : sizeT t < N) (h : ApS E lo B x X) (hT : IsNd (fun b => b < lo) X (.slice A t.kids.length c) t.kids) (hO : OkK [t]) (hB : 0 ≤ x.g ∧ x.g + 1 + 2 * (sizeT t : Nat) ≤ 500000 ∧ x.l.length + 1 + 4 * sizeT t ≤ 500000)
    (hm : Bx B X bm (ptrO B)) (hi : Bx B X bi (intO it)) :
    Calls Tryd.prog 39 #[.int .i64 k, nodeV t (.slice A t.kids.length c), .pointer (some ⟨bm, 0, none⟩), .pointer (some ⟨bi, 0, none⟩)] X (RetA E lo B X (apT t x.g (x.next.lay ⟨k, x.g, it, bs0, Tree.z, []⟩))) := by
  have HS := Lib.hid h
  have lB := h.st.lt
  have BM := Lib.hid hm
  have BI := Lib.hid hi
  have BT := Lib.hid (Bx.new (nodeO t (.slice A t.kids.length c)) h.st.rowT)
  have HT := Lib.hid hT
  obtain ⟨m0, mf⟩ := cell1b hm.1
  have lm := hm.lt
  have BG := Lib.hid (show 0 ≤ x.g ∧ x.g ≤ 1000000 by omega)
  have LX := Lib.hid (show x.next.l.length ≤ 1000000 by rw [next_len]; omega)
  have IC := Lib.hid (fun V (hS : ApS E lo B (x.next.lay ⟨k, x.g, it, bs0, Tree.z, []⟩) V) (hV : IsNd (fun b => b < lo) V (.slice A t.kids.length c) t.kids) => IH E lo B (x.next.lay ⟨k, x.g, it, bs0, Tree.z, []⟩) t A c x.g V ht hS hV hO (by have := hB; unfold Bd; rw [lay_g, next_g, lay_len, next_len]; omega))
  have LB := Lib.hid lB
  clear h hT hO hB ht hm hi lB
  go_enter Tryd.func39, Tryd.ntmps39
  go_wp2_with (first
    | (go_at_call 37; go_loud (refine (fresh_any lo B x _ (HS.out.below (show Below X.heap.size X _ by (repeat (with_reducible first | exact Below.refl _ _ | (refine bl_set ?_ (by first | omega | (simp; done) | (simp; omega)) _) | refine bl_gr ?_ _ | refine bl_al ?_ _ | refine below_setRow ?_ (by first | omega | (simp; done) | (simp; omega)) _ | refine bl_drewN ?_ _ | refine Below.drew ?_ | (refine bl_tr ?_ (by assumption)))))).st BG.out).mono ?_; rintro e w1 ⟨rfl, h1, k1⟩; have K1 := Lib.hid ((KpM.of_below (show Below X.heap.size X _ by (repeat (with_reducible first | exact Below.refl _ _ | (refine bl_set ?_ (by first | omega | (simp; done) | (simp; omega)) _) | refine bl_gr ?_ _ | refine bl_al ?_ _ | refine below_setRow ?_ (by first | omega | (simp; done) | (simp; omega)) _ | refine bl_drewN ?_ _ | refine Below.drew ?_ | (refine bl_tr ?_ (by assumption))))) LB.out).trans k1); have H1 := Lib.hid (HS.out.kp K1.out h1); have T1 := Lib.hid (BT.out.kp k1); obtain ⟨n0, nf⟩ := cell1b (BM.out.kp K1.out).1; obtain ⟨i0, jf⟩ := cell1b (BI.out.kp K1.out).1; have ln := (BM.out.kp K1.out).lt; have li := (BI.out.kp K1.out).lt; clear h1 k1))
    | (go_at_call 28; go_loud (refine (lay_any lo B x.next (plR k x.g it bs0) w1 H1.out.st plR_holds H1.out.lo LX.out).mono ?_; rintro e w2 ⟨rfl, h2, k2⟩; have K2 := Lib.hid (K1.out.trans k2); have H2 := Lib.hid (HS.out.kp K2.out h2); obtain ⟨p0, pf⟩ := cell1b (BM.out.kp K2.out).1; have lp := (BM.out.kp K2.out).lt; obtain ⟨⟨b0, b1, b2, b3, b4, b5⟩, _⟩ := cells6n (T1.out.kp k2).1; have lt2 := (T1.out.kp k2).lt; clear h2 k2))
    | (go_at_call 24; go_loud (refine (IC.out _ H2.out (nd_lo HT.out K2.out HS.out.st.rowT HS.out.lo)).mono ?_; rintro e w3 ⟨rfl, h3, k3⟩; have H3 := Lib.hid h3; have K3 := Lib.hid (K2.out.trans k3); clear h3 k3)))
  go_end0
  exact ⟨rfl, H3.out, K3.out⟩
end Go.Proofs.YtiagegecnopfgaaDoor
