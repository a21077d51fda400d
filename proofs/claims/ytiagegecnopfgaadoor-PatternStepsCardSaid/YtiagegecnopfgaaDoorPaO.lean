/- The maker's object, walked. -/
import Derived.Test.YtiagegecnopfgaaDoorPaM
import Derived.Test.YtiagegecnopfgaaDoorPaN
namespace Go.Proofs.YtiagegecnopfgaaDoor
set_option linter.all false
open Go.ChangeShapes Go.WideShapes Go.ChangeAt Go.RowKit Go.Sort Go.Deep
variable {E : Nat → Prop}

/-- the loop's state -/
structure ObS (E : Nat → Prop) (lo B : Nat) (X : World) (t : Tree) (K : Value) (y : Mk) (A : Option Addr) (n c : Nat) (ks : List Int) (Z : World) : Prop where
  bp : Bx B Z X.heap.size (nodeO t K)
  ap : ApS (exK E (.slice A n c)) lo B y Z
  kp : KpM lo B X Z
  row : Z.ownsRow X.heap.size 3 1 (.slice A n c) n (flat intCs ks)
  len : n = ks.length
theorem ObS.step {lo B n c : Nat} {X Z W : World} {t : Tree} {K : Value} {y y2 : Mk} {A : Option Addr} {ks : List Int} (h : ObS E lo B X t K y A n c ks Z) (k : KpM lo B Z W) (hm : MkS (exK E (.slice A n c)) lo B y2 W) : ObS E lo B X t K y2 A n c ks W := by
  refine ⟨h.bp.kp k, h.ap.kp k hm, h.kp.trans k, ?_, h.len⟩
  refine ownsRow_touch h.row k.1 fun g hg e => ?_
  obtain ⟨cs, e2⟩ := own_typeN h.row g hg
  have hR := h.ap.st.rowT
  rcases e with e | e
  · obtain ⟨v, g', k', e3⟩ := hR.1
    rw [e, e3] at e2
    simp at e2
  · obtain ⟨_, _, cs', e3⟩ := hR.2.2 g e
    rw [e2] at e3
    simp at e3
theorem ObS.below {lo B n c : Nat} {X Z W : World} {t : Tree} {K : Value} {y : Mk} {A : Option Addr} {ks : List Int} (h : ObS E lo B X t K y A n c ks Z) (hb : Below Z.heap.size Z W) : ObS E lo B X t K y A n c ks W :=
  h.step (KpM.of_below hb h.ap.st.lt) (h.ap.below hb).st
theorem ObS.sl {lo B n c : Nat} {X Z : World} {t : Tree} {K : Value} {y : Mk} {A : Option Addr} {ks : List Int} (h : ObS E lo B X t K y A n c ks Z) : SlOf Z 1 intCs (.slice A n c) ks := by
  have h1 := h.row
  have h2 := h.len
  subst h2
  exact ownsRow_slOf (fun _ => rfl) h1
theorem ks_copy {E2 : Nat → Prop} {lo c m : Nat} {W Y : World} {A : Option Addr} {ks : List Int} (hm : m = ks.length) (o : Y.ownsRow W.heap.size 3 1 (.slice A m c) m (flat intCs ks)) (hl : lo ≤ W.heap.size) (hE : ∀ b, E2 b → b < W.heap.size) : IsKs E2 lo Y (.slice A ks.length c) ks := by
  subst hm
  refine ⟨ownsRow_slOf (fun _ => rfl) o, fun a n k e _ => ?_⟩
  simp only [Value.slice.injEq] at e
  obtain ⟨rfl, _, _⟩ := e
  have h1 := (own_ltN o _ rfl).1
  exact ⟨Nat.le_trans hl h1, fun e => by have := hE _ e; omega, own_typeN o _ rfl⟩
theorem oth_holds {lo n : Nat} {W : World} {A : Option Addr} {ks : List Int} {k r f : Int} (h : IsKs E lo W (.slice A ks.length n) ks) : HoldsS E lo W ⟨⟨k, r, f, bs0, Tree.z, ks⟩, none, 0, A, n⟩ := ⟨(plR_holds (E := E) (k := k) (r := r) (f := f) (s := bs0)).1, h⟩
theorem ObS.app {lo B n c g m k : Nat} {X V Y : World} {t : Tree} {K : Value} {y : Mk} {A : Option Addr} {ks : List Int} {z : Int} (h : ObS E lo B X t K y A n c ks V) (hlo : lo ≤ X.heap.size) (hm : m = n + 1) (o : Y.ownsRow X.heap.size 3 1 (.slice (some ⟨g, 0, none⟩) (n + 1) k) (n + 1) (flat intCs (ks ++ [z])))
    (hg : V.grownBy Y (Value.slice A n c).ownBlock) (hw : (Value.slice A n c).ownBlock = some g ∨ g = V.heap.size) (hl : g < Y.heap.size) : ObS E lo B X t K y (some ⟨g, 0, none⟩) m k (ks ++ [z]) Y := by
  subst hm
  refine ⟨(ks_grown h.row hg h.ap.st.rowT).1 _ _ h.bp (fun b hb e => ?_), h.ap.ints hlo h.row hg hw hl, h.kp.ints h.ap.st.rowT h.row hg (fun b hb => (own_ltN h.row b hb).1), o, by simp [h.len]⟩
  obtain ⟨cs, e2⟩ := own_typeN h.row b hb
  rw [e, h.bp.1] at e2
  simp at e2
/-- what is left of the bounds -/
def Bo (y : Mk) (l : List Tree) : Prop := 0 ≤ y.g ∧ y.g + 2 * (sizeK l : Nat) ≤ 500000 ∧ y.l.length + 4 * sizeK l ≤ 500000
theorem drop_cons {l : List Tree} {q : Nat} {d : Tree} (h : l[q]? = some d) : l.drop q = d :: l.drop (q + 1) := by
  obtain ⟨hlt, e⟩ := List.getElem?_eq_some_iff.1 h
  rw [List.drop_eq_getElem_cons hlt, e]
set_option maxRecDepth 100000 in
set_option maxHeartbeats 16000000 in
theorem object_step {N : Nat} (hN : N ≤ 100000) (IH : ApC N) : ObC (N + 1) := by
  intro E lo B x t A c r X ht h hT hO hB
  have HS := Lib.hid h
  have HT := Lib.hid hT
  have HO := Lib.hid hO
  have lB := h.st.lt
  have sz := sizeT_eq t
  have LX := Lib.hid (show x.l.length ≤ 1000000 by have := hB.2.2; omega)
  have SK := Lib.hid (show sizeK t.kids < N + 1 ∧ t.kids.length ≤ 1000000 by have := sizeK_len t.kids; omega)
  have BD := Lib.hid (show Bo (x.lay ⟨1, 0, r, bs0, Tree.z, []⟩) t.kids by have := hB; unfold Bd at this; unfold Bo; rw [lay_g, lay_len]; omega)
  have OX := Lib.hid (Bx.new (nodeO t (.slice A t.kids.length c)) h.st.rowT)
  clear hB ht sz h hT hO
  obtain ⟨x1, hx1⟩ : ∃ x1, x1 = x.lay ⟨1, 0, r, bs0, Tree.z, []⟩ := ⟨_, rfl⟩
  rw [← hx1] at BD ⊢
  have X1 := Lib.hid hx1
  clear hx1
  obtain ⟨rm, hrm⟩ : ∃ rm, rm = restK t.kids := ⟨_, rfl⟩
  have RM := Lib.hid hrm
  rw [← hrm]
  clear hrm
  go_enter Tryd.func30, Tryd.ntmps30
  go_upto_region 2 with (go_at_call 28; go_loud (refine (lay_any lo B x (plR 1 0 r bs0) _ (HS.out.below (show Below X.heap.size X _ by (repeat (with_reducible first | exact Below.refl _ _ | (refine bl_set ?_ (by first | omega | (simp; done) | (simp; omega)) _) | refine bl_gr ?_ _ | refine bl_al ?_ _ | refine below_setRow ?_ (by first | omega | (simp; done) | (simp; omega)) _ | refine bl_drewN ?_ _ | refine Below.drew ?_ | (refine bl_tr ?_ (by assumption)))))).st plR_holds (Nat.le_trans HS.out.lo (show Below X.heap.size X _ by (repeat (with_reducible first | exact Below.refl _ _ | (refine bl_set ?_ (by first | omega | (simp; done) | (simp; omega)) _) | refine bl_gr ?_ _ | refine bl_al ?_ _ | refine below_setRow ?_ (by first | omega | (simp; done) | (simp; omega)) _ | refine bl_drewN ?_ _ | refine Below.drew ?_ | (refine bl_tr ?_ (by assumption))))).size) LX.out).mono ?_; rintro e w1 ⟨rfl, h1, k1⟩; have K1 := Lib.hid k1; have M1 := Lib.hid h1; clear h1 k1))
  refine wpd_world (fun Z => ObS E lo B X t (.slice A t.kids.length c) x1 none 0 0 [] Z) ?_ ?_
  · have k0 : KpM lo B X (X.alloc (nodeO t (.slice A t.kids.length c))) := KpM.of_below (bl_al (Below.refl _ _) _) lB
    have a0 := HS.out.below (bl_al (Below.refl X.heap.size X) (nodeO t (.slice A t.kids.length c)))
    have a1 : ApS E lo B x1 w1 := by
      have := a0.kp K1.out M1.out
      rw [X1.out]
      exact this
    refine ⟨OX.out.kp K1.out, a1.exch (fun b _ e => ?_) (fun b e => ?_), k0.trans K1.out, ⟨by simp [flat], .inl ⟨rfl, rfl⟩⟩, rfl⟩
    · rcases e with e | e
      · exact e
      · simp [Value.ownBlock] at e
    · rcases e with e | e
      · exact a1.ex b e
      · simp [Value.ownBlock] at e
  intro Z hZ
  have OZ := Lib.hid hZ
  obtain ⟨⟨b0, b1, b2, b3, b4, b5⟩, _⟩ := cells6n hZ.bp.1
  have l0 := hZ.bp.lt
  clear hZ K1 M1 lB
  go_upto_region 3 with fail
  go_simp
  go_cut [7] from 20 to 31 (fun s7 Y9 => s7 = .bool rm ∧ Below Z.heap.size Z Y9)
  case first =>
    by_cases hz : t.kids.length = 0
    · have q0 : ¬ (0 : Int) < (t.kids.length : Int) := by omega
      have e : rm = false := by rw [RM.out, List.eq_nil_of_length_eq_zero hz, restK]
      clear hz
      go_wp2_with fail
      go_meet
      exact ⟨by rw [e], by (repeat (with_reducible first | exact Below.refl _ _ | (refine bl_set ?_ (by first | omega | (simp; done) | (simp; omega)) _) | refine bl_gr ?_ _ | refine bl_al ?_ _ | refine below_setRow ?_ (by first | omega | (simp; done) | (simp; omega)) _ | refine bl_drewN ?_ _ | refine Below.drew ?_ | (refine bl_tr ?_ (by assumption))))⟩
    · have q0 : (0 : Int) < (t.kids.length : Int) := by omega
      obtain ⟨dl, hdl⟩ : ∃ d, t.kids[t.kids.length - 1]? = some d := ⟨_, List.getElem?_eq_getElem (by omega)⟩
      have e : rm = (dl.op == 64) := by rw [RM.out, restK_last _ _ hdl]
      obtain ⟨b, off, cap, A5, c5, f1, lb, hp, hk, u0⟩ := (nd_low HT.out OZ.out.kp.size (OZ.out.kp.below HS.out.st.rowT HS.out.lo).block).at_ hdl
      simp only [Value.slice.injEq] at f1
      obtain ⟨rfl, _, rfl⟩ := f1
      obtain ⟨ln, hln⟩ : ∃ ln, ln = t.kids.length - 1 := ⟨_, rfl⟩
      rw [← hln] at u0
      have ew : wrap64 ((t.kids.length : Int) - 1) = (ln : Int) := w64c (by omega) (by have := SK.out; omega)
      have q1 : (ln : Int) < (t.kids.length : Int) := by clear ew; omega
      have q2 : ¬ (ln : Int) < 0 := by clear ew; omega
      obtain ⟨v0, v1, v2, v3, v4, v5⟩ := u0
      clear hz hdl hp hk hln
      go_wp2_with fail
      go_meet
      exact ⟨by rw [e], by (repeat (with_reducible first | exact Below.refl _ _ | (refine bl_set ?_ (by first | omega | (simp; done) | (simp; omega)) _) | refine bl_gr ?_ _ | refine bl_al ?_ _ | refine below_setRow ?_ (by first | omega | (simp; done) | (simp; omega)) _ | refine bl_drewN ?_ _ | refine Below.drew ?_ | (refine bl_tr ?_ (by assumption))))⟩
  case rest =>
  obtain ⟨rfl, bY⟩ := hcut
  have OC := Lib.hid (OZ.out.below bY)
  clear bY OZ b0 b1 b2 b3 b4 b5 l0
  go_wp2
  go_loopw [8, 33] (fun s i W => ∃ (q : Nat) (ks : List Int) (y : Mk) (Ak : Option Addr) (nk ck : Nat), i = .int .i64 q ∧ s = .slice Ak nk ck ∧ Hid (q ≤ t.kids.length ∧ nk ≤ q ∧ obT rm t.kids r [] x1 = obT rm (t.kids.drop q) r ks y ∧ Bo y (t.kids.drop q)) ∧ ObS E lo B X t (.slice A t.kids.length c) y Ak nk ck ks W) (fun _ i _ => t.kids.length - (intOf i).toNat)
  case atStart => exact ⟨0, [], x1, none, 0, 0, rfl, rfl, Lib.hid ⟨Nat.zero_le _, Nat.le_refl _, by rw [List.drop_zero], by rw [List.drop_zero]; exact BD.out⟩, OC.out⟩
  case round =>
    clear OC
    obtain ⟨q, ks, y, Ak, nk, ck, rfl, rfl, HQ, ho⟩ := hrel
    have OW := Lib.hid ho
    obtain ⟨⟨b0, b1, b2, b3, b4, b5⟩, _⟩ := cells6n ho.bp.1
    have l0 := ho.bp.lt
    by_cases hlt : q < t.kids.length
    · have q1 : (q : Int) < (t.kids.length : Int) := by omega
      have q3 : ¬ (q : Int) < 0 := by omega
      obtain ⟨d, hd⟩ : ∃ d, t.kids[q]? = some d := ⟨_, List.getElem?_eq_getElem hlt⟩
      have hmem := List.mem_of_getElem? hd
      have TL := Lib.hid (fun W (k : KpM lo B X W) => nd_low HT.out k.size (k.below HS.out.st.rowT HS.out.lo).block)
      obtain ⟨b, off, cap, A5, c5, f1, lb, hp, hk, u0⟩ := (TL.out wr ho.kp).at_ hd
      simp only [Value.slice.injEq] at f1
      obtain ⟨rfl, _, rfl⟩ := f1
      have lbn : ∀ u, b < wr.heap.size + u := fun u => Nat.lt_of_lt_of_le lb (Nat.le_add_right _ _)
      have DC := drop_cons hd
      have SD := Lib.hid (show sizeT d ≤ N by have := sizeT_kid hmem; have := sizeT_eq t; have h1 := SK.out.1; have h2 := sizeK_mem hmem; omega)
      have BB := Lib.hid (show 0 ≤ y.g ∧ y.g + 2 * (sizeT d + sizeK (t.kids.drop (q + 1)) : Nat) ≤ 500000 ∧ y.l.length + 4 * (sizeT d + sizeK (t.kids.drop (q + 1))) ≤ 500000 by have h1 := HQ.out.2.2.2; rw [DC] at h1; unfold Bo at h1; rw [sizeK] at h1; exact h1)
      have OT := Lib.hid (show obT rm t.kids r [] x1 = obT rm (d :: t.kids.drop (q + 1)) r ks y by rw [HQ.out.2.2.1, DC])
      have OK := Lib.hid (HO.out.kid hmem)
      have LQ := Lib.hid hlt
      obtain ⟨kp, hkp, ek1⟩ : ∃ kp : Nat, kp = q + 1 ∧ wrap64 ((q : Int) + 1) = (kp : Int) := ⟨q + 1, rfl, w64c rfl (by have := SK.out; omega)⟩
      have KP := Lib.hid hkp
      have UD := Lib.hid (fun W (k : KpM lo B wr W) => (u0.low hp ((k.below ho.ap.st.rowT ho.ap.lo)) : AtN W b (off + q * 6) d (.slice A5 d.kids.length c5)))
      have HD := Lib.hid (fun W (k : KpM lo B X W) => (nd_low hk (Nat.le_refl _) (fun _ _ => rfl) : IsNd (fun b => b < lo) wr (.slice A5 d.kids.length c5) d.kids))
      have HK := Lib.hid hk
      by_cases h64 : d.op = 64
      · have z64 : (d.op == 64) = true := by rw [h64]; rfl
        have RT := Lib.hid (fun W (h : MkS (exK E (.slice Ak nk ck)) lo B y W) (hT : IsNd (fun b => b < lo) W (.slice (some ⟨b, off, none⟩) t.kids.length c) t.kids) => (by have := rest_any lo B y t d (some ⟨b, off, none⟩) c q W h hd SK.out.2 hT; rw [z64] at this; exact this : Calls Tryd.prog 36 #[.pointer (some ⟨B, 0, none⟩), nodeV t (.slice (some ⟨b, off, none⟩) t.kids.length c), .int .i64 (q : Int)] W (RetR (exK E (.slice Ak nk ck)) lo B (restX y t d q) W true)))
        have PE := Lib.hid (obT_rest rm t d q r ks y h64 hd)
        have XG := Lib.hid (restX_g y t d q)
        cases hb : (restX y t d q).b
        · obtain ⟨x1', x2', x3'⟩ := restX_no hb h64
          rw [x1'] at RT PE
          have hyb : y.b = false := by rw [← x1']; exact hb
          have YB := Lib.hid hyb
          obtain ⟨d0, hd0⟩ : ∃ d0, d.kids = [d0] := by
            match hh : d.kids, x3' with
            | [a], _ => exact ⟨a, rfl⟩
          have e0 : d.kids[0]? = some d0 := by rw [hd0]; rfl
          obtain ⟨b2, off2, cap2, A6, c6, f2, lb2, hp2, hk2, u2⟩ := hk.at_ e0
          simp only [Value.slice.injEq] at f2
          obtain ⟨rfl, _, rfl⟩ := f2
          simp only [Nat.zero_mul, Nat.add_zero] at u2
          have qd : (0 : Int) < (d.kids.length : Int) := by clear ek1; omega
          have sd := sizeT_eq d
          rw [hd0, sizeK, sizeK] at sd
          have QL := Lib.hid (And.intro x2' (by clear ek1; omega : sizeT d = 1 + sizeT d0))
          have PF := Lib.hid (show obT rm (d :: t.kids.drop (q + 1)) r ks y = obT rm (t.kids.drop (q + 1)) r ks (apT d0 y.g (y.next.lay ⟨3, y.g, r, bs0, Tree.z, ks⟩)) by rw [PE.out, YB.out, hd0, apA]; rfl)
          have U2 := Lib.hid (fun W (k : KpM lo B wr W) => (u2.low hp2 ((k.below ho.ap.st.rowT ho.ap.lo)) : AtN W b2 off2 d0 (.slice A6 d0.kids.length c6)))
          have H2 := Lib.hid hk2
          have IC := Lib.hid (fun W (hS : ApS (exK E (.slice Ak nk ck)) lo B (y.next.lay ⟨3, y.g, r, bs0, Tree.z, ks⟩) W) (hT : IsNd (fun b => b < lo) W (.slice A6 d0.kids.length c6) d0.kids) => IH (exK E (.slice Ak nk ck)) lo B (y.next.lay ⟨3, y.g, r, bs0, Tree.z, ks⟩) d0 A6 c6 y.g W (by have h1 := QL.out.2; have h2 := SD.out; omega) hS hT (OK.out.kid (by rw [hd0]; simp)) (by have h1 := QL.out.2; have h2 := BB.out; unfold Bd; rw [lay_g, next_g, lay_len, next_len]; omega))
          have AB := Lib.hid (ap_bound d0 y.g (y.next.lay ⟨3, y.g, r, bs0, Tree.z, ks⟩))
          have BG := Lib.hid (show 0 ≤ y.g ∧ y.g ≤ 1000000 by have h2 := BB.out; clear ek1; omega)
          clear hkp hlt hd hk u0 hp ho h64 DC hmem z64 hb x1' x2' x3' hyb e0 hd0 u2 hk2 hp2 sd
          generalize apT d0 y.g (y.next.lay ⟨3, y.g, r, bs0, Tree.z, ks⟩) = y3 at *
          go_wp2_with (first
            | (go_at_call 36; go_loud (refine (RT.out _ OW.out.ap.st (TL.out _ OW.out.kp)).mono ?_; rintro e w2 ⟨rfl, h2, k2⟩; have O2 := Lib.hid (OW.out.step k2 h2); have K2 := Lib.hid k2; obtain ⟨vm, hvm⟩ := O2.out.ap.st.cells; obtain ⟨⟨m0, m1, m2⟩, mf⟩ := cells3m hvm; rw [YB.out] at m2; have l2 := O2.out.ap.st.lt; clear h2 k2 hvm))
            | (go_at_call 37; go_loud (refine (fresh_any lo B y _ O2.out.ap.st BG.out).mono ?_; rintro e w3 ⟨rfl, h3, k3⟩; have O3 := Lib.hid (O2.out.step k3 h3); have K3 := Lib.hid (K2.out.trans k3); clear h3 k3))
            | (at_builtin; go_loud (refine wpList_appG elem_int rfl _ _ rfl w3.heap.size [] ks (yv := .slice none 0 0) (sv := .slice Ak nk ck) rfl rfl own_nilE (Nat.le_refl _) O3.out.sl (fun x _ => one_int x) (by have h1 := O3.out.len; have h2 := HQ.out.2.1; have h3 := HQ.out.1; have h4 := SK.out.2; clear ek1; simp; omega) (by have h1 := O3.out.len; have h2 := HQ.out.2.1; have h3 := HQ.out.1; have h4 := SK.out.2; clear ek1; simp; omega) ?_; intro A9 n9 w9 o9 g9; have B9 := Lib.hid (show Below w3.heap.size w3 w9 from Touch.below (touch_grownE g9) (Nat.le_refl _) (fun k hk => by simp [Value.ownBlock] at hk)); have S9 := Lib.hid (ks_copy (lo := lo) (E2 := exK E (.slice Ak nk ck)) rfl o9 O3.out.ap.lo O3.out.ap.ex); have O9 := Lib.hid (O3.out.below (Touch.below (touch_grownE g9) (Nat.le_refl _) (fun k hk => by simp [Value.ownBlock] at hk))); clear o9 g9))
            | (go_at_call 28; go_loud (refine (lay_any lo B y.next ⟨⟨3, y.g, r, bs0, Tree.z, ks⟩, none, 0, A9, n9⟩ _ O9.out.ap.st (oth_holds S9.out) O9.out.ap.lo (by have h2 := BB.out; rw [next_len]; clear ek1; omega)).mono ?_; rintro e w10 ⟨rfl, h10, k10⟩; have K10 := Lib.hid ((K3.out.trans (KpM.of_below B9.out O3.out.ap.st.lt)).trans k10); have O10 := Lib.hid (O9.out.step k10 h10); obtain ⟨⟨b0, b1, b2, b3, b4, b5⟩, _⟩ := cells6n O10.out.bp.1; have l10 := O10.out.bp.lt; obtain ⟨v0, v1, v2, v3, v4, v5⟩ := UD.out _ K10.out; obtain ⟨u0, u1, u2, u3, u4, u5⟩ := U2.out _ K10.out; clear h10 k10))
            | (go_at_call 24; go_loud (refine (IC.out _ O10.out.ap (nd_lo H2.out K10.out OW.out.ap.st.rowT OW.out.ap.lo)).mono ?_; rintro e w11 ⟨rfl, h11, k11⟩; have O11 := Lib.hid (O10.out.step k11 h11); clear h11 k11)))
          go_roundw
          case rel => exact ⟨kp, ks, y3, Ak, nk, ck, by first | with_reducible rfl | (rw [ek1]; done), rfl, Lib.hid ⟨by rw [KP.out]; exact LQ.out, by have := HQ.out.2.1; have := KP.out; clear ek1; omega, by rw [OT.out, PF.out, KP.out], by have h1 := AB.out; have h2 := BB.out; have h3 := QL.out; unfold AddsT at h1; rw [lay_len, next_len, lay_g, next_g] at h1; unfold Bo; rw [KP.out]; clear ek1; omega⟩, O11.out⟩
          case measure => (first | ((try rw [ek1]); exact meas_c KP.out LQ.out) | (clear ek1; have := LQ.out; simp only [intOf]; omega))
        · clear hkp hlt hd hk u0 hp ho h64 DC hmem z64
          have YB := Lib.hid hb
          have RB := Lib.hid (show Bo (restX y t d q) (t.kids.drop kp) by have h2 := BB.out; unfold Bo; rw [XG.out.1, XG.out.2, KP.out]; clear ek1; omega)
          rw [hb] at PE
          generalize restX y t d q = y1 at *
          go_wp2_with (go_at_call 36; go_loud (refine (RT.out _ OW.out.ap.st (TL.out _ OW.out.kp)).mono ?_; rintro e w2 ⟨rfl, h2, k2⟩; have O2 := Lib.hid (OW.out.step k2 h2); obtain ⟨vm, hvm⟩ := O2.out.ap.st.cells; obtain ⟨⟨m0, m1, m2⟩, mf⟩ := cells3m hvm; rw [YB.out] at m2; have l2 := O2.out.ap.st.lt; clear h2 k2 hvm))
          go_roundw
          case rel => exact ⟨kp, ks, y1, Ak, nk, ck, by first | with_reducible rfl | (rw [ek1]; done), rfl, Lib.hid ⟨by rw [KP.out]; exact LQ.out, by have := HQ.out.2.1; have := KP.out; clear ek1; omega, by rw [OT.out, PE.out, KP.out]; rfl, RB.out⟩, O2.out⟩
          case measure => (first | ((try rw [ek1]); exact meas_c KP.out LQ.out) | (clear ek1; have := LQ.out; simp only [intOf]; omega))
      · have z64 : (d.op == 64) = false := by rw [beq_eq_false_iff_ne]; exact h64
        have RX := Lib.hid (show restX y t d q = y by unfold restX; rw [if_neg (by rintro ⟨e, _⟩; exact h64 e)])
        have RT := Lib.hid (fun W (h : MkS (exK E (.slice Ak nk ck)) lo B y W) (hT : IsNd (fun b => b < lo) W (.slice (some ⟨b, off, none⟩) t.kids.length c) t.kids) => (by have := rest_any lo B y t d (some ⟨b, off, none⟩) c q W h hd SK.out.2 hT; rw [z64, RX.out] at this; exact this : Calls Tryd.prog 36 #[.pointer (some ⟨B, 0, none⟩), nodeV t (.slice (some ⟨b, off, none⟩) t.kids.length c), .int .i64 (q : Int)] W (RetR (exK E (.slice Ak nk ck)) lo B y W false)))
        have PP := Lib.hid (fun W (hS : ApS (exK E (.slice Ak nk ck)) lo B y W) (hT : IsNd (fun b => b < lo) W (.slice A5 d.kids.length c5) d.kids) => prop_any hN IH lo B y d A5 c5 r rm W SD.out hS hT OK.out (by have := BB.out; unfold Bd; omega))
        have PB := Lib.hid (prM_bound d r rm y)
        have PE := Lib.hid (obT_prop rm d (t.kids.drop (q + 1)) r ks y h64)
        generalize prM d r rm y = pm at *
        obtain ⟨y2, pk, pd⟩ := pm
        clear hkp hlt hd hk u0 hp ho h64 DC hmem z64
        cases pd
        · go_wp2_with (first
            | (go_at_call 36; go_loud (refine (RT.out _ OW.out.ap.st (TL.out _ OW.out.kp)).mono ?_; rintro e w2 ⟨rfl, h2, k2⟩; have O2 := Lib.hid (OW.out.step k2 h2); have K2 := Lib.hid k2; obtain ⟨⟨b0, b1, b2, b3, b4, b5⟩, _⟩ := cells6n O2.out.bp.1; have l2 := O2.out.bp.lt; obtain ⟨v0, v1, v2, v3, v4, v5⟩ := UD.out _ k2; clear h2 k2))
            | (go_at_call 38; go_loud (refine (PP.out _ O2.out.ap (nd_lo HK.out K2.out OW.out.ap.st.rowT OW.out.ap.lo)).mono ?_; rintro e w3 ⟨rfl, h3, k3⟩; have O3 := Lib.hid (O2.out.step k3 h3); clear h3 k3)))
          go_roundw
          case rel => exact ⟨kp, ks, y2, Ak, nk, ck, by first | with_reducible rfl | (rw [ek1]; done), rfl, Lib.hid ⟨by rw [KP.out]; exact LQ.out, by have := HQ.out.2.1; have := KP.out; clear ek1; omega, by rw [OT.out, PE.out, KP.out]; rfl, by have h1 := PB.out; have h2 := BB.out; unfold Adds at h1; unfold Bo; rw [KP.out]; clear ek1; omega⟩, O3.out⟩
          case measure => (first | ((try rw [ek1]); exact meas_c KP.out LQ.out) | (clear ek1; have := LQ.out; simp only [intOf]; omega))
        · go_wp2_with (first
            | (go_at_call 36; go_loud (refine (RT.out _ OW.out.ap.st (TL.out _ OW.out.kp)).mono ?_; rintro e w2 ⟨rfl, h2, k2⟩; have O2 := Lib.hid (OW.out.step k2 h2); have K2 := Lib.hid k2; obtain ⟨⟨b0, b1, b2, b3, b4, b5⟩, _⟩ := cells6n O2.out.bp.1; have l2 := O2.out.bp.lt; obtain ⟨v0, v1, v2, v3, v4, v5⟩ := UD.out _ k2; clear h2 k2))
            | (go_at_call 38; go_loud (refine (PP.out _ O2.out.ap (nd_lo HK.out K2.out OW.out.ap.st.rowT OW.out.ap.lo)).mono ?_; rintro e w3 ⟨rfl, h3, k3⟩; have O3 := Lib.hid (O2.out.step k3 h3); clear h3 k3))
            | (at_builtin; go_loud (refine wpList_app1 elem_int rfl _ _ rfl X.heap.size ks pk (q := nk) O3.out.len.symm (yv := .slice Ak nk ck) (b := w3.heap.size) rfl rfl (ownsRow_below O3.out.row (by (repeat (with_reducible first | exact Below.refl _ _ | (refine bl_set ?_ (by first | omega | (simp; done) | (simp; omega)) _) | refine bl_gr ?_ _ | refine bl_al ?_ _ | refine below_setRow ?_ (by first | omega | (simp; done) | (simp; omega)) _ | refine bl_drewN ?_ _ | refine Below.drew ?_ | (refine bl_tr ?_ (by assumption)))))) (Nat.le_trans O3.out.kp.size (show Below w3.heap.size w3 _ by (repeat (with_reducible first | exact Below.refl _ _ | (refine bl_set ?_ (by first | omega | (simp; done) | (simp; omega)) _) | refine bl_gr ?_ _ | refine bl_al ?_ _ | refine below_setRow ?_ (by first | omega | (simp; done) | (simp; omega)) _ | refine bl_drewN ?_ _ | refine Below.drew ?_ | (refine bl_tr ?_ (by assumption))))).size) (heap_alloc_new _ _) (one_int pk) (by have h1 := HQ.out.2.1; have h2 := HQ.out.1; have h3 := SK.out.2; clear ek1; omega) (by decide) ?_; intro g7 m7 n7 w7 em o7 gr7 gw7 gl7; have EM := Lib.hid em; have O7 := Lib.hid (ObS.app (O3.out.below (by (repeat (with_reducible first | exact Below.refl _ _ | (refine bl_set ?_ (by first | omega | (simp; done) | (simp; omega)) _) | refine bl_gr ?_ _ | refine bl_al ?_ _ | refine below_setRow ?_ (by first | omega | (simp; done) | (simp; omega)) _ | refine bl_drewN ?_ _ | refine Below.drew ?_ | (refine bl_tr ?_ (by assumption)))))) HS.out.lo em o7 gr7 gw7 gl7); clear em o7 gr7 gw7 gl7)))
          go_roundw
          case rel => exact ⟨kp, ks ++ [pk], y2, some ⟨g7, 0, none⟩, m7, n7, by first | with_reducible rfl | (rw [ek1]; done), rfl, Lib.hid ⟨by rw [KP.out]; exact LQ.out, by have := HQ.out.2.1; have := KP.out; have := EM.out; clear ek1; omega, by rw [OT.out, PE.out, KP.out]; rfl, by have h1 := PB.out; have h2 := BB.out; unfold Adds at h1; unfold Bo; rw [KP.out]; clear ek1; omega⟩, O7.out⟩
          case measure => (first | ((try rw [ek1]); exact meas_c KP.out LQ.out) | (clear ek1; have := LQ.out; simp only [intOf]; omega))
    · have q1 : ¬ (q : Int) < (t.kids.length : Int) := by omega
      have FX := Lib.hid (show obT rm t.kids r [] x1 = y by rw [HQ.out.2.2.1, show t.kids.drop q = [] from List.drop_of_length_le (by omega), obT])
      rw [FX.out]
      clear hlt ho
      go_wp2
      go_end0
      exact ⟨rfl, OW.out.ap.st.weak (fun b e => .inl e), OW.out.kp⟩
end Go.Proofs.YtiagegecnopfgaaDoor
