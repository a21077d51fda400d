/- The maker's array, walked. -/
import Derived.Test.YtiagegecnopfgaaDoorPaP
namespace Go.Proofs.YtiagegecnopfgaaDoor
set_option linter.all false
open Go.ChangeShapes Go.WideShapes Go.ChangeAt Go.RowKit Go.Sort Go.Deep
variable {E : Nat → Prop}

/-- the function's boxes; the iterator's box -/
structure ArS (E : Nat → Prop) (lo B : Nat) (X : World) (t : Tree) (K : Value) (bi : Nat) (it : Int) (y : Mk) (Z : World) : Prop where
  bm : Bx B Z X.heap.size (ptrO B)
  bt : Bx B Z (X.heap.size + 1) (nodeO t K)
  bi : Bx B Z bi (intO it)
  ap : ApS E lo B y Z
  kp : KpM lo B X Z
theorem ArS.step {lo B bi : Nat} {X Z W : World} {t : Tree} {K : Value} {it : Int} {y y2 : Mk} (h : ArS E lo B X t K bi it y Z) (k : KpM lo B Z W) (hm : MkS E lo B y2 W) : ArS E lo B X t K bi it y2 W := ⟨h.bm.kp k, h.bt.kp k, h.bi.kp k, h.ap.kp k hm, h.kp.trans k⟩
theorem ArS.below {lo B bi : Nat} {X Z W : World} {t : Tree} {K : Value} {it : Int} {y : Mk} (h : ArS E lo B X t K bi it y Z) (hb : Below Z.heap.size Z W) : ArS E lo B X t K bi it y W := h.step (KpM.of_below hb h.ap.st.lt) (h.ap.below hb).st
/-- ahead of the iterator's box -/
structure ArZ (E : Nat → Prop) (lo B : Nat) (X : World) (t : Tree) (K : Value) (y : Mk) (Z : World) : Prop where
  bm : Bx B Z X.heap.size (ptrO B)
  bt : Bx B Z (X.heap.size + 1) (nodeO t K)
  ap : ApS E lo B y Z
  kp : KpM lo B X Z
theorem ArZ.step {lo B : Nat} {X Z W : World} {t : Tree} {K : Value} {y y2 : Mk} (h : ArZ E lo B X t K y Z) (k : KpM lo B Z W) (hm : MkS E lo B y2 W) : ArZ E lo B X t K y2 W := ⟨h.bm.kp k, h.bt.kp k, h.ap.kp k hm, h.kp.trans k⟩
theorem ArZ.below {lo B : Nat} {X Z W : World} {t : Tree} {K : Value} {y : Mk} (h : ArZ E lo B X t K y Z) (hb : Below Z.heap.size Z W) : ArZ E lo B X t K y W := h.step (KpM.of_below hb h.ap.st.lt) (h.ap.below hb).st
theorem ArZ.start {lo B : Nat} {X : World} {t : Tree} {K : Value} {y : Mk} (h : ApS E lo B y X) : ArZ E lo B X t K y ((X.alloc (ptrO B)).alloc (nodeO t K)) := by
  have h1 := h.below (bl_al (Below.refl X.heap.size X) (ptrO B))
  have e : (X.alloc (ptrO B)).heap.size = X.heap.size + 1 := by simp
  have b2 := Bx.new (nodeO t K) h1.st.rowT
  rw [e] at b2
  exact ⟨(Bx.new (ptrO B) h.st.rowT).below (bl_al (Below.refl _ _) _) h1.st.lt, b2, h1.below (bl_al (Below.refl _ _) _), KpM.of_below (bl_al (bl_al (Below.refl _ _) _) _) h.st.lt⟩
/-- the iterator's box, made behind the call -/
theorem ArZ.box {lo B : Nat} {X W Y : World} {t : Tree} {K : Value} {it : Int} {y : Mk} (h : ArZ E lo B X t K y W) (hb : Below W.heap.size W Y) (e : Y.heap[W.heap.size]? = some (intO it)) : ArS E lo B X t K W.heap.size it y Y := by
  have h1 := h.below hb
  have lB := h.ap.st.lt
  refine ⟨h1.bm, h1.bt, ⟨e, by omega, fun ⟨v, g, k, e2, e3⟩ => ?_⟩, h1.ap, h1.kp⟩
  rw [hb.block B lB] at e2
  have := (h.ap.st.rowT.2.2 _ ⟨v, g, k, e2, e3⟩).2.1
  omega
/-- what is left of the bounds, with one to spare -/
def Bp (y : Mk) (l : List Tree) : Prop := 0 ≤ y.g ∧ y.g + 1 + 2 * (sizeK l : Nat) ≤ 500000 ∧ y.l.length + 1 + 4 * sizeK l ≤ 500000
theorem arT_bad {d : Tree} {l : List Tree} {it : Int} {y : Mk} (h : y.b = true) : arT (d :: l) it y = y := by rw [arT, if_pos h]
theorem arT_hole {d : Tree} {l : List Tree} {it : Int} {y : Mk} (h : y.b = false) (h4 : d.op = 40) : arT (d :: l) it y = arT l it (y.lay ⟨6, 0, it, bs0, Tree.z, []⟩) := by rw [arT, if_neg (by rw [h]; decide), if_pos h4]
theorem arT_take {d : Tree} {l : List Tree} {it : Int} {y : Mk} (h : y.b = false) (h4 : ¬ d.op = 40) (h6 : ¬ d.op = 64) : arT (d :: l) it y = arT l it (apT d y.g (y.next.lay ⟨5, y.g, it, bs0, Tree.z, []⟩)) := by rw [arT, if_neg (by rw [h]; decide), if_neg h4, if_neg h6]
theorem arT_rest (t d : Tree) (q : Nat) (it : Int) (y : Mk) (hb : y.b = false) (h : d.op = 64) (hd : t.kids[q]? = some d) : arT (d :: t.kids.drop (q + 1)) it y = arT (t.kids.drop (q + 1)) it (if (restX y t d q).b then restX y t d q else apA d.kids (restX y t d q).g ((restX y t d q).next.lay ⟨7, (restX y t d q).g, it, bs0, Tree.z, []⟩)) := by
  have hlt := (List.getElem?_eq_some_iff.1 hd).1
  rw [arT, if_neg (by rw [hb]; decide), if_neg (by rw [h]; decide), if_pos h]
  have e : (if ((t.kids.drop (q + 1)).isEmpty && d.kids.length == 1) = true then y else y.bad) = restX y t d q := by
    unfold restX
    by_cases h1 : q + 1 = t.kids.length
    · have h2 : (t.kids.drop (q + 1)).isEmpty = true := by rw [List.drop_of_length_le (by omega)]; rfl
      by_cases h3 : d.kids.length = 1
      · rw [h2, if_pos (by simp [h3]), if_neg (by rintro ⟨_, hn⟩; exact hn ⟨h1, h3⟩)]
      · rw [h2, if_neg (by simp [h3]), if_pos ⟨h, fun hn => h3 hn.2⟩]
    · have h2 : (t.kids.drop (q + 1)).isEmpty = false := by
        cases hh : t.kids.drop (q + 1) with
        | nil =>
          have := congrArg List.length hh
          simp at this
          omega
        | cons a l => rfl
      rw [h2, if_neg (by simp), if_pos ⟨h, fun hn => h1 hn.1⟩]
  simp only [e, apR_eq]
set_option maxRecDepth 100000 in
set_option maxHeartbeats 16000000 in
theorem array_step {N : Nat} (hN : N ≤ 100000) (IH : ApC N) : ArC (N + 1) := by
  intro E lo B x t A c r X ht h hT hO hB
  have HS := Lib.hid h
  have HT := Lib.hid hT
  have HO := Lib.hid hO
  have lB := h.st.lt
  have sz := sizeT_eq t
  have BG := Lib.hid (show 0 ≤ x.g ∧ x.g ≤ 1000000 by have := hB; unfold Bd at this; omega)
  have SK := Lib.hid (show sizeK t.kids < N ∧ t.kids.length ≤ 1000000 by have := sizeK_len t.kids; omega)
  have LX := Lib.hid (show x.next.l.length ≤ 500000 ∧ (x.next.lay ⟨4, x.g, r, bs0, Tree.z, []⟩).l.length ≤ 500000 by have := hB; unfold Bd at this; rw [lay_len, next_len]; omega)
  have BD := Lib.hid (show Bp ((x.next.lay ⟨4, x.g, r, bs0, Tree.z, []⟩).lay ⟨12, 0, x.g, bs0, Tree.z, []⟩) t.kids by have := hB; unfold Bd at this; unfold Bp; rw [lay_g, lay_len, lay_g, lay_len, next_g, next_len]; omega)
  clear hB ht sz h hT hO
  obtain ⟨x2, hx2⟩ : ∃ x2, x2 = (x.next.lay ⟨4, x.g, r, bs0, Tree.z, []⟩).lay ⟨12, 0, x.g, bs0, Tree.z, []⟩ := ⟨_, rfl⟩
  rw [← hx2] at BD ⊢
  have X2 := Lib.hid hx2
  clear hx2
  obtain ⟨it, hit⟩ : ∃ it, it = x.g := ⟨_, rfl⟩
  rw [← hit] at X2 LX BG ⊢
  have IT := Lib.hid hit
  clear hit
  go_enter Tryd.func31, Tryd.ntmps31
  go_upto_region 1 with fail
  refine wpd_world (fun Z => ArZ E lo B X t (.slice A t.kids.length c) x Z ∧ Z.heap.size = X.heap.size + 1 + 1) ⟨ArZ.start HS.out, by simp⟩ ?_
  rintro Z ⟨hZ, sZ⟩
  have OZ := Lib.hid hZ
  have SZ := Lib.hid sZ
  have S0 := Lib.hid hZ.bm.1
  clear hZ sZ lB
  go_simp
  obtain ⟨m0, mf⟩ := cell1b S0.out
  have lm := (Array.getElem?_eq_some_iff.1 S0.out).1
  have FR := Lib.hid (fresh_any lo B x Z OZ.out.ap.st (by rw [← IT.out]; exact BG.out))
  rw [← IT.out] at FR
  go_upto_region 2 with (go_at_call 37; go_loud (refine FR.out.mono ?_; rintro e w1 ⟨rfl, h1, k1⟩; have PZ := Lib.hid (OZ.out.step k1 h1); clear h1 k1))
  refine wpd_world (fun Y => ArS E lo B X t (.slice A t.kids.length c) w1.heap.size it x.next Y) (PZ.out.box (by (repeat (with_reducible first | exact Below.refl _ _ | (refine bl_set ?_ (by first | omega | (simp; done) | (simp; omega)) _) | refine bl_gr ?_ _ | refine bl_al ?_ _ | refine below_setRow ?_ (by first | omega | (simp; done) | (simp; omega)) _ | refine bl_drewN ?_ _ | refine Below.drew ?_ | (refine bl_tr ?_ (by assumption))))) (heap_alloc_new _ _)) ?_
  generalize w1.heap.size = bi
  intro Y hY
  have OY := Lib.hid hY
  clear m0 mf lm hY PZ OZ S0 SZ
  obtain ⟨m0, mf⟩ := cell1b OY.out.bm.1
  have lm := OY.out.bm.lt
  obtain ⟨i0, jf⟩ := cell1b OY.out.bi.1
  have li := OY.out.bi.lt
  go_upto_region 3 with (go_at_call 28; go_loud (refine (lay_any lo B x.next (plR 4 it r bs0) Y OY.out.ap.st plR_holds OY.out.ap.lo (Nat.le_trans LX.out.1 (by decide))).mono ?_; rintro e w2 ⟨rfl, h2, k2⟩; have O2 := Lib.hid (OY.out.step k2 h2); obtain ⟨n0, nf⟩ := cell1b O2.out.bm.1; have ln := O2.out.bm.lt; obtain ⟨p0, pf⟩ := cell1b O2.out.bi.1; have lp := O2.out.bi.lt; clear h2 k2))
  go_upto_region 4 with (go_at_call 28; go_loud (refine (lay_any lo B (x.next.lay ⟨4, it, r, bs0, Tree.z, []⟩) (plR 12 0 it bs0) w2 O2.out.ap.st plR_holds O2.out.ap.lo (Nat.le_trans LX.out.2 (by decide))).mono ?_; rintro e w3 ⟨rfl, h3, k3⟩; have O3 := Lib.hid (O2.out.step k3 h3); obtain ⟨⟨b0, b1, b2, b3, b4, b5⟩, _⟩ := cells6n O3.out.bt.1; have l0 := O3.out.bt.lt; clear h3 k3))
  clear m0 mf lm i0 jf li n0 nf ln p0 pf lp
  rw [← X2.out] at O3
  clear LX O2 OY BG X2
  go_upto_region 5 with fail
  go_wp2
  clear b0 b1 b2 b3 b4 b5 l0
  go_loopw [25] (fun i W => ∃ (q : Nat) (y : Mk), i = .int .i64 q ∧ Hid (q ≤ t.kids.length ∧ arT t.kids it x2 = arT (t.kids.drop q) it y ∧ Bp y (t.kids.drop q)) ∧ ArS E lo B X t (.slice A t.kids.length c) bi it y W) (fun i _ => t.kids.length - (intOf i).toNat)
  case atStart => exact ⟨0, x2, rfl, Lib.hid ⟨Nat.zero_le _, by rw [List.drop_zero], by rw [List.drop_zero]; exact BD.out⟩, O3.out⟩
  case round =>
    clear O3 BD
    obtain ⟨q, y, rfl, HQ, ho⟩ := hrel
    have OW := Lib.hid ho
    by_cases hlt : q < t.kids.length
    · have q1 : (q : Int) < (t.kids.length : Int) := by omega
      have q3 : ¬ (q : Int) < 0 := by omega
      obtain ⟨d, hd⟩ : ∃ d, t.kids[q]? = some d := ⟨_, List.getElem?_eq_getElem hlt⟩
      have hmem := List.mem_of_getElem? hd
      have TL := Lib.hid (fun W (k : KpM lo B X W) => nd_low HT.out k.size (k.below HS.out.st.rowT HS.out.lo).block)
      obtain ⟨b, off, cap, A5, c5, f1, lb, hp, hk, u0⟩ := (TL.out wr ho.kp).at_ hd
      simp only [Value.slice.injEq] at f1
      obtain ⟨rfl, _, rfl⟩ := f1
      have DC := drop_cons hd
      have SD := Lib.hid (show sizeT d < N by have h1 := SK.out.1; have h2 := sizeK_mem hmem; omega)
      have BB := Lib.hid (show 0 ≤ y.g ∧ y.g + 1 + 2 * (sizeT d + sizeK (t.kids.drop (q + 1)) : Nat) ≤ 500000 ∧ y.l.length + 1 + 4 * (sizeT d + sizeK (t.kids.drop (q + 1))) ≤ 500000 by have h1 := HQ.out.2.2; rw [DC] at h1; unfold Bp at h1; rw [sizeK] at h1; exact h1)
      have OT := Lib.hid (show arT t.kids it x2 = arT (d :: t.kids.drop (q + 1)) it y by rw [HQ.out.2.1, DC])
      have OK := Lib.hid (HO.out.kid hmem)
      have LQ := Lib.hid hlt
      have PD := Lib.hid (sizeT_pos d)
      obtain ⟨kp, hkp, ek1⟩ : ∃ kp : Nat, kp = q + 1 ∧ wrap64 ((q : Int) + 1) = (kp : Int) := ⟨q + 1, rfl, w64c rfl (by have := SK.out; omega)⟩
      have KP := Lib.hid hkp
      have HK := Lib.hid hk
      have HD := Lib.hid hd
      obtain ⟨⟨b0, b1, b2, b3, b4, b5⟩, _⟩ := cells6n ho.bt.1
      have l0 := ho.bt.lt
      obtain ⟨v0, v1, v2, v3, v4, v5⟩ := u0
      clear hkp hlt hd hk hp ho DC hmem
      go_upto_region 10 with fail
      refine wpd_world (fun V => ArS E lo B X t (.slice (some ⟨b, off, none⟩) t.kids.length c) bi it y V ∧ Bx B V wr.heap.size (nodeO d (.slice A5 d.kids.length c5)) ∧ KpM lo B wr V) ⟨OW.out.below (bl_al (Below.refl _ _) _), Bx.new _ OW.out.ap.st.rowT, KpM.of_below (bl_al (Below.refl _ _) _) OW.out.ap.st.lt⟩ ?_
      rintro V ⟨hV, hBV, kV⟩
      have OV := Lib.hid hV
      have KB := Lib.hid hBV
      have KV := Lib.hid kV
      clear b0 b1 b2 b3 b4 b5 l0 v0 v1 v2 v3 v4 v5 lb hBV kV
      obtain ⟨a0, af⟩ := cell1b hV.bm.1
      have la := hV.bm.lt
      obtain ⟨i0, jf⟩ := cell1b hV.bi.1
      have li := hV.bi.lt
      obtain ⟨vm, hvm⟩ := hV.ap.st.cells
      obtain ⟨⟨m0, m1, m2⟩, mf⟩ := cells3m hvm
      have lm := hV.ap.st.lt
      obtain ⟨⟨k0, k1, k2, k3, k4, k5⟩, _⟩ := cells6n KB.out.1
      have lk := KB.out.lt
      obtain ⟨⟨b0, b1, b2, b3, b4, b5⟩, _⟩ := cells6n hV.bt.1
      have l0 := hV.bt.lt
      generalize hbk : wr.heap.size = bk at *
      clear hV hvm hbk
      have yb : y.b = true ∨ y.b = false := by cases y.b <;> simp
      rcases yb with yb | yb
      · have FX := Lib.hid (show arT t.kids it x2 = y by rw [OT.out, arT_bad yb])
        rw [yb] at m2
        clear yb
        go_wp2
        go_end0
        exact ⟨rfl, by rw [FX.out]; exact OV.out.ap.st, OV.out.kp⟩
      rw [yb] at m2
      have YB := Lib.hid yb
      clear yb
      by_cases h40 : d.op = 40
      · have z40 : (d.op == 40) = true := by rw [h40]; rfl
        have PE := Lib.hid (arT_hole (l := t.kids.drop (q + 1)) (it := it) YB.out h40)
        have LY := Lib.hid (show y.l.length ≤ 1000000 by have := BB.out; clear ek1; omega)
        clear h40
        go_wp2_with (go_at_call 28; go_loud (refine (lay_any lo B y (plR 6 0 it bs0) V OV.out.ap.st plR_holds OV.out.ap.lo LY.out).mono ?_; rintro e w2 ⟨rfl, h2, k2⟩; have O2 := Lib.hid (OV.out.step k2 h2); clear h2 k2))
        go_roundw
        case rel => exact ⟨kp, _, by first | with_reducible rfl | (rw [ek1]; done), Lib.hid ⟨by rw [KP.out]; exact LQ.out, by rw [OT.out, PE.out, KP.out], by have h2 := BB.out; have h3 := PD.out; unfold Bp; rw [KP.out, lay_g, lay_len]; clear ek1; omega⟩, O2.out⟩
        case measure => (first | ((try rw [ek1]); exact meas_c KP.out LQ.out) | (clear ek1; have := LQ.out; simp only [intOf]; omega))
      have z40 : (d.op == 40) = false := by rw [beq_eq_false_iff_ne]; exact h40
      by_cases h64 : d.op = 64
      · have z64 : (d.op == 64) = true := by rw [h64]; rfl
        have RT := Lib.hid (fun W (h : MkS E lo B y W) (hT : IsNd (fun b => b < lo) W (.slice (some ⟨b, off, none⟩) t.kids.length c) t.kids) => (by have := rest_any lo B y t d (some ⟨b, off, none⟩) c q W h HD.out SK.out.2 hT; rw [z64] at this; exact this : Calls Tryd.prog 36 #[.pointer (some ⟨B, 0, none⟩), nodeV t (.slice (some ⟨b, off, none⟩) t.kids.length c), .int .i64 (q : Int)] W (RetR E lo B (restX y t d q) W true)))
        have PE := Lib.hid (arT_rest t d q it y YB.out h64 HD.out)
        have XG := Lib.hid (restX_g y t d q)
        cases hb : (restX y t d q).b
        · obtain ⟨x1', x2', x3'⟩ := restX_no hb h64
          rw [x1'] at RT PE
          obtain ⟨d0, hd0⟩ : ∃ d0, d.kids = [d0] := by
            match hh : d.kids, x3' with
            | [a], _ => exact ⟨a, rfl⟩
          have e0 : d.kids[0]? = some d0 := by rw [hd0]; rfl
          obtain ⟨b2, off2, cap2, A6, c6, f2, lb2, hp2, hk2, u2⟩ := HK.out.at_ e0
          simp only [Value.slice.injEq] at f2
          obtain ⟨rfl, _, rfl⟩ := f2
          simp only [Nat.zero_mul, Nat.add_zero] at u2
          have qd : (0 : Int) < (d.kids.length : Int) := by clear ek1; omega
          have sd := sizeT_eq d
          rw [hd0, sizeK, sizeK] at sd
          have QL := Lib.hid (And.intro x2' (by clear ek1; omega : sizeT d = 1 + sizeT d0))
          have PF := Lib.hid (show arT (d :: t.kids.drop (q + 1)) it y = arT (t.kids.drop (q + 1)) it (apT d0 y.g (y.next.lay ⟨7, y.g, it, bs0, Tree.z, []⟩)) by rw [PE.out, YB.out, hd0, apA]; rfl)
          have U2 := Lib.hid (fun W (k : KpM lo B wr W) => (u2.low hp2 ((k.below OW.out.ap.st.rowT OW.out.ap.lo)) : AtN W b2 off2 d0 (.slice A6 d0.kids.length c6)))
          have H2 := Lib.hid hk2
          have OC := Lib.hid (fun W (hS : ApS E lo B y W) (hT : IsNd (fun b => b < lo) W (.slice A6 d0.kids.length c6) d0.kids) (hm : Bx B W X.heap.size (ptrO B)) (hi : Bx B W bi (intO it)) => one_any IH lo B y d0 A6 c6 7 it X.heap.size bi W (by have h1 := QL.out.2; have h2 := SD.out; clear ek1; omega) hS hT (OK.out.kid (by rw [hd0]; simp)) (by have h1 := QL.out.2; have h2 := BB.out; clear ek1; omega) hm hi)
          have AB := Lib.hid (ap_bound d0 y.g (y.next.lay ⟨7, y.g, it, bs0, Tree.z, []⟩))
          clear h64 h40 hb x1' x2' x3' e0 hd0 u2 hk2 hp2 sd
          generalize apT d0 y.g (y.next.lay ⟨7, y.g, it, bs0, Tree.z, []⟩) = y3 at *
          go_wp2_with (first
            | (go_at_call 36; go_loud (refine (RT.out _ OV.out.ap.st (TL.out _ OV.out.kp)).mono ?_; rintro e w2 ⟨rfl, h2, k2'⟩; have O2 := Lib.hid (OV.out.step k2' h2); have K2 := Lib.hid (KV.out.trans k2'); obtain ⟨vm, hvm⟩ := O2.out.ap.st.cells; obtain ⟨⟨m0, m1, m2⟩, mf⟩ := cells3m hvm; rw [YB.out] at m2; have l2 := O2.out.ap.st.lt; obtain ⟨a0, af⟩ := cell1b O2.out.bm.1; have la := O2.out.bm.lt; obtain ⟨⟨k0, k1, k2, k3, k4, k5⟩, _⟩ := cells6n (KB.out.kp k2').1; have lk := (KB.out.kp k2').lt; obtain ⟨u0, u1, u2, u3, u4, u5⟩ := U2.out _ K2.out; clear h2 k2' hvm))
            | (go_at_call 39; go_loud (refine (OC.out _ (O2.out.below (show Below w2.heap.size w2 _ by (repeat (with_reducible first | exact Below.refl _ _ | (refine bl_set ?_ (by first | omega | (simp; done) | (simp; omega)) _) | refine bl_gr ?_ _ | refine bl_al ?_ _ | refine below_setRow ?_ (by first | omega | (simp; done) | (simp; omega)) _ | refine bl_drewN ?_ _ | refine Below.drew ?_ | (refine bl_tr ?_ (by assumption)))))).ap (nd_lo H2.out (K2.out.trans (KpM.of_below (show Below w2.heap.size w2 _ by (repeat (with_reducible first | exact Below.refl _ _ | (refine bl_set ?_ (by first | omega | (simp; done) | (simp; omega)) _) | refine bl_gr ?_ _ | refine bl_al ?_ _ | refine below_setRow ?_ (by first | omega | (simp; done) | (simp; omega)) _ | refine bl_drewN ?_ _ | refine Below.drew ?_ | (refine bl_tr ?_ (by assumption))))) O2.out.ap.st.lt)) OW.out.ap.st.rowT OW.out.ap.lo) (O2.out.below (show Below w2.heap.size w2 _ by (repeat (with_reducible first | exact Below.refl _ _ | (refine bl_set ?_ (by first | omega | (simp; done) | (simp; omega)) _) | refine bl_gr ?_ _ | refine bl_al ?_ _ | refine below_setRow ?_ (by first | omega | (simp; done) | (simp; omega)) _ | refine bl_drewN ?_ _ | refine Below.drew ?_ | (refine bl_tr ?_ (by assumption)))))).bm (O2.out.below (show Below w2.heap.size w2 _ by (repeat (with_reducible first | exact Below.refl _ _ | (refine bl_set ?_ (by first | omega | (simp; done) | (simp; omega)) _) | refine bl_gr ?_ _ | refine bl_al ?_ _ | refine below_setRow ?_ (by first | omega | (simp; done) | (simp; omega)) _ | refine bl_drewN ?_ _ | refine Below.drew ?_ | (refine bl_tr ?_ (by assumption)))))).bi).mono ?_; rintro e w11 ⟨rfl, h11, k11⟩; have O11 := Lib.hid ((O2.out.below (show Below w2.heap.size w2 _ by (repeat (with_reducible first | exact Below.refl _ _ | (refine bl_set ?_ (by first | omega | (simp; done) | (simp; omega)) _) | refine bl_gr ?_ _ | refine bl_al ?_ _ | refine below_setRow ?_ (by first | omega | (simp; done) | (simp; omega)) _ | refine bl_drewN ?_ _ | refine Below.drew ?_ | (refine bl_tr ?_ (by assumption)))))).step k11 h11); clear h11 k11)))
          go_roundw
          case rel => exact ⟨kp, y3, by first | with_reducible rfl | (rw [ek1]; done), Lib.hid ⟨by rw [KP.out]; exact LQ.out, by rw [OT.out, PF.out, KP.out], by have h1 := AB.out; have h2 := BB.out; have h3 := QL.out; unfold AddsT at h1; rw [lay_len, next_len, lay_g, next_g] at h1; unfold Bp; rw [KP.out]; clear ek1; omega⟩, O11.out⟩
          case measure => (first | ((try rw [ek1]); exact meas_c KP.out LQ.out) | (clear ek1; have := LQ.out; simp only [intOf]; omega))
        · clear h64 h40
          have XB := Lib.hid hb
          have RB := Lib.hid (show Bp (restX y t d q) (t.kids.drop kp) by have h2 := BB.out; unfold Bp; rw [XG.out.1, XG.out.2, KP.out]; clear ek1; omega)
          rw [hb] at PE
          generalize restX y t d q = y1 at *
          go_wp2_with (go_at_call 36; go_loud (refine (RT.out _ OV.out.ap.st (TL.out _ OV.out.kp)).mono ?_; rintro e w2 ⟨rfl, h2, k2'⟩; have O2 := Lib.hid (OV.out.step k2' h2); obtain ⟨vm, hvm⟩ := O2.out.ap.st.cells; obtain ⟨⟨m0, m1, m2⟩, mf⟩ := cells3m hvm; rw [XB.out] at m2; have l2 := O2.out.ap.st.lt; obtain ⟨a0, af⟩ := cell1b O2.out.bm.1; have la := O2.out.bm.lt; clear h2 k2' hvm))
          go_roundw
          case rel => exact ⟨kp, y1, by first | with_reducible rfl | (rw [ek1]; done), Lib.hid ⟨by rw [KP.out]; exact LQ.out, by rw [OT.out, PE.out, KP.out]; rfl, RB.out⟩, O2.out⟩
          case measure => (first | ((try rw [ek1]); exact meas_c KP.out LQ.out) | (clear ek1; have := LQ.out; simp only [intOf]; omega))
      · have z64 : (d.op == 64) = false := by rw [beq_eq_false_iff_ne]; exact h64
        have RX := Lib.hid (show restX y t d q = y by unfold restX; rw [if_neg (by rintro ⟨e, _⟩; exact h64 e)])
        have RT := Lib.hid (fun W (h : MkS E lo B y W) (hT : IsNd (fun b => b < lo) W (.slice (some ⟨b, off, none⟩) t.kids.length c) t.kids) => (by have := rest_any lo B y t d (some ⟨b, off, none⟩) c q W h HD.out SK.out.2 hT; rw [z64, RX.out] at this; exact this : Calls Tryd.prog 36 #[.pointer (some ⟨B, 0, none⟩), nodeV t (.slice (some ⟨b, off, none⟩) t.kids.length c), .int .i64 (q : Int)] W (RetR E lo B y W false)))
        have PE := Lib.hid (arT_take (l := t.kids.drop (q + 1)) (it := it) YB.out h40 h64)
        have OC := Lib.hid (fun W (hS : ApS E lo B y W) (hT : IsNd (fun b => b < lo) W (.slice A5 d.kids.length c5) d.kids) (hm : Bx B W X.heap.size (ptrO B)) (hi : Bx B W bi (intO it)) => one_any IH lo B y d A5 c5 5 it X.heap.size bi W SD.out hS hT OK.out (by have h2 := BB.out; clear ek1; omega) hm hi)
        have AB := Lib.hid (ap_bound d y.g (y.next.lay ⟨5, y.g, it, bs0, Tree.z, []⟩))
        clear h64 h40
        generalize apT d y.g (y.next.lay ⟨5, y.g, it, bs0, Tree.z, []⟩) = y3 at *
        go_wp2_with (first
          | (go_at_call 36; go_loud (refine (RT.out _ OV.out.ap.st (TL.out _ OV.out.kp)).mono ?_; rintro e w2 ⟨rfl, h2, k2'⟩; have O2 := Lib.hid (OV.out.step k2' h2); have K2 := Lib.hid (KV.out.trans k2'); obtain ⟨⟨k0, k1, k2, k3, k4, k5⟩, _⟩ := cells6n (KB.out.kp k2').1; have lk := (KB.out.kp k2').lt; clear h2 k2'))
          | (go_at_call 39; go_loud (refine (OC.out _ (O2.out.below (show Below w2.heap.size w2 _ by (repeat (with_reducible first | exact Below.refl _ _ | (refine bl_set ?_ (by first | omega | (simp; done) | (simp; omega)) _) | refine bl_gr ?_ _ | refine bl_al ?_ _ | refine below_setRow ?_ (by first | omega | (simp; done) | (simp; omega)) _ | refine bl_drewN ?_ _ | refine Below.drew ?_ | (refine bl_tr ?_ (by assumption)))))).ap (nd_lo HK.out (K2.out.trans (KpM.of_below (show Below w2.heap.size w2 _ by (repeat (with_reducible first | exact Below.refl _ _ | (refine bl_set ?_ (by first | omega | (simp; done) | (simp; omega)) _) | refine bl_gr ?_ _ | refine bl_al ?_ _ | refine below_setRow ?_ (by first | omega | (simp; done) | (simp; omega)) _ | refine bl_drewN ?_ _ | refine Below.drew ?_ | (refine bl_tr ?_ (by assumption))))) O2.out.ap.st.lt)) OW.out.ap.st.rowT OW.out.ap.lo) (O2.out.below (show Below w2.heap.size w2 _ by (repeat (with_reducible first | exact Below.refl _ _ | (refine bl_set ?_ (by first | omega | (simp; done) | (simp; omega)) _) | refine bl_gr ?_ _ | refine bl_al ?_ _ | refine below_setRow ?_ (by first | omega | (simp; done) | (simp; omega)) _ | refine bl_drewN ?_ _ | refine Below.drew ?_ | (refine bl_tr ?_ (by assumption)))))).bm (O2.out.below (show Below w2.heap.size w2 _ by (repeat (with_reducible first | exact Below.refl _ _ | (refine bl_set ?_ (by first | omega | (simp; done) | (simp; omega)) _) | refine bl_gr ?_ _ | refine bl_al ?_ _ | refine below_setRow ?_ (by first | omega | (simp; done) | (simp; omega)) _ | refine bl_drewN ?_ _ | refine Below.drew ?_ | (refine bl_tr ?_ (by assumption)))))).bi).mono ?_; rintro e w11 ⟨rfl, h11, k11⟩; have O11 := Lib.hid ((O2.out.below (show Below w2.heap.size w2 _ by (repeat (with_reducible first | exact Below.refl _ _ | (refine bl_set ?_ (by first | omega | (simp; done) | (simp; omega)) _) | refine bl_gr ?_ _ | refine bl_al ?_ _ | refine below_setRow ?_ (by first | omega | (simp; done) | (simp; omega)) _ | refine bl_drewN ?_ _ | refine Below.drew ?_ | (refine bl_tr ?_ (by assumption)))))).step k11 h11); clear h11 k11)))
        go_roundw
        case rel => exact ⟨kp, y3, by first | with_reducible rfl | (rw [ek1]; done), Lib.hid ⟨by rw [KP.out]; exact LQ.out, by rw [OT.out, PE.out, KP.out], by have h1 := AB.out; have h2 := BB.out; unfold AddsT at h1; rw [lay_len, next_len, lay_g, next_g] at h1; unfold Bp; rw [KP.out]; clear ek1; omega⟩, O11.out⟩
        case measure => (first | ((try rw [ek1]); exact meas_c KP.out LQ.out) | (clear ek1; have := LQ.out; simp only [intOf]; omega))
    · have q1 : ¬ (q : Int) < (t.kids.length : Int) := by omega
      have FX := Lib.hid (show arT t.kids it x2 = y.lay ⟨8, 0, it, bs0, Tree.z, []⟩ by rw [HQ.out.2.1, show t.kids.drop q = [] from List.drop_of_length_le (by omega), arT])
      have LY := Lib.hid (show y.l.length ≤ 1000000 by have h1 := HQ.out.2.2; unfold Bp at h1; omega)
      obtain ⟨a0, af⟩ := cell1b ho.bm.1
      have la := ho.bm.lt
      obtain ⟨i0, jf⟩ := cell1b ho.bi.1
      have li := ho.bi.lt
      clear hlt ho
      go_wp2_with (go_at_call 28; go_loud (refine (lay_any lo B y (plR 8 0 it bs0) wr OW.out.ap.st plR_holds OW.out.ap.lo LY.out).mono ?_; rintro e w2 ⟨rfl, h2, k2⟩; have O2 := Lib.hid (OW.out.step k2 h2); clear h2 k2))
      go_end0
      exact ⟨rfl, by rw [FX.out]; exact O2.out.ap.st, O2.out.kp⟩
end Go.Proofs.YtiagegecnopfgaaDoor
