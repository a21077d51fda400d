/- The reference's object, walked. -/
import Derived.Test.YtiagegecnopfgaaDoorPcF
namespace Go.Proofs.YtiagegecnopfgaaDoor
set_option linter.all false
open Go.ChangeShapes Go.WideShapes Go.ChangeAt Go.RowKit Go.Sort Go.Deep

theorem own_weak {w : World} {lo lo2 n size : Nat} {E : TypeId} {v : Value} {xs : List Value} (h : w.ownsRow lo E size v n xs) (hl : lo2 ≤ lo) : w.ownsRow lo2 E size v n xs := by
  obtain ⟨h1, h2⟩ := h
  rcases h2 with h2 | ⟨g, cap, cur, e, hg, h3⟩
  · exact ⟨h1, .inl h2⟩
  · exact ⟨h1, .inr ⟨g, cap, cur, e, Nat.le_trans hl hg, h3⟩⟩
theorem own_not {w : World} {lo : Nat} {F T : TypeId} {size n b : Nat} {v : Value} {xs : List Value} {cs : Array Value} (h : w.ownsRow lo F size v n xs) (hb : w.heap[b]? = some (Obj.cells cs T)) (hT : T ≠ F) : ¬ v.ownBlock = some b := fun e => by
  obtain ⟨cs', e2⟩ := own_typeN h b e
  rw [hb] at e2
  simp only [Option.some.injEq, Obj.cells.injEq] at e2
  exact hT e2.2.1
theorem box_sg {S : World} {b j : Nat} {cs : Array Value} {T : TypeId} (h : S.heap[b]? = some (Obj.cells cs T)) (v : Value) (p : Regrown) : (gr (S.setCell ⟨b, j, none⟩ v) p).heap[b]? = some (Obj.cells (cs.setIfInBounds j v) T) := by
  have h1 := heap_setCell_same S b j _ _ v h
  exact ((below_gr _ _).block _ (Array.getElem?_eq_some_iff.1 h1).1).trans h1
theorem box_gs {S : World} {b j : Nat} {cs : Array Value} {T : TypeId} (h : S.heap[b]? = some (Obj.cells cs T)) (v : Value) (p : Regrown) : ((gr S p).setCell ⟨b, j, none⟩ v).heap[b]? = some (Obj.cells (cs.setIfInBounds j v) T) :=
  heap_setCell_same _ b j _ _ v (((below_gr _ _).block _ (Array.getElem?_eq_some_iff.1 h).1).trans h)
theorem two_box {w : World} {b i j : Nat} {cs : Array Value} {T : TypeId} {o : Obj} {u v : Value} (h : w.heap[b]? = some (Obj.cells cs T)) : (((w.setCell ⟨b, i, none⟩ v).setCell ⟨b, j, none⟩ u).alloc o).heap[b]? = some (Obj.cells ((cs.setIfInBounds i v).setIfInBounds j u) T) := by
  have h1 := heap_setCell_same _ b j _ _ u (heap_setCell_same _ b i _ _ v h)
  exact (heap_alloc_old _ _ (Array.getElem?_eq_some_iff.1 h1).1).trans h1
theorem two_new {w : World} {b i j : Nat} {o : Obj} {u v : Value} : (((w.setCell ⟨b, i, none⟩ v).setCell ⟨b, j, none⟩ u).alloc o).heap[w.heap.size]? = some o := by
  have e : ((w.setCell ⟨b, i, none⟩ v).setCell ⟨b, j, none⟩ u).heap.size = w.heap.size := by simp [World.setCell]
  have h := heap_alloc_new ((w.setCell ⟨b, i, none⟩ v).setCell ⟨b, j, none⟩ u) o
  rw [e] at h
  exact h
set_option maxRecDepth 100000 in
set_option maxHeartbeats 200000000 in
theorem objectR_step {N : Nat} (hN : N ≤ 100000) (IH : ApRC N) : ObRC (N + 1) := by
  intro E lo B n c rs t A ct g r X ht h hT hO hB
  obtain ⟨yF, hyF⟩ : ∃ y, y = obT (restK t.kids) t.kids r [] ((mkR rs g).lay ⟨1, 0, r, bs0, Tree.z, []⟩) := ⟨_, rfl⟩
  rw [← hyF]
  obtain ⟨rm, hrm⟩ : ∃ rm, restK t.kids = rm := ⟨_, rfl⟩
  rw [hrm] at hyF
  have FY := Lib.hid (show yF = obT rm (t.kids.drop 0) r [] (mkR (rs ++ [plR 1 0 r bs0]) g) by rw [hyF, List.drop_zero, mkR_lay])
  have B0 := Lib.hid (show 0 ≤ g ∧ rs.length ≤ 500000 ∧ Br (mkR (rs ++ [plR 1 0 r bs0]) g) (t.kids.drop 0) by
    have h1 := hB
    have h2 := sizeT_eq t
    unfold Bd at h1
    unfold Br
    simp only [mkR, List.length_map, List.length_append, List.length_cons, List.length_nil, List.drop_zero] at h1 ⊢
    omega)
  have HS := Lib.hid h
  have HT := Lib.hid hT
  have HO := Lib.hid hO
  have HL := Lib.hid (show t.kids.length ≤ 100000 by have := sizeK_len t.kids; have := sizeT_eq t; omega)
  have HZ := Lib.hid ht
  have RM := Lib.hid hrm
  have T0 := Lib.hid (OneB.start X (nodeO t (.slice A t.kids.length ct)))
  clear h hT hO hB ht hyF hrm
  go_enter Tryd.func32, Tryd.ntmps32
  go_upto_region 1 with fail
  refine wpd_world (fun Z => OneB X Z (nodeO t (.slice A t.kids.length ct))) T0.out ?_
  intro Z hZ
  have IZ := Lib.hid (show ArI E lo (.slice B n c) X (nodeO t (.slice A t.kids.length ct)) (.slice B n c) n rs Z from ⟨HS.out.below hZ.2, Rel.below hZ.2, hZ.1⟩)
  clear hZ T0
  go_upto_region 2 with (at_builtin; go_loud (refine wpList_appL elem_stepR rfl _ _ rfl lo rs [plR 1 0 r bs0] (k := 1) IZ.out.1.2.2.1 rfl (by decide) (by decide) (yv := .slice B n c) (b := Z.heap.size) rfl rfl (ownsRow_below IZ.out.1.2.2.2.1 (bl_al (Below.refl _ _) _)) (Nat.le_trans IZ.out.1.1 (bl_al (Below.refl _ _) _).size) (heap_alloc_new _ _) (fun x _ => one_step x) (by have h1 := B0.out.2.1; have h2 := HS.out.2.2.1; omega) (by decide) ?_; intro g5 m5 n5 w5 em o5 gr5 gw5 gl5; have S5 := Lib.hid (show ArI E lo (.slice B n c) X (nodeO t (.slice A t.kids.length ct)) (.slice (some ⟨g5, 0, none⟩) m5 n5) m5 (rs ++ [plR 1 0 r bs0]) w5 from by rw [em]; exact (IZ.out.below (bl_al (Below.refl _ _) _)).app rfl (fun x hx => by simp only [List.mem_cons, List.not_mem_nil, or_false] at hx; subst hx; exact plR_hold) o5 gr5 gw5);  clear o5 gr5 gw5 em))
  have S6 := Lib.hid (ObI.start S5.out)
  go_wp2
  go_simp
  go_loopw [0, 1, 11, 12] (fun v gv kv i V => ∃ (q m' n' nk : Nat) (B' Bk : Option Addr) (rs' : List StepR) (ks : List Int) (g' : Int), i = .int .i64 q ∧ v = .slice B' m' n' ∧ gv = .int .i64 g' ∧ kv = .slice Bk ks.length nk ∧ Hid (q ≤ t.kids.length ∧ yF = obT rm (t.kids.drop q) r ks (mkR rs' g') ∧ Br (mkR rs' g') (t.kids.drop q) ∧ ks.length ≤ 100000 + q) ∧ Hid (ObI E lo (.slice B n c) X (nodeO t (.slice A t.kids.length ct)) (.slice B' m' n') m' rs' (.slice Bk ks.length nk) ks V)) (fun _ _ _ i _ => t.kids.length - (intOf i).toNat)
  case atStart => exact ⟨0, m5, n5, 0, some ⟨g5, 0, none⟩, some ⟨w5.heap.size, 0, none⟩, rs ++ [plR 1 0 r bs0], [], g, rfl, rfl, rfl, rfl, Lib.hid ⟨Nat.zero_le _, FY.out, B0.out.2.2, Nat.zero_le _⟩, Lib.hid S6.out⟩
  case round =>
    clear S5 S6 IZ FY
    obtain ⟨q, m', n', nk, B', Bk, rs', ks, g', rfl, rfl, rfl, rfl, HQ, HI⟩ := hrel
    obtain ⟨⟨a0, a1, a2, a3, a4, a5⟩, _⟩ := cells6n HI.out.1.2.2
    have l0 := HI.out.1.lt
    by_cases hlt : q < t.kids.length
    · obtain ⟨d, hd⟩ : ∃ d, t.kids[q]? = some d := ⟨_, List.getElem?_eq_getElem hlt⟩
      have hdr := drop_cons hd
      have HR := Lib.hid (show yF = obT rm (d :: t.kids.drop (q + 1)) r ks (mkR rs' g') from by rw [← hdr]; exact HQ.out.2.1)
      have HBo := Lib.hid (show 0 ≤ g' ∧ g' + 2 * ((sizeT d + sizeK (t.kids.drop (q + 1)) : Nat) : Int) ≤ 499999 ∧ rs'.length + 4 * (sizeT d + sizeK (t.kids.drop (q + 1))) ≤ 499998 by
        have h1 := HQ.out.2.2.1
        rw [hdr] at h1
        unfold Br at h1
        rw [sizeK] at h1
        simp only [mkR, List.length_map] at h1
        exact h1)
      have q1 : (q : Int) < (t.kids.length : Int) := by omega
      have q3 : ¬ (q : Int) < 0 := by omega
      have hlow := HI.out.1.2.1.low HS.out.2.2 HS.out.1
      obtain ⟨b0, off0, cap0, A5, c5, e1, lb, hb0, hk0, f0⟩ := (nd_low HT.out HI.out.1.2.1.size hlow).at_ hd
      simp only [Value.slice.injEq] at e1
      obtain ⟨rfl, -, rfl⟩ := e1
      have DK := Lib.hid hk0
      obtain ⟨f0, f1, f2, f3, f4, f5⟩ := f0
      have LQ := Lib.hid (And.intro hlt hd)
      have kp1 : wrap64 ((q : Int) + 1) = ((q + 1 : Nat) : Int) := w64c (by omega) (by have := HL.out; omega)
      have kg' : wrap64 (g' + 1) = g' + 1 := (w64p (by have h1 := HBo.out; have h2 := sizeT_pos d; clear kp1; omega)).1
      have DS := Lib.hid (show sizeT d < N by have h1 := sizeT_kid (List.mem_of_getElem? hd); have h2 := HZ.out; clear kp1 kg'; omega)
      have DO := Lib.hid (HO.out.kid (List.mem_of_getElem? hd))
      clear hlt hd hdr hlow hk0 hb0
      go_upto_region 7 with fail
      refine wpd_world (fun V => V.heap[wr.heap.size]? = some (nodeO d (.slice A5 d.kids.length c5)) ∧ Below wr.heap.size wr V) ⟨heap_alloc_new _ _, by (repeat (with_reducible first | exact Below.refl _ _ | (refine bl_set ?_ (by first | omega | (simp; done) | (simp; omega)) _) | refine bl_gr ?_ _ | refine bl_al ?_ _ | refine below_setRow ?_ (by first | omega | (simp; done) | (simp; omega)) _ | refine bl_drewN ?_ _ | refine Below.drew ?_ | (refine bl_tr ?_ (by assumption))))⟩ ?_
      intro V hV
      have IV := Lib.hid (HI.out.below hV.2)
      have DV := Lib.hid (nd_low DK.out hV.2.size fun k hk => hV.2.block k (Nat.lt_of_lt_of_le hk HI.out.1.1.1))
      have VX := Lib.hid (And.intro hV.1 HI.out.1.lt)
      clear a0 a1 a2 a3 a4 a5 l0 f0 f1 f2 f3 f4 f5 lb
      obtain ⟨⟨a0, a1, a2, a3, a4, a5⟩, _⟩ := cells6n IV.out.1.2.2
      have l0 := IV.out.1.lt
      obtain ⟨⟨y0, y1, y2, y3, y4, y5⟩, yf⟩ := cells6n hV.1
      have l1 := (Array.getElem?_eq_some_iff.1 hV.1).1
      clear hV
      by_cases h64 : d.op = 64
      · have o64 : (d.op == 64) = true := beq_iff_eq.2 h64
        obtain ⟨ml, hml, kl⟩ : ∃ ml : Int, ml = (t.kids.length : Int) - 1 ∧ wrap64 ((t.kids.length : Int) - 1) = ml := ⟨_, rfl, (w64n (by have := HL.out; clear kp1 kg'; omega))⟩
        by_cases hok : t.kids.drop (q + 1) = [] ∧ d.kids.length = 1
        · have hq : q + 1 = t.kids.length := by have h1 := hok.1; have h2 := LQ.out.1; clear kp1 kg' kl; rw [List.drop_eq_nil_iff] at h1; omega
          have r1 : ¬ (q : Int) < ml := by clear kp1 kg' kl; omega
          have r2 : ((d.kids.length : Int) != 1) = false := by rw [hok.2]; decide
          have r3 : (0 : Int) < (d.kids.length : Int) := by rw [hok.2]; decide
          obtain ⟨d0, hd0⟩ : ∃ d0, d.kids = [d0] := by
            match hk : d.kids, hok.2 with
            | [a], _ => exact ⟨a, rfl⟩
          have RR := Lib.hid (show yF = apT d0 g' (mkR (rs' ++ [⟨⟨3, g', r, bs0, Tree.z, ks⟩, none, 0, Bk, nk⟩]) (g' + 1)) from by rw [mkR_lay, HR.out, hok.1]; exact robT_rest h64 hd0)
          have k0 : d.kids[0]? = some d0 := by rw [hd0]; rfl
          have SL := Lib.hid (show sizeT d0 < sizeT d from sizeT_kid (List.mem_of_getElem? k0))
          have DOO := Lib.hid (DO.out.kid (List.mem_of_getElem? k0))
          obtain ⟨b1, off1, cap1, A6, c6, e1, lb1, hb1, hk1, z0⟩ := DV.out.at_ k0
          simp only [Value.slice.injEq] at e1
          obtain ⟨rfl, -, rfl⟩ := e1
          rw [Nat.zero_mul, Nat.add_zero] at z0
          have D1 := Lib.hid (And.intro hk1 (And.intro z0 hb1))
          have IE := Lib.hid (show ArI E lo (.slice B n c) X (nodeO t (.slice (some ⟨b0, off0, none⟩) t.kids.length ct)) (.slice B' m' n') m' rs' V from ⟨IV.out.1.1.exch (fun b _ e => .inl e) (fun b e => IV.out.1.1.2.1 b (.inl e)), IV.out.1.2.1, IV.out.1.2.2⟩)
          have HK3 := Lib.hid (show IsKs E lo V (.slice Bk ks.length nk) ks from KsRow.ks (own_weak IV.out.2 (Nat.le_succ_of_le HS.out.1)) fun gg hg e => by have h1 := HS.out.2.1 gg e; have h2 := (own_ltN IV.out.2 gg hg).1; omega)
          clear hok hd0 k0 hk1 hb1 h64 hml hq z0
          go_upto_region 11 with (at_builtin; go_loud (refine wpList_appL elem_stepR rfl _ _ rfl lo rs' [⟨⟨3, g', r, bs0, Tree.z, ks⟩, none, 0, Bk, nk⟩] (k := 1) IE.out.1.2.2.1 rfl (by decide) (by decide) (yv := .slice B' m' n') (b := V.heap.size) rfl rfl (ownsRow_below IE.out.1.2.2.2.1 (bl_al (Below.refl _ _) _)) (Nat.le_trans IE.out.1.1 (bl_al (Below.refl _ _) _).size) (heap_alloc_new _ _) (fun x _ => one_step x) (by have h1 := HBo.out.2.2; have h2 := IE.out.1.2.2.1; clear kp1 kg' kl; omega) (by decide) ?_; intro g5 m5 n5 w5 em o5 gr5 gw5 gl5; have S5 := Lib.hid (show ArI E lo (.slice B n c) X (nodeO t (.slice (some ⟨b0, off0, none⟩) t.kids.length ct)) (.slice (some ⟨g5, 0, none⟩) m5 n5) m5 (rs' ++ [⟨⟨3, g', r, bs0, Tree.z, ks⟩, none, 0, Bk, nk⟩]) w5 from by rw [em]; exact (IE.out.below (bl_al (Below.refl _ _) _)).app rfl (fun x hx => by rw [List.mem_singleton.1 hx]; exact ⟨.nil, HK3.out.keep (bl_al (Below.refl _ _) _).size fun b _ hl => (bl_al (Below.refl V.heap.size V) _).block b hl⟩) o5 gr5 gw5); have X5 := Lib.hid (show w5.heap[wr.heap.size]? = some (nodeO d (.slice (some ⟨b1, off1, none⟩) d.kids.length c5)) from (Rel.app (n := 0) (c := 0) gr5 gw5).box (IE.out.below (bl_al (Below.refl _ _) _)).1.2.2 (((bl_al (Below.refl V.heap.size V) _).block _ (Array.getElem?_eq_some_iff.1 VX.out.1).1).trans VX.out.1) (by decide)); have S5s := Lib.hid (show V.heap.size ≤ w5.heap.size from Nat.le_trans (bl_al (Below.refl _ _) _).size (touch_grownE gr5).size); have S5l := Lib.hid (fun k (hk : k < lo) => (S5.out.low HS.out k hk).trans (IE.out.low HS.out k hk).symm); clear o5 gr5 gw5 em))
          clear a0 a1 a2 a3 a4 a5 l0 y0 y1 y2 y3 y4 y5 yf l1 lb1
          obtain ⟨⟨y0, y1, y2, y3, y4, y5⟩, yf⟩ := cells6n X5.out
          have l1 := (Array.getElem?_eq_some_iff.1 X5.out).1
          obtain ⟨z0, z1, z2, z3, z4, z5⟩ := (show AtN w5 b1 off1 d0 (.slice A6 d0.kids.length c6) from by
            obtain ⟨h0, h1, h2, h3, h4, h5⟩ := D1.out.2.1
            have f := fun j => World.cell?_of_block (a := ⟨b1, j, none⟩) (S5l.out b1 D1.out.2.2)
            exact ⟨(f _).trans h0, (f _).trans h1, (f _).trans h2, (f _).trans h3, (f _).trans h4, (f _).trans h5⟩)
          have lb1 : b1 < w5.heap.size := Nat.lt_of_lt_of_le (Nat.lt_of_lt_of_le D1.out.2.2 IE.out.1.1) S5s.out
          have IC := Lib.hid (IH E lo (some ⟨g5, 0, none⟩) m5 n5 (rs' ++ [⟨⟨3, g', r, bs0, Tree.z, ks⟩, none, 0, Bk, nk⟩]) d0 A6 c6 (g' + 1) g' w5 (by have h1 := DS.out; have h2 := SL.out; clear kp1 kg' kl; omega) S5.out.1 (nd_low D1.out.1 S5s.out (fun k hk => S5l.out k hk)) DOO.out (by have h1 := HBo.out; have h2 := SL.out; clear kp1 kg' kl; unfold Bd; simp only [mkR, List.length_map, List.length_append, List.length_cons, List.length_nil]; omega))
          rw [← RR.out] at IC
          cases hyb : yF.b with
          | true =>
            have HY := Lib.hid hyb
            clear hyb
            go_wp2_with (go_at_call 25; go_loud (refine (IC.out.mono fun e Y h => h.bad HY.out).mono ?_; rintro e Y ⟨rfl, r8⟩; have H8 := Lib.hid (S5.out.2.1.trans r8); clear r8))
            go_ret3
            exact .inl ⟨HY.out, rfl, H8.out⟩
          | false =>
            have HY := Lib.hid hyb
            clear hyb
            go_wp2_with (go_at_call 25; go_loud (refine (IC.out.mono fun e Y h => h.good HY.out).mono ?_; rintro e Y ⟨B8, n8, c8, rs8, rfl, h8, m8, r8⟩; have H8 := Lib.hid (And.intro h8 (And.intro m8 (S5.out.2.1.trans r8))); clear h8 m8 r8))
            go_ret3
            exact .inr ⟨HY.out, B8, n8, c8, rs8, rfl, H8.out.1, H8.out.2.1, H8.out.2.2⟩
        · have BF := Lib.hid (show yF.b = true by rw [HR.out]; exact robT_rbad h64 hok)
          by_cases hq : q + 1 = t.kids.length
          · have r1 : ¬ (q : Int) < ml := by clear kp1 kg' kl; omega
            have r2 : ((d.kids.length : Int) != 1) = true := by
              rw [bne_iff_ne]
              intro e
              exact hok ⟨List.drop_of_length_le (by omega), by clear kp1 kg' kl; omega⟩
            clear hok hml hq h64
            go_wp2
            go_ret3
            exact .inl ⟨BF.out, rfl, IV.out.1.2.1.toNil⟩
          · have r1 : (q : Int) < ml := by have := LQ.out.1; clear kp1 kg' kl; omega
            clear hok hml hq h64
            go_wp2
            go_ret3
            exact .inl ⟨BF.out, rfl, IV.out.1.2.1.toNil⟩
      · by_cases h62 : d.op = 62 ∧ d.kids.length = 2
        · have o64 : (d.op == 64) = false := beq_eq_false_iff_ne.2 h64
          have o62 : (d.op != 62) = false := by rw [h62.1]; decide
          have g1 : ((d.kids.length : Int) != 2) = false := by rw [h62.2]; decide
          have g2 : (0 : Int) < (d.kids.length : Int) := by rw [h62.2]; decide
          have g3 : (1 : Int) < (d.kids.length : Int) := by rw [h62.2]; decide
          obtain ⟨e0, e1, hde⟩ : ∃ e0 e1, d.kids = [e0, e1] := by
            match hk : d.kids, h62.2 with
            | [a, b], _ => exact ⟨a, b, rfl⟩
          have k0 : d.kids[0]? = some e0 := by rw [hde]; rfl
          have k1 : d.kids[1]? = some e1 := by rw [hde]; rfl
          obtain ⟨b1, off1, cap1, A6, c6, ee, lb1, hb1, hk1, z0⟩ := DV.out.at_ k0
          simp only [Value.slice.injEq] at ee
          obtain ⟨rfl, -, rfl⟩ := ee
          obtain ⟨b2, off2, cap2, A7, c7, ee, _, _, hk2, v0⟩ := DV.out.at_ k1
          simp only [Value.slice.injEq, Option.some.injEq, Addr.mk.injEq, and_true] at ee
          obtain ⟨⟨rfl, rfl⟩, -⟩ := ee
          rw [Nat.zero_mul, Nat.add_zero] at z0
          rw [Nat.one_mul] at v0
          have D0 := Lib.hid (And.intro hk1 (And.intro z0 hb1))
          have D1 := Lib.hid (And.intro hk2 v0)
          obtain ⟨z0, z1, z2, z3, z4, z5⟩ := z0
          have OE := Lib.hid (And.intro (DO.out.kid (List.mem_of_getElem? k0)) (DO.out.kid (List.mem_of_getElem? k1)))
          have SL := Lib.hid (show sizeT e1 + 2 ≤ sizeT d from by have h1 := sizeT_eq d; have h2 := sizeT_pos e0; rw [hde] at h1; simp only [sizeK] at h1; clear kp1 kg'; omega)
          have HD := Lib.hid (And.intro h62.1 hde)
          clear k0 k1 hk1 hk2 hb1 v0 h64 h62 hde
          go_upto_region 15 with fail
          refine wpd_world (fun U => U.heap[V.heap.size]? = some (nodeO e0 (.slice A6 e0.kids.length c6)) ∧ Below V.heap.size V U) ⟨heap_alloc_new _ _, by (repeat (with_reducible first | exact Below.refl _ _ | (refine bl_set ?_ (by first | omega | (simp; done) | (simp; omega)) _) | refine bl_gr ?_ _ | refine bl_al ?_ _ | refine below_setRow ?_ (by first | omega | (simp; done) | (simp; omega)) _ | refine bl_drewN ?_ _ | refine Below.drew ?_ | (refine bl_tr ?_ (by assumption))))⟩ ?_
          intro U hU
          have IU := Lib.hid (IV.out.below hU.2)
          have UB := Lib.hid hU
          have WK := Lib.hid ((hU.2.block _ (Array.getElem?_eq_some_iff.1 VX.out.1).1).trans VX.out.1)
          clear a0 a1 a2 a3 a4 a5 l0 y0 y1 y2 y3 y4 y5 yf l1 z0 z1 z2 z3 z4 z5 lb1
          obtain ⟨⟨a0, a1, a2, a3, a4, a5⟩, _⟩ := cells6n IU.out.1.2.2
          have l0 := IU.out.1.lt
          obtain ⟨⟨y0, y1, y2, y3, y4, y5⟩, yf⟩ := cells6n WK.out
          have l1 := (Array.getElem?_eq_some_iff.1 WK.out).1
          obtain ⟨⟨x0, x1, x2, x3, x4, x5⟩, xf⟩ := cells6n hU.1
          have l2 := (Array.getElem?_eq_some_iff.1 hU.1).1
          clear hU
          have RL := Lib.hid (show rs'.length ≤ 499998 from by have h1 := HBo.out.2.2; clear kp1 kg'; omega)
          by_cases hm : d.m = 1
          · have om : (d.m != 1) = false := by rw [hm]; decide
            have om2 : (d.m == 1) = true := beq_iff_eq.2 hm
            go_upto_region 18 with fail
            refine wpd_world (fun S => S.heap[U.heap.size]? = some (stepRO (plR 2 0 r bs0)) ∧ Below U.heap.size U S) ⟨heap_alloc_new _ _, by (repeat (with_reducible first | exact Below.refl _ _ | (refine bl_set ?_ (by first | omega | (simp; done) | (simp; omega)) _) | refine bl_gr ?_ _ | refine bl_al ?_ _ | refine below_setRow ?_ (by first | omega | (simp; done) | (simp; omega)) _ | refine bl_drewN ?_ _ | refine Below.drew ?_ | (refine bl_tr ?_ (by assumption))))⟩ ?_
            intro S hS
            have IS := Lib.hid (IU.out.below hS.2)
            have SB := Lib.hid hS.1
            have WD := Lib.hid ((hS.2.block _ (Array.getElem?_eq_some_iff.1 WK.out).1).trans WK.out)
            have WE := Lib.hid ((hS.2.block _ (Array.getElem?_eq_some_iff.1 UB.out.1).1).trans UB.out.1)
            have RNE := Lib.hid (fun g (hg : (Value.slice B' m' n').ownBlock = some g) => (own_ltN IU.out.1.1.2.2.2.1 g hg).2)
            have SB0 := SB
            have SU := Lib.hid (show S.heap.size = S.heap.size from rfl)
            have RTS := Lib.hid (fun W (hW : Below S.heap.size S W) => by have h1 := rests_any (fun b => b < lo) t (some ⟨b0, off0, none⟩) ct W ((nd_low HT.out IS.out.1.2.1.size (IS.out.1.2.1.low HS.out.2.2 HS.out.1)).bel hW); rw [RM.out] at h1; exact h1)
            clear a0 a1 a2 a3 a4 a5 l0 y0 y1 y2 y3 y4 y5 yf l1 x0 x1 x2 x3 x4 x5 xf l2
            obtain ⟨⟨a0, a1, a2, a3, a4, a5⟩, _⟩ := cells6n IS.out.1.2.2
            have l0 := IS.out.1.lt
            obtain ⟨⟨y0, y1, y2, y3, y4, y5⟩, _⟩ := cells6n WD.out
            have l1 := (Array.getElem?_eq_some_iff.1 WD.out).1
            obtain ⟨⟨x0, x1, x2, x3, x4, x5⟩, _⟩ := cells6n WE.out
            have l2 := (Array.getElem?_eq_some_iff.1 WE.out).1
            have sf : ∀ j, S.frozen? ⟨U.heap.size, j, none⟩ = false := fun j => frozen_of_row S _ j _ _ SB.out
            obtain ⟨⟨s0, s1, s2, s3, s4, s5, s6, s7, s8, s9, s10⟩, _⟩ := cells11q (d := ⟨2, 0, r, bs0, Tree.z, []⟩) (A1 := none) (c1 := 0) (A2 := none) (c2 := 0) SB.out
            have l3 := (Array.getElem?_eq_some_iff.1 SB.out).1
            clear hS
            obtain ⟨g2, hg2⟩ : ∃ x, x = g' + 1 := ⟨_, rfl⟩
            have kg3 : wrap64 (g' + 1) = g2 := by rw [hg2]; exact kg'
            clear kg'
            have kg' := kg3
            clear kg3
            have kg2 : wrap64 (g2 + 1) = g2 + 1 := (w64p (by have h1 := HBo.out; have h2 := SL.out; clear kp1 kg'; omega)).1
            have HG := Lib.hid hg2
            have RR := Lib.hid (show yF = obT rm (t.kids.drop (q + 1)) r (ks ++ [g']) (apT e1 g2 (mkR (rs' ++ [⟨⟨11, g', 0, bs0, e0, []⟩, A6, c6, none, 0⟩] ++ [⟨⟨2, g2, r, bs0, Tree.z, [g']⟩, none, 0, none, 0⟩]) (g2 + 1))) by rw [HR.out, robT_m1 HD.out.1 HD.out.2 hm, ← hg2]; simp [mkR, Mk.lay, Mk.next])
            have HD0 := Lib.hid (nd_low D0.out.1 (show V.heap.size ≤ S.heap.size from by have h1 := (Array.getElem?_eq_some_iff.1 WE.out).1; clear kp1 kg' kg2; omega) (fun k hk => (IS.out.1.2.1.low HS.out.2.2 HS.out.1 k hk).trans (IV.out.1.2.1.low HS.out.2.2 HS.out.1 k hk).symm))
            clear hm hg2 RTS
            go_upto_region 23 with (at_builtin; go_loud (refine wpList_appL elem_stepR rfl _ _ rfl lo (rs') [⟨⟨11, g', 0, bs0, e0, []⟩, A6, c6, none, 0⟩] (k := 1) IS.out.1.1.2.2.1 rfl (by decide) (by decide) (yv := .slice B' m' n') (b := S.heap.size) rfl rfl (ownsRow_below IS.out.1.1.2.2.2.1 (bl_al (Below.refl _ _) _)) (Nat.le_trans IS.out.1.1.1 (bl_al (Below.refl _ _) _).size) (heap_alloc_new _ _) (fun x _ => one_step x) (by have h1 := HBo.out.2.2; have h2 := IS.out.1.1.2.2.1; have h3 := RL.out; clear kp1 kg' kg2; (try simp only [List.length_append, List.length_cons, List.length_nil] at h2); omega) (by decide) ?_; intro g5 m5 n5 w5 em ow gr gw gl; have S5 := Lib.hid (show ObI E lo (.slice B n c) X (nodeO t (.slice (some ⟨b0, off0, none⟩) t.kids.length ct)) (.slice (some ⟨g5, 0, none⟩) m5 n5) m5 (rs' ++ [⟨⟨11, g', 0, bs0, e0, []⟩, A6, c6, none, 0⟩]) (.slice Bk ks.length nk) (ks) w5 from by rw [em]; exact (IS.out.below (bl_al (Below.refl _ _) _)).app rfl (fun x hx => by rw [List.mem_singleton.1 hx]; exact ⟨HD0.out.bel (bl_al (Below.refl _ _) _), IsKs.nil⟩) ow gr gw); have KP5 := Lib.hid (show ∀ b, b < S.heap.size → ¬ (Value.ownBlock (.slice B' m' n')) = some b → w5.heap[b]? = S.heap[b]? from fun b hb hn => ((touch_grownE gr).block b (Nat.lt_of_lt_of_le hb (bl_al (Below.refl _ _) _).size) hn).trans ((bl_al (Below.refl S.heap.size S) _).block b hb)); have GW5 := Lib.hid (show (Value.ownBlock (.slice B' m' n')) = some g5 ∨ S.heap.size ≤ g5 from gw.imp id fun e => by rw [e]; exact (bl_al (Below.refl _ _) _).size);  clear ow gr gw em))
            have D5 := Lib.hid ((KP5.out _ (Array.getElem?_eq_some_iff.1 WD.out).1 (IS.out.1.1.2.2.typ WD.out (by decide))).trans WD.out)
            have B5 := Lib.hid ((KP5.out _ (Array.getElem?_eq_some_iff.1 SB.out).1 (fun e => Nat.lt_irrefl _ (RNE.out _ e))).trans SB.out)
            clear a0 a1 a2 a3 a4 a5 l0 y0 y1 y2 y3 y4 y5 l1 x0 x1 x2 x3 x4 x5 l2 s0 s1 s2 s3 s4 s5 s6 s7 s8 s9 s10 sf l3
            obtain ⟨⟨a0, a1, a2, a3, a4, a5⟩, _⟩ := cells6n S5.out.1.2.2
            have l0 := S5.out.1.lt
            obtain ⟨⟨y0, y1, y2, y3, y4, y5⟩, _⟩ := cells6n D5.out
            have l1 := (Array.getElem?_eq_some_iff.1 D5.out).1
            have sf : ∀ j, w5.frozen? ⟨U.heap.size, j, none⟩ = false := fun j => frozen_of_row w5 _ j _ _ B5.out
            obtain ⟨⟨s0, s1, s2, s3, s4, s5, s6, s7, s8, s9, s10⟩, _⟩ := cells11q (d := ⟨2, 0, r, bs0, Tree.z, []⟩) (A1 := none) (c1 := 0) (A2 := none) (c2 := 0) B5.out
            have l3 := (Array.getElem?_eq_some_iff.1 B5.out).1
            go_upto_region 24 with fail
            go_upto_region 25 with (at_builtin; go_loud (refine wpList_appL elem_int rfl _ _ rfl (X.heap.size + 1) ks [g'] (k := 1) rfl rfl (by decide) (by decide) (yv := .slice Bk ks.length nk) (b := w5.heap.size) rfl rfl (ownsRow_below S5.out.2 (bl_al (Below.refl _ _) _)) (Nat.le_trans (show X.heap.size + 1 ≤ w5.heap.size from S5.out.1.lt) (bl_al (Below.refl _ _) _).size) (heap_alloc_new _ _) (fun x _ => one_int x) (by have h1 := HQ.out.2.2.2; have h2 := LQ.out.1; have h3 := HL.out; clear kp1 kg' kg2; omega) (by decide) ?_; intro g7 m7 n7 w7 em ow gr gw gl; have KM := Lib.hid (show m7 = (ks ++ [g']).length from by rw [em]; simp); have S7 := Lib.hid (show ObI E lo (.slice B n c) X (nodeO t (.slice (some ⟨b0, off0, none⟩) t.kids.length ct)) (.slice (some ⟨g5, 0, none⟩) m5 n5) m5 (rs' ++ [⟨⟨11, g', 0, bs0, e0, []⟩, A6, c6, none, 0⟩]) (.slice (some ⟨g7, 0, none⟩) m7 n7) (ks ++ [g']) w7 from by rw [KM.out]; exact (S5.out.below (bl_al (Below.refl _ _) _)).key HS.out.1 (by rw [show (ks ++ [g']).length = ks.length + 1 by simp]; exact ow) gr gw); have KP7 := Lib.hid (show ∀ b, b < w5.heap.size → ¬ (Value.slice Bk ks.length nk).ownBlock = some b → w7.heap[b]? = w5.heap[b]? from fun b hb hn => ((touch_grownE gr).block b (Nat.lt_of_lt_of_le hb (bl_al (Below.refl _ _) _).size) hn).trans ((bl_al (Below.refl w5.heap.size w5) _).block b hb)); clear ow gr gw em))
            have B7 := Lib.hid ((KP7.out _ (Array.getElem?_eq_some_iff.1 B5.out).1 (own_not S5.out.2 B5.out (by decide))).trans B5.out)
            have D7 := Lib.hid ((KP7.out _ (Array.getElem?_eq_some_iff.1 D5.out).1 (own_not S5.out.2 D5.out (by decide))).trans D5.out)
            clear a0 a1 a2 a3 a4 a5 l0 y0 y1 y2 y3 y4 y5 l1 s0 s1 s2 s3 s4 s5 s6 s7 s8 s9 s10 sf l3
            obtain ⟨⟨a0, a1, a2, a3, a4, a5⟩, _⟩ := cells6n S7.out.1.2.2
            have l0 := S7.out.1.lt
            obtain ⟨⟨y0, y1, y2, y3, y4, y5⟩, _⟩ := cells6n D7.out
            have l1 := (Array.getElem?_eq_some_iff.1 D7.out).1
            have sf : ∀ j, w7.frozen? ⟨U.heap.size, j, none⟩ = false := fun j => frozen_of_row w7 _ j _ _ B7.out
            obtain ⟨⟨s0, s1, s2, s3, s4, s5, s6, s7, s8, s9, s10⟩, _⟩ := cells11q (d := ⟨2, 0, r, bs0, Tree.z, []⟩) (A1 := none) (c1 := 0) (A2 := none) (c2 := 0) B7.out
            have l3 := (Array.getElem?_eq_some_iff.1 B7.out).1
            go_upto_region 28 with fail
            refine wpd_world (fun Z => Z.heap[U.heap.size]? = some (stepRO ⟨⟨2, g2, r, bs0, Tree.z, [g']⟩, none, 0, some ⟨w7.heap.size, 0, none⟩, 1⟩) ∧ Touch (fun b => b = U.heap.size) w7 Z ∧ Z.heap[w7.heap.size]? = some (Obj.cells #[.int .i64 g'] 3)) ⟨two_box B7.out, Touch.alloc (Touch.set1 (Touch.set1 (Touch.refl _ _) _ _) _ _) _, two_new⟩ ?_
            intro Z hZ
            have IZ := Lib.hid (S7.out.stepBox HS.out.1 B7.out (show X.heap.size < U.heap.size from IU.out.1.lt) (fun g hg e => by
              simp only [Value.ownBlock, Option.some.injEq] at hg
              have h1 := (Array.getElem?_eq_some_iff.1 SB0.out).1
              clear kp1 kg' kg2
              rcases GW5.out with h | h
              · have := RNE.out _ h
                omega
              · omega) hZ.2.1)
            have ZB := Lib.hid hZ.1
            have ZD := Lib.hid ((hZ.2.1.block _ (Array.getElem?_eq_some_iff.1 D7.out).1 (Nat.ne_of_lt (Array.getElem?_eq_some_iff.1 WK.out).1)).trans D7.out)
            have HK9 := Lib.hid (show IsKs (exK E (.slice (some ⟨g7, 0, none⟩) m7 n7)) lo Z (.slice (some ⟨w7.heap.size, 0, none⟩) 1 1) [g'] from ⟨sl_oneE (en := intCs) hZ.2.2 rfl, fun a n c e _ => by
              cases e
              exact ⟨S7.out.1.1.1, fun e => Nat.lt_irrefl _ (S7.out.1.1.2.1 _ e), _, hZ.2.2⟩⟩)
            clear a0 a1 a2 a3 a4 a5 l0 y0 y1 y2 y3 y4 y5 l1 s0 s1 s2 s3 s4 s5 s6 s7 s8 s9 s10 sf l3 hZ
            obtain ⟨⟨s0, s1, s2, s3, s4, s5, s6, s7, s8, s9, s10⟩, _⟩ := cells11q (d := ⟨2, g2, r, bs0, Tree.z, [g']⟩) (A1 := none) (c1 := 0) (A2 := some ⟨w7.heap.size, 0, none⟩) (c2 := 1) ZB.out
            have l3 := (Array.getElem?_eq_some_iff.1 ZB.out).1
            go_upto_region 29 with (at_builtin; go_loud (refine wpList_appL elem_stepR rfl _ _ rfl lo (rs' ++ [⟨⟨11, g', 0, bs0, e0, []⟩, A6, c6, none, 0⟩]) [⟨⟨2, g2, r, bs0, Tree.z, [g']⟩, none, 0, some ⟨w7.heap.size, 0, none⟩, 1⟩] (k := 1) IZ.out.1.1.2.2.1 rfl (by decide) (by decide) (yv := .slice (some ⟨g5, 0, none⟩) m5 n5) (b := Z.heap.size) rfl rfl (ownsRow_below IZ.out.1.1.2.2.2.1 (bl_al (Below.refl _ _) _)) (Nat.le_trans IZ.out.1.1.1 (bl_al (Below.refl _ _) _).size) (heap_alloc_new _ _) (fun x _ => one_step x) (by have h1 := HBo.out.2.2; have h2 := IZ.out.1.1.2.2.1; have h3 := RL.out; clear kp1 kg' kg2; (try simp only [List.length_append, List.length_cons, List.length_nil] at h2); omega) (by decide) ?_; intro g9 m9 n9 w9 em ow gr gw gl; have S9 := Lib.hid (show ObI E lo (.slice B n c) X (nodeO t (.slice (some ⟨b0, off0, none⟩) t.kids.length ct)) (.slice (some ⟨g9, 0, none⟩) m9 n9) m9 (rs' ++ [⟨⟨11, g', 0, bs0, e0, []⟩, A6, c6, none, 0⟩] ++ [⟨⟨2, g2, r, bs0, Tree.z, [g']⟩, none, 0, some ⟨w7.heap.size, 0, none⟩, 1⟩]) (.slice (some ⟨g7, 0, none⟩) m7 n7) (ks ++ [g']) w9 from by rw [em]; exact (IZ.out.below (bl_al (Below.refl _ _) _)).app rfl (fun x hx => by rw [List.mem_singleton.1 hx]; exact ⟨.nil, HK9.out.keep (bl_al (Below.refl _ _) _).size fun b _ hl => (bl_al (Below.refl _ _) _).block b hl⟩) ow gr gw); have KP9 := Lib.hid (show ∀ b, b < Z.heap.size → ¬ (Value.ownBlock (.slice (some ⟨g5, 0, none⟩) m5 n5)) = some b → w9.heap[b]? = Z.heap[b]? from fun b hb hn => ((touch_grownE gr).block b (Nat.lt_of_lt_of_le hb (bl_al (Below.refl _ _) _).size) hn).trans ((bl_al (Below.refl Z.heap.size Z) _).block b hb)); have GW9 := Lib.hid (show (Value.ownBlock (.slice (some ⟨g5, 0, none⟩) m5 n5)) = some g9 ∨ Z.heap.size ≤ g9 from gw.imp id fun e => by rw [e]; exact (bl_al (Below.refl _ _) _).size); have L9 := Lib.hid (show Z.heap.size ≤ w9.heap.size from Nat.le_trans (bl_al (Below.refl _ _) _).size (touch_grownE gr).size); clear ow gr gw em))
            have X9 := Lib.hid ((KP9.out _ (Array.getElem?_eq_some_iff.1 ZD.out).1 (IZ.out.1.1.2.2.typ ZD.out (by decide))).trans ZD.out)
            have S9s := Lib.hid (show V.heap.size ≤ w9.heap.size from by have h1 := (Array.getElem?_eq_some_iff.1 UB.out.1).1; have h2 := (Array.getElem?_eq_some_iff.1 ZB.out).1; have h3 := L9.out; clear kp1 kg' kg2; omega)
            have S9l := Lib.hid (fun k (hk : k < lo) => (S9.out.1.2.1.low HS.out.2.2 HS.out.1 k hk).trans (IV.out.1.2.1.low HS.out.2.2 HS.out.1 k hk).symm)
            clear s0 s1 s2 s3 s4 s5 s6 s7 s8 s9 s10 l3
            obtain ⟨⟨y0, y1, y2, y3, y4, y5⟩, _⟩ := cells6n X9.out
            have l1 := (Array.getElem?_eq_some_iff.1 X9.out).1
            obtain ⟨v0, v1, v2, v3, v4, v5⟩ := (show AtN w9 b1 (off1 + 6) e1 (.slice A7 e1.kids.length c7) from by
              obtain ⟨h0, h1, h2, h3, h4, h5⟩ := D1.out.2
              have f := fun j => World.cell?_of_block (a := ⟨b1, j, none⟩) (S9l.out b1 D0.out.2.2)
              exact ⟨(f _).trans h0, (f _).trans h1, (f _).trans h2, (f _).trans h3, (f _).trans h4, (f _).trans h5⟩)
            have lb1 : b1 < w9.heap.size := Nat.lt_of_lt_of_le (Nat.lt_of_lt_of_le D0.out.2.2 IV.out.1.1.1) S9s.out
            have IC := Lib.hid (IH (exK E (.slice (some ⟨g7, 0, none⟩) m7 n7)) lo (some ⟨g9, 0, none⟩) m9 n9 (rs' ++ [⟨⟨11, g', 0, bs0, e0, []⟩, A6, c6, none, 0⟩] ++ [⟨⟨2, g2, r, bs0, Tree.z, [g']⟩, none, 0, some ⟨w7.heap.size, 0, none⟩, 1⟩]) e1 A7 c7 (g2 + 1) g2 w9 (by have h1 := DS.out; have h2 := SL.out; clear kp1 kg' kg2; omega) S9.out.1.1 (nd_low D1.out.1 S9s.out (fun k hk => S9l.out k hk)) OE.out.2 (by have h1 := HBo.out; have h2 := SL.out; have h3 := HG.out; clear kp1 kg' kg2; unfold Bd; simp only [mkR, List.length_map, List.length_append, List.length_cons, List.length_nil]; omega))
            obtain ⟨y8, hy8⟩ : ∃ y, y = apT e1 g2 (mkR (rs' ++ [⟨⟨11, g', 0, bs0, e0, []⟩, A6, c6, none, 0⟩] ++ [⟨⟨2, g2, r, bs0, Tree.z, [g']⟩, none, 0, some ⟨w7.heap.size, 0, none⟩, 1⟩]) (g2 + 1)) := ⟨_, rfl⟩
            rw [← hy8] at IC
            have RF := Lib.hid (show yF = obT rm (t.kids.drop (q + 1)) r (ks ++ [g']) y8 by rw [hy8]; exact RR.out.trans (by first | (simp only [mkR, List.map_append, List.map_cons, List.map_nil]; done) | rfl))
            have BN := Lib.hid (show 0 ≤ y8.g ∧ y8.g + 2 * (sizeK (t.kids.drop (q + 1)) : Nat) ≤ 499999 ∧ y8.l.length + 4 * sizeK (t.kids.drop (q + 1)) ≤ 499998 by have h0 := ap_bound e1 g2 (mkR (rs' ++ [⟨⟨11, g', 0, bs0, e0, []⟩, A6, c6, none, 0⟩] ++ [⟨⟨2, g2, r, bs0, Tree.z, [g']⟩, none, 0, some ⟨w7.heap.size, 0, none⟩, 1⟩]) (g2 + 1)); rw [← hy8] at h0; unfold AddsT at h0; have h1 := HBo.out; have h2 := SL.out; have h3 := HG.out; clear kp1 kg' kg2; simp only [mkR, List.length_map, List.length_append, List.length_cons, List.length_nil] at h0; omega)
            clear hy8
            cases hyb : y8.b with
            | true =>
              have HY := Lib.hid hyb
              have BF := Lib.hid (show yF.b = true by rw [RF.out]; exact bad_all.2.2.2.1 _ _ _ _ _ hyb)
              clear hyb
              go_wp2_with (go_at_call 25; go_loud (refine (IC.out.mono fun e Y h => h.bad HY.out).mono ?_; rintro e Y ⟨rfl, r8⟩; have H8 := Lib.hid (S9.out.1.2.1.trans r8); clear r8))
              go_ret3
              exact .inl ⟨BF.out, rfl, H8.out⟩
            | false =>
              have HY := Lib.hid hyb
              clear hyb
              go_wp2_with (go_at_call 25; go_loud (refine (IC.out.mono fun e Y h => h.good HY.out).mono ?_; rintro e Y ⟨B8, n8, c8, rs8, rfl, h8, m8, r8⟩; have H8 := Lib.hid (And.intro (S9.out.call h8 r8) (mkR_eq m8 HY.out)); clear h8 m8 r8))
              go_roundw
              case rel => exact ⟨q + 1, n8, c8, n7, B8, some ⟨g7, 0, none⟩, rs8, ks ++ [g'], y8.g, by first | with_reducible rfl | (rw [kp1]; done), rfl, rfl, by rw [KM.out], Lib.hid ⟨LQ.out.1, by rw [H8.out.2]; exact RF.out, by rw [H8.out.2]; exact BN.out, by have h1 := HQ.out.2.2.2; clear kp1 kg' kg2; simp only [List.length_append, List.length_cons, List.length_nil]; omega⟩, Lib.hid (by rw [← KM.out]; exact H8.out.1)⟩
              case measure => (first | ((try rw [kp1]); exact meas_c rfl LQ.out.1) | (clear kp1 kg' kg2; have := LQ.out.1; simp only [intOf]; omega))
          · have om : (d.m != 1) = true := bne_iff_ne.2 hm
            have om2 : (d.m == 1) = false := beq_eq_false_iff_ne.2 hm
            cases hko : keyOk e0 with
            | false =>
              have BF := Lib.hid (show yF.b = true by rw [HR.out]; exact robT_bad2 HD.out.1 HD.out.2 hm hko)
              unfold keyOk at hko
              rw [Bool.or_eq_false_iff] at hko
              have p1 : (e0.op != 31) = true := by rw [bne, hko.1]; rfl
              have p2 : (e0.op != 30) = true := by rw [bne, hko.2]; rfl
              clear hko hm
              go_wp2
              go_ret3
              exact .inl ⟨BF.out, rfl, IU.out.1.2.1.toNil⟩
            | true =>
              have HM := Lib.hid (And.intro hm hko)
              have CA := Lib.hid (fun W => called_any e0 (.slice A6 e0.kids.length c6) W (OE.out.1.at_ (List.mem_singleton.2 rfl)).2.2.1)
              have pp : (e0.op != 31) = false ∨ ((e0.op != 31) = true ∧ (e0.op != 30) = false) := by
                unfold keyOk at hko
                rw [bne, bne]
                cases h31 : (e0.op == 31) with
                | true => exact .inl rfl
                | false => rw [h31, Bool.false_or] at hko; exact .inr ⟨rfl, by rw [hko]; rfl⟩
              clear hm hko
              cases rm with
              | true =>
                rcases pp with p1 | ⟨p1, p2⟩
                · go_upto_region 18 with fail
                  refine wpd_world (fun S => S.heap[U.heap.size]? = some (stepRO (plR 2 0 r bs0)) ∧ Below U.heap.size U S) ⟨heap_alloc_new _ _, by (repeat (with_reducible first | exact Below.refl _ _ | (refine bl_set ?_ (by first | omega | (simp; done) | (simp; omega)) _) | refine bl_gr ?_ _ | refine bl_al ?_ _ | refine below_setRow ?_ (by first | omega | (simp; done) | (simp; omega)) _ | refine bl_drewN ?_ _ | refine Below.drew ?_ | (refine bl_tr ?_ (by assumption))))⟩ ?_
                  intro S hS
                  have IS := Lib.hid (IU.out.below hS.2)
                  have SB := Lib.hid hS.1
                  have WD := Lib.hid ((hS.2.block _ (Array.getElem?_eq_some_iff.1 WK.out).1).trans WK.out)
                  have WE := Lib.hid ((hS.2.block _ (Array.getElem?_eq_some_iff.1 UB.out.1).1).trans UB.out.1)
                  have RNE := Lib.hid (fun g (hg : (Value.slice B' m' n').ownBlock = some g) => (own_ltN IU.out.1.1.2.2.2.1 g hg).2)
                  have SB0 := SB
                  have SU := Lib.hid (show S.heap.size = S.heap.size from rfl)
                  have RTS := Lib.hid (fun W (hW : Below S.heap.size S W) => by have h1 := rests_any (fun b => b < lo) t (some ⟨b0, off0, none⟩) ct W ((nd_low HT.out IS.out.1.2.1.size (IS.out.1.2.1.low HS.out.2.2 HS.out.1)).bel hW); rw [RM.out] at h1; exact h1)
                  clear a0 a1 a2 a3 a4 a5 l0 y0 y1 y2 y3 y4 y5 yf l1 x0 x1 x2 x3 x4 x5 xf l2
                  obtain ⟨⟨a0, a1, a2, a3, a4, a5⟩, _⟩ := cells6n IS.out.1.2.2
                  have l0 := IS.out.1.lt
                  obtain ⟨⟨y0, y1, y2, y3, y4, y5⟩, _⟩ := cells6n WD.out
                  have l1 := (Array.getElem?_eq_some_iff.1 WD.out).1
                  obtain ⟨⟨x0, x1, x2, x3, x4, x5⟩, _⟩ := cells6n WE.out
                  have l2 := (Array.getElem?_eq_some_iff.1 WE.out).1
                  have sf : ∀ j, S.frozen? ⟨U.heap.size, j, none⟩ = false := fun j => frozen_of_row S _ j _ _ SB.out
                  obtain ⟨⟨s0, s1, s2, s3, s4, s5, s6, s7, s8, s9, s10⟩, _⟩ := cells11q (d := ⟨2, 0, r, bs0, Tree.z, []⟩) (A1 := none) (c1 := 0) (A2 := none) (c2 := 0) SB.out
                  have l3 := (Array.getElem?_eq_some_iff.1 SB.out).1
                  clear hS
                  obtain ⟨g2, hg2⟩ : ∃ x, x = g' + 1 := ⟨_, rfl⟩
                  have kg3 : wrap64 (g' + 1) = g2 := by rw [hg2]; exact kg'
                  clear kg'
                  have kg' := kg3
                  clear kg3
                  have kg2 : wrap64 (g2 + 1) = g2 + 1 := (w64p (by have h1 := HBo.out; have h2 := SL.out; clear kp1 kg'; omega)).1
                  have HG := Lib.hid hg2
                  have RR := Lib.hid (show yF = obT true (t.kids.drop (q + 1)) r (ks ++ [g']) (apT e1 g2 (mkR (rs' ++ [⟨⟨11, g', 0, keyS e0, Tree.z, []⟩, none, 0, none, 0⟩] ++ [⟨⟨2, g2, r, bs0, Tree.z, [g']⟩, none, 0, none, 0⟩]) (g2 + 1))) by rw [HR.out, robT_rm HD.out.1 HD.out.2 HM.out.1 HM.out.2, ← hg2]; simp [mkR, Mk.lay, Mk.next])
                  clear hg2
                  go_upto_region 21 with (go_at_call 40; go_loud (refine (RTS.out _ (by (repeat (with_reducible first | exact Below.refl _ _ | (refine bl_set ?_ (by first | omega | (simp; done) | (simp; omega)) _) | refine bl_gr ?_ _ | refine bl_al ?_ _ | refine below_setRow ?_ (by first | omega | (simp; done) | (simp; omega)) _ | refine bl_drewN ?_ _ | refine Below.drew ?_ | (refine bl_tr ?_ (by assumption)))))).mono ?_; rintro e w3 ⟨rfl, hb⟩; have HB2 := Lib.hid (show Below S.heap.size S w3 from bl_tr (by (repeat (with_reducible first | exact Below.refl _ _ | (refine bl_set ?_ (by first | omega | (simp; done) | (simp; omega)) _) | refine bl_gr ?_ _ | refine bl_al ?_ _ | refine below_setRow ?_ (by first | omega | (simp; done) | (simp; omega)) _ | refine bl_drewN ?_ _ | refine Below.drew ?_ | (refine bl_tr ?_ (by assumption))))) hb); have I3 := Lib.hid (IS.out.below HB2.out); have D3 := Lib.hid ((HB2.out.block _ (Array.getElem?_eq_some_iff.1 WD.out).1).trans WD.out); have E3 := Lib.hid ((HB2.out.block _ (Array.getElem?_eq_some_iff.1 WE.out).1).trans WE.out); have B3 := Lib.hid ((HB2.out.block _ (Array.getElem?_eq_some_iff.1 SB.out).1).trans SB.out); clear hb HB2))
                  clear a0 a1 a2 a3 a4 a5 l0 y0 y1 y2 y3 y4 y5 l1 x0 x1 x2 x3 x4 x5 l2 s0 s1 s2 s3 s4 s5 s6 s7 s8 s9 s10 sf l3
                  obtain ⟨⟨a0, a1, a2, a3, a4, a5⟩, _⟩ := cells6n I3.out.1.2.2
                  have l0 := I3.out.1.lt
                  obtain ⟨⟨y0, y1, y2, y3, y4, y5⟩, _⟩ := cells6n D3.out
                  have l1 := (Array.getElem?_eq_some_iff.1 D3.out).1
                  obtain ⟨⟨x0, x1, x2, x3, x4, x5⟩, _⟩ := cells6n E3.out
                  have l2 := (Array.getElem?_eq_some_iff.1 E3.out).1
                  have sf : ∀ j, w3.frozen? ⟨U.heap.size, j, none⟩ = false := fun j => frozen_of_row w3 _ j _ _ B3.out
                  obtain ⟨⟨s0, s1, s2, s3, s4, s5, s6, s7, s8, s9, s10⟩, _⟩ := cells11q (d := ⟨2, 0, r, bs0, Tree.z, []⟩) (A1 := none) (c1 := 0) (A2 := none) (c2 := 0) B3.out
                  have l3 := (Array.getElem?_eq_some_iff.1 B3.out).1
                  go_upto_region 23 with (first | (go_at_call 41; go_loud (refine (CA.out _).mono ?_; rintro e w4 ⟨rfl, hb⟩; have HB2 := Lib.hid (show Below w3.heap.size w3 w4 from bl_tr (by (repeat (with_reducible first | exact Below.refl _ _ | (refine bl_set ?_ (by first | omega | (simp; done) | (simp; omega)) _) | refine bl_gr ?_ _ | refine bl_al ?_ _ | refine below_setRow ?_ (by first | omega | (simp; done) | (simp; omega)) _ | refine bl_drewN ?_ _ | refine Below.drew ?_ | (refine bl_tr ?_ (by assumption))))) hb); have I4 := Lib.hid (I3.out.below HB2.out); have D4 := Lib.hid ((HB2.out.block _ (Array.getElem?_eq_some_iff.1 D3.out).1).trans D3.out); have E4 := Lib.hid ((HB2.out.block _ (Array.getElem?_eq_some_iff.1 E3.out).1).trans E3.out); have B4 := Lib.hid ((HB2.out.block _ (Array.getElem?_eq_some_iff.1 B3.out).1).trans B3.out); clear hb HB2)) | (at_builtin; go_loud (refine wpList_appL elem_stepR rfl _ _ rfl lo (rs') [⟨⟨11, g', 0, keyS e0, Tree.z, []⟩, none, 0, none, 0⟩] (k := 1) I4.out.1.1.2.2.1 rfl (by decide) (by decide) (yv := .slice B' m' n') (b := w4.heap.size) rfl rfl (ownsRow_below I4.out.1.1.2.2.2.1 (bl_al (Below.refl _ _) _)) (Nat.le_trans I4.out.1.1.1 (bl_al (Below.refl _ _) _).size) (heap_alloc_new _ _) (fun x _ => one_step x) (by have h1 := HBo.out.2.2; have h2 := I4.out.1.1.2.2.1; have h3 := RL.out; clear kp1 kg' kg2; (try simp only [List.length_append, List.length_cons, List.length_nil] at h2); omega) (by decide) ?_; intro g5 m5 n5 w5 em ow gr gw gl; have S5 := Lib.hid (show ObI E lo (.slice B n c) X (nodeO t (.slice (some ⟨b0, off0, none⟩) t.kids.length ct)) (.slice (some ⟨g5, 0, none⟩) m5 n5) m5 (rs' ++ [⟨⟨11, g', 0, keyS e0, Tree.z, []⟩, none, 0, none, 0⟩]) (.slice Bk ks.length nk) (ks) w5 from by rw [em]; exact (I4.out.below (bl_al (Below.refl _ _) _)).app rfl (fun x hx => by rw [List.mem_singleton.1 hx]; exact ⟨.nil, IsKs.nil⟩) ow gr gw); have KP5 := Lib.hid (show ∀ b, b < w4.heap.size → ¬ (Value.ownBlock (.slice B' m' n')) = some b → w5.heap[b]? = w4.heap[b]? from fun b hb hn => ((touch_grownE gr).block b (Nat.lt_of_lt_of_le hb (bl_al (Below.refl _ _) _).size) hn).trans ((bl_al (Below.refl w4.heap.size w4) _).block b hb)); have GW5 := Lib.hid (show (Value.ownBlock (.slice B' m' n')) = some g5 ∨ w4.heap.size ≤ g5 from gw.imp id fun e => by rw [e]; exact (bl_al (Below.refl _ _) _).size);  clear ow gr gw em)))
                  have D5 := Lib.hid ((KP5.out _ (Array.getElem?_eq_some_iff.1 D4.out).1 (I4.out.1.1.2.2.typ D4.out (by decide))).trans D4.out)
                  have E5 := Lib.hid ((KP5.out _ (Array.getElem?_eq_some_iff.1 E4.out).1 (I4.out.1.1.2.2.typ E4.out (by decide))).trans E4.out)
                  have B5 := Lib.hid ((KP5.out _ (Array.getElem?_eq_some_iff.1 B4.out).1 (fun e => Nat.lt_irrefl _ (RNE.out _ e))).trans B4.out)
                  clear RTS SB0
                  have SB0 := B4
                  have RTS := Lib.hid (fun W (hW : Below w5.heap.size w5 W) => by have h1 := rests_any (fun b => b < lo) t (some ⟨b0, off0, none⟩) ct W ((nd_low HT.out S5.out.1.2.1.size (S5.out.1.2.1.low HS.out.2.2 HS.out.1)).bel hW); rw [RM.out] at h1; exact h1)
                  clear a0 a1 a2 a3 a4 a5 l0 y0 y1 y2 y3 y4 y5 l1 x0 x1 x2 x3 x4 x5 l2 s0 s1 s2 s3 s4 s5 s6 s7 s8 s9 s10 sf l3
                  obtain ⟨⟨a0, a1, a2, a3, a4, a5⟩, _⟩ := cells6n S5.out.1.2.2
                  have l0 := S5.out.1.lt
                  obtain ⟨⟨y0, y1, y2, y3, y4, y5⟩, _⟩ := cells6n D5.out
                  have l1 := (Array.getElem?_eq_some_iff.1 D5.out).1
                  have sf : ∀ j, w5.frozen? ⟨U.heap.size, j, none⟩ = false := fun j => frozen_of_row w5 _ j _ _ B5.out
                  obtain ⟨⟨s0, s1, s2, s3, s4, s5, s6, s7, s8, s9, s10⟩, _⟩ := cells11q (d := ⟨2, 0, r, bs0, Tree.z, []⟩) (A1 := none) (c1 := 0) (A2 := none) (c2 := 0) B5.out
                  have l3 := (Array.getElem?_eq_some_iff.1 B5.out).1
                  go_upto_region 24 with (go_at_call 40; go_loud (refine (RTS.out _ (by (repeat (with_reducible first | exact Below.refl _ _ | (refine bl_set ?_ (by first | omega | (simp; done) | (simp; omega)) _) | refine bl_gr ?_ _ | refine bl_al ?_ _ | refine below_setRow ?_ (by first | omega | (simp; done) | (simp; omega)) _ | refine bl_drewN ?_ _ | refine Below.drew ?_ | (refine bl_tr ?_ (by assumption)))))).mono ?_; rintro e w6 ⟨rfl, hb⟩; have HB2 := Lib.hid (show Below w5.heap.size w5 w6 from bl_tr (by (repeat (with_reducible first | exact Below.refl _ _ | (refine bl_set ?_ (by first | omega | (simp; done) | (simp; omega)) _) | refine bl_gr ?_ _ | refine bl_al ?_ _ | refine below_setRow ?_ (by first | omega | (simp; done) | (simp; omega)) _ | refine bl_drewN ?_ _ | refine Below.drew ?_ | (refine bl_tr ?_ (by assumption))))) hb); have I6 := Lib.hid (S5.out.below HB2.out); have D6 := Lib.hid ((HB2.out.block _ (Array.getElem?_eq_some_iff.1 D5.out).1).trans D5.out); have E6 := Lib.hid ((HB2.out.block _ (Array.getElem?_eq_some_iff.1 E5.out).1).trans E5.out); have B6 := Lib.hid ((HB2.out.block _ (Array.getElem?_eq_some_iff.1 B5.out).1).trans B5.out); clear hb HB2))
                  clear a0 a1 a2 a3 a4 a5 l0 y0 y1 y2 y3 y4 y5 l1 s0 s1 s2 s3 s4 s5 s6 s7 s8 s9 s10 sf l3
                  obtain ⟨⟨a0, a1, a2, a3, a4, a5⟩, _⟩ := cells6n I6.out.1.2.2
                  have l0 := I6.out.1.lt
                  obtain ⟨⟨y0, y1, y2, y3, y4, y5⟩, _⟩ := cells6n D6.out
                  have l1 := (Array.getElem?_eq_some_iff.1 D6.out).1
                  have sf : ∀ j, w6.frozen? ⟨U.heap.size, j, none⟩ = false := fun j => frozen_of_row w6 _ j _ _ B6.out
                  obtain ⟨⟨s0, s1, s2, s3, s4, s5, s6, s7, s8, s9, s10⟩, _⟩ := cells11q (d := ⟨2, 0, r, bs0, Tree.z, []⟩) (A1 := none) (c1 := 0) (A2 := none) (c2 := 0) B6.out
                  have l3 := (Array.getElem?_eq_some_iff.1 B6.out).1
                  go_upto_region 25 with (at_builtin; go_loud (refine wpList_appL elem_int rfl _ _ rfl (X.heap.size + 1) ks [g'] (k := 1) rfl rfl (by decide) (by decide) (yv := .slice Bk ks.length nk) (b := w6.heap.size) rfl rfl (ownsRow_below I6.out.2 (bl_al (Below.refl _ _) _)) (Nat.le_trans (show X.heap.size + 1 ≤ w6.heap.size from I6.out.1.lt) (bl_al (Below.refl _ _) _).size) (heap_alloc_new _ _) (fun x _ => one_int x) (by have h1 := HQ.out.2.2.2; have h2 := LQ.out.1; have h3 := HL.out; clear kp1 kg' kg2; omega) (by decide) ?_; intro g7 m7 n7 w7 em ow gr gw gl; have KM := Lib.hid (show m7 = (ks ++ [g']).length from by rw [em]; simp); have S7 := Lib.hid (show ObI E lo (.slice B n c) X (nodeO t (.slice (some ⟨b0, off0, none⟩) t.kids.length ct)) (.slice (some ⟨g5, 0, none⟩) m5 n5) m5 (rs' ++ [⟨⟨11, g', 0, keyS e0, Tree.z, []⟩, none, 0, none, 0⟩]) (.slice (some ⟨g7, 0, none⟩) m7 n7) (ks ++ [g']) w7 from by rw [KM.out]; exact (I6.out.below (bl_al (Below.refl _ _) _)).key HS.out.1 (by rw [show (ks ++ [g']).length = ks.length + 1 by simp]; exact ow) gr gw); have KP7 := Lib.hid (show ∀ b, b < w6.heap.size → ¬ (Value.slice Bk ks.length nk).ownBlock = some b → w7.heap[b]? = w6.heap[b]? from fun b hb hn => ((touch_grownE gr).block b (Nat.lt_of_lt_of_le hb (bl_al (Below.refl _ _) _).size) hn).trans ((bl_al (Below.refl w6.heap.size w6) _).block b hb)); clear ow gr gw em))
                  have B7 := Lib.hid ((KP7.out _ (Array.getElem?_eq_some_iff.1 B6.out).1 (own_not I6.out.2 B6.out (by decide))).trans B6.out)
                  have D7 := Lib.hid ((KP7.out _ (Array.getElem?_eq_some_iff.1 D6.out).1 (own_not I6.out.2 D6.out (by decide))).trans D6.out)
                  clear a0 a1 a2 a3 a4 a5 l0 y0 y1 y2 y3 y4 y5 l1 s0 s1 s2 s3 s4 s5 s6 s7 s8 s9 s10 sf l3
                  obtain ⟨⟨a0, a1, a2, a3, a4, a5⟩, _⟩ := cells6n S7.out.1.2.2
                  have l0 := S7.out.1.lt
                  obtain ⟨⟨y0, y1, y2, y3, y4, y5⟩, _⟩ := cells6n D7.out
                  have l1 := (Array.getElem?_eq_some_iff.1 D7.out).1
                  have sf : ∀ j, w7.frozen? ⟨U.heap.size, j, none⟩ = false := fun j => frozen_of_row w7 _ j _ _ B7.out
                  obtain ⟨⟨s0, s1, s2, s3, s4, s5, s6, s7, s8, s9, s10⟩, _⟩ := cells11q (d := ⟨2, 0, r, bs0, Tree.z, []⟩) (A1 := none) (c1 := 0) (A2 := none) (c2 := 0) B7.out
                  have l3 := (Array.getElem?_eq_some_iff.1 B7.out).1
                  go_upto_region 28 with fail
                  refine wpd_world (fun Z => Z.heap[U.heap.size]? = some (stepRO ⟨⟨2, g2, r, bs0, Tree.z, [g']⟩, none, 0, some ⟨w7.heap.size, 0, none⟩, 1⟩) ∧ Touch (fun b => b = U.heap.size) w7 Z ∧ Z.heap[w7.heap.size]? = some (Obj.cells #[.int .i64 g'] 3)) ⟨two_box B7.out, Touch.alloc (Touch.set1 (Touch.set1 (Touch.refl _ _) _ _) _ _) _, two_new⟩ ?_
                  intro Z hZ
                  have IZ := Lib.hid (S7.out.stepBox HS.out.1 B7.out (show X.heap.size < U.heap.size from IU.out.1.lt) (fun g hg e => by
                    simp only [Value.ownBlock, Option.some.injEq] at hg
                    have h1 := (Array.getElem?_eq_some_iff.1 SB0.out).1
                    clear kp1 kg' kg2
                    rcases GW5.out with h | h
                    · have := RNE.out _ h
                      omega
                    · omega) hZ.2.1)
                  have ZB := Lib.hid hZ.1
                  have ZD := Lib.hid ((hZ.2.1.block _ (Array.getElem?_eq_some_iff.1 D7.out).1 (Nat.ne_of_lt (Array.getElem?_eq_some_iff.1 WK.out).1)).trans D7.out)
                  have HK9 := Lib.hid (show IsKs (exK E (.slice (some ⟨g7, 0, none⟩) m7 n7)) lo Z (.slice (some ⟨w7.heap.size, 0, none⟩) 1 1) [g'] from ⟨sl_oneE (en := intCs) hZ.2.2 rfl, fun a n c e _ => by
                    cases e
                    exact ⟨S7.out.1.1.1, fun e => Nat.lt_irrefl _ (S7.out.1.1.2.1 _ e), _, hZ.2.2⟩⟩)
                  clear a0 a1 a2 a3 a4 a5 l0 y0 y1 y2 y3 y4 y5 l1 s0 s1 s2 s3 s4 s5 s6 s7 s8 s9 s10 sf l3 hZ
                  obtain ⟨⟨s0, s1, s2, s3, s4, s5, s6, s7, s8, s9, s10⟩, _⟩ := cells11q (d := ⟨2, g2, r, bs0, Tree.z, [g']⟩) (A1 := none) (c1 := 0) (A2 := some ⟨w7.heap.size, 0, none⟩) (c2 := 1) ZB.out
                  have l3 := (Array.getElem?_eq_some_iff.1 ZB.out).1
                  go_upto_region 29 with (at_builtin; go_loud (refine wpList_appL elem_stepR rfl _ _ rfl lo (rs' ++ [⟨⟨11, g', 0, keyS e0, Tree.z, []⟩, none, 0, none, 0⟩]) [⟨⟨2, g2, r, bs0, Tree.z, [g']⟩, none, 0, some ⟨w7.heap.size, 0, none⟩, 1⟩] (k := 1) IZ.out.1.1.2.2.1 rfl (by decide) (by decide) (yv := .slice (some ⟨g5, 0, none⟩) m5 n5) (b := Z.heap.size) rfl rfl (ownsRow_below IZ.out.1.1.2.2.2.1 (bl_al (Below.refl _ _) _)) (Nat.le_trans IZ.out.1.1.1 (bl_al (Below.refl _ _) _).size) (heap_alloc_new _ _) (fun x _ => one_step x) (by have h1 := HBo.out.2.2; have h2 := IZ.out.1.1.2.2.1; have h3 := RL.out; clear kp1 kg' kg2; (try simp only [List.length_append, List.length_cons, List.length_nil] at h2); omega) (by decide) ?_; intro g9 m9 n9 w9 em ow gr gw gl; have S9 := Lib.hid (show ObI E lo (.slice B n c) X (nodeO t (.slice (some ⟨b0, off0, none⟩) t.kids.length ct)) (.slice (some ⟨g9, 0, none⟩) m9 n9) m9 (rs' ++ [⟨⟨11, g', 0, keyS e0, Tree.z, []⟩, none, 0, none, 0⟩] ++ [⟨⟨2, g2, r, bs0, Tree.z, [g']⟩, none, 0, some ⟨w7.heap.size, 0, none⟩, 1⟩]) (.slice (some ⟨g7, 0, none⟩) m7 n7) (ks ++ [g']) w9 from by rw [em]; exact (IZ.out.below (bl_al (Below.refl _ _) _)).app rfl (fun x hx => by rw [List.mem_singleton.1 hx]; exact ⟨.nil, HK9.out.keep (bl_al (Below.refl _ _) _).size fun b _ hl => (bl_al (Below.refl _ _) _).block b hl⟩) ow gr gw); have KP9 := Lib.hid (show ∀ b, b < Z.heap.size → ¬ (Value.ownBlock (.slice (some ⟨g5, 0, none⟩) m5 n5)) = some b → w9.heap[b]? = Z.heap[b]? from fun b hb hn => ((touch_grownE gr).block b (Nat.lt_of_lt_of_le hb (bl_al (Below.refl _ _) _).size) hn).trans ((bl_al (Below.refl Z.heap.size Z) _).block b hb)); have GW9 := Lib.hid (show (Value.ownBlock (.slice (some ⟨g5, 0, none⟩) m5 n5)) = some g9 ∨ Z.heap.size ≤ g9 from gw.imp id fun e => by rw [e]; exact (bl_al (Below.refl _ _) _).size); have L9 := Lib.hid (show Z.heap.size ≤ w9.heap.size from Nat.le_trans (bl_al (Below.refl _ _) _).size (touch_grownE gr).size); clear ow gr gw em))
                  have X9 := Lib.hid ((KP9.out _ (Array.getElem?_eq_some_iff.1 ZD.out).1 (IZ.out.1.1.2.2.typ ZD.out (by decide))).trans ZD.out)
                  have S9s := Lib.hid (show V.heap.size ≤ w9.heap.size from by have h1 := (Array.getElem?_eq_some_iff.1 UB.out.1).1; have h2 := (Array.getElem?_eq_some_iff.1 ZB.out).1; have h3 := L9.out; clear kp1 kg' kg2; omega)
                  have S9l := Lib.hid (fun k (hk : k < lo) => (S9.out.1.2.1.low HS.out.2.2 HS.out.1 k hk).trans (IV.out.1.2.1.low HS.out.2.2 HS.out.1 k hk).symm)
                  clear s0 s1 s2 s3 s4 s5 s6 s7 s8 s9 s10 l3
                  obtain ⟨⟨y0, y1, y2, y3, y4, y5⟩, _⟩ := cells6n X9.out
                  have l1 := (Array.getElem?_eq_some_iff.1 X9.out).1
                  obtain ⟨v0, v1, v2, v3, v4, v5⟩ := (show AtN w9 b1 (off1 + 6) e1 (.slice A7 e1.kids.length c7) from by
                    obtain ⟨h0, h1, h2, h3, h4, h5⟩ := D1.out.2
                    have f := fun j => World.cell?_of_block (a := ⟨b1, j, none⟩) (S9l.out b1 D0.out.2.2)
                    exact ⟨(f _).trans h0, (f _).trans h1, (f _).trans h2, (f _).trans h3, (f _).trans h4, (f _).trans h5⟩)
                  have lb1 : b1 < w9.heap.size := Nat.lt_of_lt_of_le (Nat.lt_of_lt_of_le D0.out.2.2 IV.out.1.1.1) S9s.out
                  have IC := Lib.hid (IH (exK E (.slice (some ⟨g7, 0, none⟩) m7 n7)) lo (some ⟨g9, 0, none⟩) m9 n9 (rs' ++ [⟨⟨11, g', 0, keyS e0, Tree.z, []⟩, none, 0, none, 0⟩] ++ [⟨⟨2, g2, r, bs0, Tree.z, [g']⟩, none, 0, some ⟨w7.heap.size, 0, none⟩, 1⟩]) e1 A7 c7 (g2 + 1) g2 w9 (by have h1 := DS.out; have h2 := SL.out; clear kp1 kg' kg2; omega) S9.out.1.1 (nd_low D1.out.1 S9s.out (fun k hk => S9l.out k hk)) OE.out.2 (by have h1 := HBo.out; have h2 := SL.out; have h3 := HG.out; clear kp1 kg' kg2; unfold Bd; simp only [mkR, List.length_map, List.length_append, List.length_cons, List.length_nil]; omega))
                  obtain ⟨y8, hy8⟩ : ∃ y, y = apT e1 g2 (mkR (rs' ++ [⟨⟨11, g', 0, keyS e0, Tree.z, []⟩, none, 0, none, 0⟩] ++ [⟨⟨2, g2, r, bs0, Tree.z, [g']⟩, none, 0, some ⟨w7.heap.size, 0, none⟩, 1⟩]) (g2 + 1)) := ⟨_, rfl⟩
                  rw [← hy8] at IC
                  have RF := Lib.hid (show yF = obT true (t.kids.drop (q + 1)) r (ks ++ [g']) y8 by rw [hy8]; exact RR.out.trans (by first | (simp only [mkR, List.map_append, List.map_cons, List.map_nil]; done) | rfl))
                  have BN := Lib.hid (show 0 ≤ y8.g ∧ y8.g + 2 * (sizeK (t.kids.drop (q + 1)) : Nat) ≤ 499999 ∧ y8.l.length + 4 * sizeK (t.kids.drop (q + 1)) ≤ 499998 by have h0 := ap_bound e1 g2 (mkR (rs' ++ [⟨⟨11, g', 0, keyS e0, Tree.z, []⟩, none, 0, none, 0⟩] ++ [⟨⟨2, g2, r, bs0, Tree.z, [g']⟩, none, 0, some ⟨w7.heap.size, 0, none⟩, 1⟩]) (g2 + 1)); rw [← hy8] at h0; unfold AddsT at h0; have h1 := HBo.out; have h2 := SL.out; have h3 := HG.out; clear kp1 kg' kg2; simp only [mkR, List.length_map, List.length_append, List.length_cons, List.length_nil] at h0; omega)
                  clear hy8
                  cases hyb : y8.b with
                  | true =>
                    have HY := Lib.hid hyb
                    have BF := Lib.hid (show yF.b = true by rw [RF.out]; exact bad_all.2.2.2.1 _ _ _ _ _ hyb)
                    clear hyb
                    go_wp2_with (go_at_call 25; go_loud (refine (IC.out.mono fun e Y h => h.bad HY.out).mono ?_; rintro e Y ⟨rfl, r8⟩; have H8 := Lib.hid (S9.out.1.2.1.trans r8); clear r8))
                    go_ret3
                    exact .inl ⟨BF.out, rfl, H8.out⟩
                  | false =>
                    have HY := Lib.hid hyb
                    clear hyb
                    go_wp2_with (go_at_call 25; go_loud (refine (IC.out.mono fun e Y h => h.good HY.out).mono ?_; rintro e Y ⟨B8, n8, c8, rs8, rfl, h8, m8, r8⟩; have H8 := Lib.hid (And.intro (S9.out.call h8 r8) (mkR_eq m8 HY.out)); clear h8 m8 r8))
                    go_roundw
                    case rel => exact ⟨q + 1, n8, c8, n7, B8, some ⟨g7, 0, none⟩, rs8, ks ++ [g'], y8.g, by first | with_reducible rfl | (rw [kp1]; done), rfl, rfl, by rw [KM.out], Lib.hid ⟨LQ.out.1, by rw [H8.out.2]; exact RF.out, by rw [H8.out.2]; exact BN.out, by have h1 := HQ.out.2.2.2; clear kp1 kg' kg2; simp only [List.length_append, List.length_cons, List.length_nil]; omega⟩, Lib.hid (by rw [← KM.out]; exact H8.out.1)⟩
                    case measure => (first | ((try rw [kp1]); exact meas_c rfl LQ.out.1) | (clear kp1 kg' kg2; have := LQ.out.1; simp only [intOf]; omega))
                · go_upto_region 18 with fail
                  refine wpd_world (fun S => S.heap[U.heap.size]? = some (stepRO (plR 2 0 r bs0)) ∧ Below U.heap.size U S) ⟨heap_alloc_new _ _, by (repeat (with_reducible first | exact Below.refl _ _ | (refine bl_set ?_ (by first | omega | (simp; done) | (simp; omega)) _) | refine bl_gr ?_ _ | refine bl_al ?_ _ | refine below_setRow ?_ (by first | omega | (simp; done) | (simp; omega)) _ | refine bl_drewN ?_ _ | refine Below.drew ?_ | (refine bl_tr ?_ (by assumption))))⟩ ?_
                  intro S hS
                  have IS := Lib.hid (IU.out.below hS.2)
                  have SB := Lib.hid hS.1
                  have WD := Lib.hid ((hS.2.block _ (Array.getElem?_eq_some_iff.1 WK.out).1).trans WK.out)
                  have WE := Lib.hid ((hS.2.block _ (Array.getElem?_eq_some_iff.1 UB.out.1).1).trans UB.out.1)
                  have RNE := Lib.hid (fun g (hg : (Value.slice B' m' n').ownBlock = some g) => (own_ltN IU.out.1.1.2.2.2.1 g hg).2)
                  have SB0 := SB
                  have SU := Lib.hid (show S.heap.size = S.heap.size from rfl)
                  have RTS := Lib.hid (fun W (hW : Below S.heap.size S W) => by have h1 := rests_any (fun b => b < lo) t (some ⟨b0, off0, none⟩) ct W ((nd_low HT.out IS.out.1.2.1.size (IS.out.1.2.1.low HS.out.2.2 HS.out.1)).bel hW); rw [RM.out] at h1; exact h1)
                  clear a0 a1 a2 a3 a4 a5 l0 y0 y1 y2 y3 y4 y5 yf l1 x0 x1 x2 x3 x4 x5 xf l2
                  obtain ⟨⟨a0, a1, a2, a3, a4, a5⟩, _⟩ := cells6n IS.out.1.2.2
                  have l0 := IS.out.1.lt
                  obtain ⟨⟨y0, y1, y2, y3, y4, y5⟩, _⟩ := cells6n WD.out
                  have l1 := (Array.getElem?_eq_some_iff.1 WD.out).1
                  obtain ⟨⟨x0, x1, x2, x3, x4, x5⟩, _⟩ := cells6n WE.out
                  have l2 := (Array.getElem?_eq_some_iff.1 WE.out).1
                  have sf : ∀ j, S.frozen? ⟨U.heap.size, j, none⟩ = false := fun j => frozen_of_row S _ j _ _ SB.out
                  obtain ⟨⟨s0, s1, s2, s3, s4, s5, s6, s7, s8, s9, s10⟩, _⟩ := cells11q (d := ⟨2, 0, r, bs0, Tree.z, []⟩) (A1 := none) (c1 := 0) (A2 := none) (c2 := 0) SB.out
                  have l3 := (Array.getElem?_eq_some_iff.1 SB.out).1
                  clear hS
                  obtain ⟨g2, hg2⟩ : ∃ x, x = g' + 1 := ⟨_, rfl⟩
                  have kg3 : wrap64 (g' + 1) = g2 := by rw [hg2]; exact kg'
                  clear kg'
                  have kg' := kg3
                  clear kg3
                  have kg2 : wrap64 (g2 + 1) = g2 + 1 := (w64p (by have h1 := HBo.out; have h2 := SL.out; clear kp1 kg'; omega)).1
                  have HG := Lib.hid hg2
                  have RR := Lib.hid (show yF = obT true (t.kids.drop (q + 1)) r (ks ++ [g']) (apT e1 g2 (mkR (rs' ++ [⟨⟨11, g', 0, keyS e0, Tree.z, []⟩, none, 0, none, 0⟩] ++ [⟨⟨2, g2, r, bs0, Tree.z, [g']⟩, none, 0, none, 0⟩]) (g2 + 1))) by rw [HR.out, robT_rm HD.out.1 HD.out.2 HM.out.1 HM.out.2, ← hg2]; simp [mkR, Mk.lay, Mk.next])
                  clear hg2
                  go_upto_region 21 with (go_at_call 40; go_loud (refine (RTS.out _ (by (repeat (with_reducible first | exact Below.refl _ _ | (refine bl_set ?_ (by first | omega | (simp; done) | (simp; omega)) _) | refine bl_gr ?_ _ | refine bl_al ?_ _ | refine below_setRow ?_ (by first | omega | (simp; done) | (simp; omega)) _ | refine bl_drewN ?_ _ | refine Below.drew ?_ | (refine bl_tr ?_ (by assumption)))))).mono ?_; rintro e w3 ⟨rfl, hb⟩; have HB2 := Lib.hid (show Below S.heap.size S w3 from bl_tr (by (repeat (with_reducible first | exact Below.refl _ _ | (refine bl_set ?_ (by first | omega | (simp; done) | (simp; omega)) _) | refine bl_gr ?_ _ | refine bl_al ?_ _ | refine below_setRow ?_ (by first | omega | (simp; done) | (simp; omega)) _ | refine bl_drewN ?_ _ | refine Below.drew ?_ | (refine bl_tr ?_ (by assumption))))) hb); have I3 := Lib.hid (IS.out.below HB2.out); have D3 := Lib.hid ((HB2.out.block _ (Array.getElem?_eq_some_iff.1 WD.out).1).trans WD.out); have E3 := Lib.hid ((HB2.out.block _ (Array.getElem?_eq_some_iff.1 WE.out).1).trans WE.out); have B3 := Lib.hid ((HB2.out.block _ (Array.getElem?_eq_some_iff.1 SB.out).1).trans SB.out); clear hb HB2))
                  clear a0 a1 a2 a3 a4 a5 l0 y0 y1 y2 y3 y4 y5 l1 x0 x1 x2 x3 x4 x5 l2 s0 s1 s2 s3 s4 s5 s6 s7 s8 s9 s10 sf l3
                  obtain ⟨⟨a0, a1, a2, a3, a4, a5⟩, _⟩ := cells6n I3.out.1.2.2
                  have l0 := I3.out.1.lt
                  obtain ⟨⟨y0, y1, y2, y3, y4, y5⟩, _⟩ := cells6n D3.out
                  have l1 := (Array.getElem?_eq_some_iff.1 D3.out).1
                  obtain ⟨⟨x0, x1, x2, x3, x4, x5⟩, _⟩ := cells6n E3.out
                  have l2 := (Array.getElem?_eq_some_iff.1 E3.out).1
                  have sf : ∀ j, w3.frozen? ⟨U.heap.size, j, none⟩ = false := fun j => frozen_of_row w3 _ j _ _ B3.out
                  obtain ⟨⟨s0, s1, s2, s3, s4, s5, s6, s7, s8, s9, s10⟩, _⟩ := cells11q (d := ⟨2, 0, r, bs0, Tree.z, []⟩) (A1 := none) (c1 := 0) (A2 := none) (c2 := 0) B3.out
                  have l3 := (Array.getElem?_eq_some_iff.1 B3.out).1
                  go_upto_region 23 with (first | (go_at_call 41; go_loud (refine (CA.out _).mono ?_; rintro e w4 ⟨rfl, hb⟩; have HB2 := Lib.hid (show Below w3.heap.size w3 w4 from bl_tr (by (repeat (with_reducible first | exact Below.refl _ _ | (refine bl_set ?_ (by first | omega | (simp; done) | (simp; omega)) _) | refine bl_gr ?_ _ | refine bl_al ?_ _ | refine below_setRow ?_ (by first | omega | (simp; done) | (simp; omega)) _ | refine bl_drewN ?_ _ | refine Below.drew ?_ | (refine bl_tr ?_ (by assumption))))) hb); have I4 := Lib.hid (I3.out.below HB2.out); have D4 := Lib.hid ((HB2.out.block _ (Array.getElem?_eq_some_iff.1 D3.out).1).trans D3.out); have E4 := Lib.hid ((HB2.out.block _ (Array.getElem?_eq_some_iff.1 E3.out).1).trans E3.out); have B4 := Lib.hid ((HB2.out.block _ (Array.getElem?_eq_some_iff.1 B3.out).1).trans B3.out); clear hb HB2)) | (at_builtin; go_loud (refine wpList_appL elem_stepR rfl _ _ rfl lo (rs') [⟨⟨11, g', 0, keyS e0, Tree.z, []⟩, none, 0, none, 0⟩] (k := 1) I4.out.1.1.2.2.1 rfl (by decide) (by decide) (yv := .slice B' m' n') (b := w4.heap.size) rfl rfl (ownsRow_below I4.out.1.1.2.2.2.1 (bl_al (Below.refl _ _) _)) (Nat.le_trans I4.out.1.1.1 (bl_al (Below.refl _ _) _).size) (heap_alloc_new _ _) (fun x _ => one_step x) (by have h1 := HBo.out.2.2; have h2 := I4.out.1.1.2.2.1; have h3 := RL.out; clear kp1 kg' kg2; (try simp only [List.length_append, List.length_cons, List.length_nil] at h2); omega) (by decide) ?_; intro g5 m5 n5 w5 em ow gr gw gl; have S5 := Lib.hid (show ObI E lo (.slice B n c) X (nodeO t (.slice (some ⟨b0, off0, none⟩) t.kids.length ct)) (.slice (some ⟨g5, 0, none⟩) m5 n5) m5 (rs' ++ [⟨⟨11, g', 0, keyS e0, Tree.z, []⟩, none, 0, none, 0⟩]) (.slice Bk ks.length nk) (ks) w5 from by rw [em]; exact (I4.out.below (bl_al (Below.refl _ _) _)).app rfl (fun x hx => by rw [List.mem_singleton.1 hx]; exact ⟨.nil, IsKs.nil⟩) ow gr gw); have KP5 := Lib.hid (show ∀ b, b < w4.heap.size → ¬ (Value.ownBlock (.slice B' m' n')) = some b → w5.heap[b]? = w4.heap[b]? from fun b hb hn => ((touch_grownE gr).block b (Nat.lt_of_lt_of_le hb (bl_al (Below.refl _ _) _).size) hn).trans ((bl_al (Below.refl w4.heap.size w4) _).block b hb)); have GW5 := Lib.hid (show (Value.ownBlock (.slice B' m' n')) = some g5 ∨ w4.heap.size ≤ g5 from gw.imp id fun e => by rw [e]; exact (bl_al (Below.refl _ _) _).size);  clear ow gr gw em)))
                  have D5 := Lib.hid ((KP5.out _ (Array.getElem?_eq_some_iff.1 D4.out).1 (I4.out.1.1.2.2.typ D4.out (by decide))).trans D4.out)
                  have E5 := Lib.hid ((KP5.out _ (Array.getElem?_eq_some_iff.1 E4.out).1 (I4.out.1.1.2.2.typ E4.out (by decide))).trans E4.out)
                  have B5 := Lib.hid ((KP5.out _ (Array.getElem?_eq_some_iff.1 B4.out).1 (fun e => Nat.lt_irrefl _ (RNE.out _ e))).trans B4.out)
                  clear RTS SB0
                  have SB0 := B4
                  have RTS := Lib.hid (fun W (hW : Below w5.heap.size w5 W) => by have h1 := rests_any (fun b => b < lo) t (some ⟨b0, off0, none⟩) ct W ((nd_low HT.out S5.out.1.2.1.size (S5.out.1.2.1.low HS.out.2.2 HS.out.1)).bel hW); rw [RM.out] at h1; exact h1)
                  clear a0 a1 a2 a3 a4 a5 l0 y0 y1 y2 y3 y4 y5 l1 x0 x1 x2 x3 x4 x5 l2 s0 s1 s2 s3 s4 s5 s6 s7 s8 s9 s10 sf l3
                  obtain ⟨⟨a0, a1, a2, a3, a4, a5⟩, _⟩ := cells6n S5.out.1.2.2
                  have l0 := S5.out.1.lt
                  obtain ⟨⟨y0, y1, y2, y3, y4, y5⟩, _⟩ := cells6n D5.out
                  have l1 := (Array.getElem?_eq_some_iff.1 D5.out).1
                  have sf : ∀ j, w5.frozen? ⟨U.heap.size, j, none⟩ = false := fun j => frozen_of_row w5 _ j _ _ B5.out
                  obtain ⟨⟨s0, s1, s2, s3, s4, s5, s6, s7, s8, s9, s10⟩, _⟩ := cells11q (d := ⟨2, 0, r, bs0, Tree.z, []⟩) (A1 := none) (c1 := 0) (A2 := none) (c2 := 0) B5.out
                  have l3 := (Array.getElem?_eq_some_iff.1 B5.out).1
                  go_upto_region 24 with (go_at_call 40; go_loud (refine (RTS.out _ (by (repeat (with_reducible first | exact Below.refl _ _ | (refine bl_set ?_ (by first | omega | (simp; done) | (simp; omega)) _) | refine bl_gr ?_ _ | refine bl_al ?_ _ | refine below_setRow ?_ (by first | omega | (simp; done) | (simp; omega)) _ | refine bl_drewN ?_ _ | refine Below.drew ?_ | (refine bl_tr ?_ (by assumption)))))).mono ?_; rintro e w6 ⟨rfl, hb⟩; have HB2 := Lib.hid (show Below w5.heap.size w5 w6 from bl_tr (by (repeat (with_reducible first | exact Below.refl _ _ | (refine bl_set ?_ (by first | omega | (simp; done) | (simp; omega)) _) | refine bl_gr ?_ _ | refine bl_al ?_ _ | refine below_setRow ?_ (by first | omega | (simp; done) | (simp; omega)) _ | refine bl_drewN ?_ _ | refine Below.drew ?_ | (refine bl_tr ?_ (by assumption))))) hb); have I6 := Lib.hid (S5.out.below HB2.out); have D6 := Lib.hid ((HB2.out.block _ (Array.getElem?_eq_some_iff.1 D5.out).1).trans D5.out); have E6 := Lib.hid ((HB2.out.block _ (Array.getElem?_eq_some_iff.1 E5.out).1).trans E5.out); have B6 := Lib.hid ((HB2.out.block _ (Array.getElem?_eq_some_iff.1 B5.out).1).trans B5.out); clear hb HB2))
                  clear a0 a1 a2 a3 a4 a5 l0 y0 y1 y2 y3 y4 y5 l1 s0 s1 s2 s3 s4 s5 s6 s7 s8 s9 s10 sf l3
                  obtain ⟨⟨a0, a1, a2, a3, a4, a5⟩, _⟩ := cells6n I6.out.1.2.2
                  have l0 := I6.out.1.lt
                  obtain ⟨⟨y0, y1, y2, y3, y4, y5⟩, _⟩ := cells6n D6.out
                  have l1 := (Array.getElem?_eq_some_iff.1 D6.out).1
                  have sf : ∀ j, w6.frozen? ⟨U.heap.size, j, none⟩ = false := fun j => frozen_of_row w6 _ j _ _ B6.out
                  obtain ⟨⟨s0, s1, s2, s3, s4, s5, s6, s7, s8, s9, s10⟩, _⟩ := cells11q (d := ⟨2, 0, r, bs0, Tree.z, []⟩) (A1 := none) (c1 := 0) (A2 := none) (c2 := 0) B6.out
                  have l3 := (Array.getElem?_eq_some_iff.1 B6.out).1
                  go_upto_region 25 with (at_builtin; go_loud (refine wpList_appL elem_int rfl _ _ rfl (X.heap.size + 1) ks [g'] (k := 1) rfl rfl (by decide) (by decide) (yv := .slice Bk ks.length nk) (b := w6.heap.size) rfl rfl (ownsRow_below I6.out.2 (bl_al (Below.refl _ _) _)) (Nat.le_trans (show X.heap.size + 1 ≤ w6.heap.size from I6.out.1.lt) (bl_al (Below.refl _ _) _).size) (heap_alloc_new _ _) (fun x _ => one_int x) (by have h1 := HQ.out.2.2.2; have h2 := LQ.out.1; have h3 := HL.out; clear kp1 kg' kg2; omega) (by decide) ?_; intro g7 m7 n7 w7 em ow gr gw gl; have KM := Lib.hid (show m7 = (ks ++ [g']).length from by rw [em]; simp); have S7 := Lib.hid (show ObI E lo (.slice B n c) X (nodeO t (.slice (some ⟨b0, off0, none⟩) t.kids.length ct)) (.slice (some ⟨g5, 0, none⟩) m5 n5) m5 (rs' ++ [⟨⟨11, g', 0, keyS e0, Tree.z, []⟩, none, 0, none, 0⟩]) (.slice (some ⟨g7, 0, none⟩) m7 n7) (ks ++ [g']) w7 from by rw [KM.out]; exact (I6.out.below (bl_al (Below.refl _ _) _)).key HS.out.1 (by rw [show (ks ++ [g']).length = ks.length + 1 by simp]; exact ow) gr gw); have KP7 := Lib.hid (show ∀ b, b < w6.heap.size → ¬ (Value.slice Bk ks.length nk).ownBlock = some b → w7.heap[b]? = w6.heap[b]? from fun b hb hn => ((touch_grownE gr).block b (Nat.lt_of_lt_of_le hb (bl_al (Below.refl _ _) _).size) hn).trans ((bl_al (Below.refl w6.heap.size w6) _).block b hb)); clear ow gr gw em))
                  have B7 := Lib.hid ((KP7.out _ (Array.getElem?_eq_some_iff.1 B6.out).1 (own_not I6.out.2 B6.out (by decide))).trans B6.out)
                  have D7 := Lib.hid ((KP7.out _ (Array.getElem?_eq_some_iff.1 D6.out).1 (own_not I6.out.2 D6.out (by decide))).trans D6.out)
                  clear a0 a1 a2 a3 a4 a5 l0 y0 y1 y2 y3 y4 y5 l1 s0 s1 s2 s3 s4 s5 s6 s7 s8 s9 s10 sf l3
                  obtain ⟨⟨a0, a1, a2, a3, a4, a5⟩, _⟩ := cells6n S7.out.1.2.2
                  have l0 := S7.out.1.lt
                  obtain ⟨⟨y0, y1, y2, y3, y4, y5⟩, _⟩ := cells6n D7.out
                  have l1 := (Array.getElem?_eq_some_iff.1 D7.out).1
                  have sf : ∀ j, w7.frozen? ⟨U.heap.size, j, none⟩ = false := fun j => frozen_of_row w7 _ j _ _ B7.out
                  obtain ⟨⟨s0, s1, s2, s3, s4, s5, s6, s7, s8, s9, s10⟩, _⟩ := cells11q (d := ⟨2, 0, r, bs0, Tree.z, []⟩) (A1 := none) (c1 := 0) (A2 := none) (c2 := 0) B7.out
                  have l3 := (Array.getElem?_eq_some_iff.1 B7.out).1
                  go_upto_region 28 with fail
                  refine wpd_world (fun Z => Z.heap[U.heap.size]? = some (stepRO ⟨⟨2, g2, r, bs0, Tree.z, [g']⟩, none, 0, some ⟨w7.heap.size, 0, none⟩, 1⟩) ∧ Touch (fun b => b = U.heap.size) w7 Z ∧ Z.heap[w7.heap.size]? = some (Obj.cells #[.int .i64 g'] 3)) ⟨two_box B7.out, Touch.alloc (Touch.set1 (Touch.set1 (Touch.refl _ _) _ _) _ _) _, two_new⟩ ?_
                  intro Z hZ
                  have IZ := Lib.hid (S7.out.stepBox HS.out.1 B7.out (show X.heap.size < U.heap.size from IU.out.1.lt) (fun g hg e => by
                    simp only [Value.ownBlock, Option.some.injEq] at hg
                    have h1 := (Array.getElem?_eq_some_iff.1 SB0.out).1
                    clear kp1 kg' kg2
                    rcases GW5.out with h | h
                    · have := RNE.out _ h
                      omega
                    · omega) hZ.2.1)
                  have ZB := Lib.hid hZ.1
                  have ZD := Lib.hid ((hZ.2.1.block _ (Array.getElem?_eq_some_iff.1 D7.out).1 (Nat.ne_of_lt (Array.getElem?_eq_some_iff.1 WK.out).1)).trans D7.out)
                  have HK9 := Lib.hid (show IsKs (exK E (.slice (some ⟨g7, 0, none⟩) m7 n7)) lo Z (.slice (some ⟨w7.heap.size, 0, none⟩) 1 1) [g'] from ⟨sl_oneE (en := intCs) hZ.2.2 rfl, fun a n c e _ => by
                    cases e
                    exact ⟨S7.out.1.1.1, fun e => Nat.lt_irrefl _ (S7.out.1.1.2.1 _ e), _, hZ.2.2⟩⟩)
                  clear a0 a1 a2 a3 a4 a5 l0 y0 y1 y2 y3 y4 y5 l1 s0 s1 s2 s3 s4 s5 s6 s7 s8 s9 s10 sf l3 hZ
                  obtain ⟨⟨s0, s1, s2, s3, s4, s5, s6, s7, s8, s9, s10⟩, _⟩ := cells11q (d := ⟨2, g2, r, bs0, Tree.z, [g']⟩) (A1 := none) (c1 := 0) (A2 := some ⟨w7.heap.size, 0, none⟩) (c2 := 1) ZB.out
                  have l3 := (Array.getElem?_eq_some_iff.1 ZB.out).1
                  go_upto_region 29 with (at_builtin; go_loud (refine wpList_appL elem_stepR rfl _ _ rfl lo (rs' ++ [⟨⟨11, g', 0, keyS e0, Tree.z, []⟩, none, 0, none, 0⟩]) [⟨⟨2, g2, r, bs0, Tree.z, [g']⟩, none, 0, some ⟨w7.heap.size, 0, none⟩, 1⟩] (k := 1) IZ.out.1.1.2.2.1 rfl (by decide) (by decide) (yv := .slice (some ⟨g5, 0, none⟩) m5 n5) (b := Z.heap.size) rfl rfl (ownsRow_below IZ.out.1.1.2.2.2.1 (bl_al (Below.refl _ _) _)) (Nat.le_trans IZ.out.1.1.1 (bl_al (Below.refl _ _) _).size) (heap_alloc_new _ _) (fun x _ => one_step x) (by have h1 := HBo.out.2.2; have h2 := IZ.out.1.1.2.2.1; have h3 := RL.out; clear kp1 kg' kg2; (try simp only [List.length_append, List.length_cons, List.length_nil] at h2); omega) (by decide) ?_; intro g9 m9 n9 w9 em ow gr gw gl; have S9 := Lib.hid (show ObI E lo (.slice B n c) X (nodeO t (.slice (some ⟨b0, off0, none⟩) t.kids.length ct)) (.slice (some ⟨g9, 0, none⟩) m9 n9) m9 (rs' ++ [⟨⟨11, g', 0, keyS e0, Tree.z, []⟩, none, 0, none, 0⟩] ++ [⟨⟨2, g2, r, bs0, Tree.z, [g']⟩, none, 0, some ⟨w7.heap.size, 0, none⟩, 1⟩]) (.slice (some ⟨g7, 0, none⟩) m7 n7) (ks ++ [g']) w9 from by rw [em]; exact (IZ.out.below (bl_al (Below.refl _ _) _)).app rfl (fun x hx => by rw [List.mem_singleton.1 hx]; exact ⟨.nil, HK9.out.keep (bl_al (Below.refl _ _) _).size fun b _ hl => (bl_al (Below.refl _ _) _).block b hl⟩) ow gr gw); have KP9 := Lib.hid (show ∀ b, b < Z.heap.size → ¬ (Value.ownBlock (.slice (some ⟨g5, 0, none⟩) m5 n5)) = some b → w9.heap[b]? = Z.heap[b]? from fun b hb hn => ((touch_grownE gr).block b (Nat.lt_of_lt_of_le hb (bl_al (Below.refl _ _) _).size) hn).trans ((bl_al (Below.refl Z.heap.size Z) _).block b hb)); have GW9 := Lib.hid (show (Value.ownBlock (.slice (some ⟨g5, 0, none⟩) m5 n5)) = some g9 ∨ Z.heap.size ≤ g9 from gw.imp id fun e => by rw [e]; exact (bl_al (Below.refl _ _) _).size); have L9 := Lib.hid (show Z.heap.size ≤ w9.heap.size from Nat.le_trans (bl_al (Below.refl _ _) _).size (touch_grownE gr).size); clear ow gr gw em))
                  have X9 := Lib.hid ((KP9.out _ (Array.getElem?_eq_some_iff.1 ZD.out).1 (IZ.out.1.1.2.2.typ ZD.out (by decide))).trans ZD.out)
                  have S9s := Lib.hid (show V.heap.size ≤ w9.heap.size from by have h1 := (Array.getElem?_eq_some_iff.1 UB.out.1).1; have h2 := (Array.getElem?_eq_some_iff.1 ZB.out).1; have h3 := L9.out; clear kp1 kg' kg2; omega)
                  have S9l := Lib.hid (fun k (hk : k < lo) => (S9.out.1.2.1.low HS.out.2.2 HS.out.1 k hk).trans (IV.out.1.2.1.low HS.out.2.2 HS.out.1 k hk).symm)
                  clear s0 s1 s2 s3 s4 s5 s6 s7 s8 s9 s10 l3
                  obtain ⟨⟨y0, y1, y2, y3, y4, y5⟩, _⟩ := cells6n X9.out
                  have l1 := (Array.getElem?_eq_some_iff.1 X9.out).1
                  obtain ⟨v0, v1, v2, v3, v4, v5⟩ := (show AtN w9 b1 (off1 + 6) e1 (.slice A7 e1.kids.length c7) from by
                    obtain ⟨h0, h1, h2, h3, h4, h5⟩ := D1.out.2
                    have f := fun j => World.cell?_of_block (a := ⟨b1, j, none⟩) (S9l.out b1 D0.out.2.2)
                    exact ⟨(f _).trans h0, (f _).trans h1, (f _).trans h2, (f _).trans h3, (f _).trans h4, (f _).trans h5⟩)
                  have lb1 : b1 < w9.heap.size := Nat.lt_of_lt_of_le (Nat.lt_of_lt_of_le D0.out.2.2 IV.out.1.1.1) S9s.out
                  have IC := Lib.hid (IH (exK E (.slice (some ⟨g7, 0, none⟩) m7 n7)) lo (some ⟨g9, 0, none⟩) m9 n9 (rs' ++ [⟨⟨11, g', 0, keyS e0, Tree.z, []⟩, none, 0, none, 0⟩] ++ [⟨⟨2, g2, r, bs0, Tree.z, [g']⟩, none, 0, some ⟨w7.heap.size, 0, none⟩, 1⟩]) e1 A7 c7 (g2 + 1) g2 w9 (by have h1 := DS.out; have h2 := SL.out; clear kp1 kg' kg2; omega) S9.out.1.1 (nd_low D1.out.1 S9s.out (fun k hk => S9l.out k hk)) OE.out.2 (by have h1 := HBo.out; have h2 := SL.out; have h3 := HG.out; clear kp1 kg' kg2; unfold Bd; simp only [mkR, List.length_map, List.length_append, List.length_cons, List.length_nil]; omega))
                  obtain ⟨y8, hy8⟩ : ∃ y, y = apT e1 g2 (mkR (rs' ++ [⟨⟨11, g', 0, keyS e0, Tree.z, []⟩, none, 0, none, 0⟩] ++ [⟨⟨2, g2, r, bs0, Tree.z, [g']⟩, none, 0, some ⟨w7.heap.size, 0, none⟩, 1⟩]) (g2 + 1)) := ⟨_, rfl⟩
                  rw [← hy8] at IC
                  have RF := Lib.hid (show yF = obT true (t.kids.drop (q + 1)) r (ks ++ [g']) y8 by rw [hy8]; exact RR.out.trans (by first | (simp only [mkR, List.map_append, List.map_cons, List.map_nil]; done) | rfl))
                  have BN := Lib.hid (show 0 ≤ y8.g ∧ y8.g + 2 * (sizeK (t.kids.drop (q + 1)) : Nat) ≤ 499999 ∧ y8.l.length + 4 * sizeK (t.kids.drop (q + 1)) ≤ 499998 by have h0 := ap_bound e1 g2 (mkR (rs' ++ [⟨⟨11, g', 0, keyS e0, Tree.z, []⟩, none, 0, none, 0⟩] ++ [⟨⟨2, g2, r, bs0, Tree.z, [g']⟩, none, 0, some ⟨w7.heap.size, 0, none⟩, 1⟩]) (g2 + 1)); rw [← hy8] at h0; unfold AddsT at h0; have h1 := HBo.out; have h2 := SL.out; have h3 := HG.out; clear kp1 kg' kg2; simp only [mkR, List.length_map, List.length_append, List.length_cons, List.length_nil] at h0; omega)
                  clear hy8
                  cases hyb : y8.b with
                  | true =>
                    have HY := Lib.hid hyb
                    have BF := Lib.hid (show yF.b = true by rw [RF.out]; exact bad_all.2.2.2.1 _ _ _ _ _ hyb)
                    clear hyb
                    go_wp2_with (go_at_call 25; go_loud (refine (IC.out.mono fun e Y h => h.bad HY.out).mono ?_; rintro e Y ⟨rfl, r8⟩; have H8 := Lib.hid (S9.out.1.2.1.trans r8); clear r8))
                    go_ret3
                    exact .inl ⟨BF.out, rfl, H8.out⟩
                  | false =>
                    have HY := Lib.hid hyb
                    clear hyb
                    go_wp2_with (go_at_call 25; go_loud (refine (IC.out.mono fun e Y h => h.good HY.out).mono ?_; rintro e Y ⟨B8, n8, c8, rs8, rfl, h8, m8, r8⟩; have H8 := Lib.hid (And.intro (S9.out.call h8 r8) (mkR_eq m8 HY.out)); clear h8 m8 r8))
                    go_roundw
                    case rel => exact ⟨q + 1, n8, c8, n7, B8, some ⟨g7, 0, none⟩, rs8, ks ++ [g'], y8.g, by first | with_reducible rfl | (rw [kp1]; done), rfl, rfl, by rw [KM.out], Lib.hid ⟨LQ.out.1, by rw [H8.out.2]; exact RF.out, by rw [H8.out.2]; exact BN.out, by have h1 := HQ.out.2.2.2; clear kp1 kg' kg2; simp only [List.length_append, List.length_cons, List.length_nil]; omega⟩, Lib.hid (by rw [← KM.out]; exact H8.out.1)⟩
                    case measure => (first | ((try rw [kp1]); exact meas_c rfl LQ.out.1) | (clear kp1 kg' kg2; have := LQ.out.1; simp only [intOf]; omega))
              | false =>
                rcases pp with p1 | ⟨p1, p2⟩
                · go_upto_region 18 with fail
                  refine wpd_world (fun S => S.heap[U.heap.size]? = some (stepRO (plR 2 0 r bs0)) ∧ Below U.heap.size U S) ⟨heap_alloc_new _ _, by (repeat (with_reducible first | exact Below.refl _ _ | (refine bl_set ?_ (by first | omega | (simp; done) | (simp; omega)) _) | refine bl_gr ?_ _ | refine bl_al ?_ _ | refine below_setRow ?_ (by first | omega | (simp; done) | (simp; omega)) _ | refine bl_drewN ?_ _ | refine Below.drew ?_ | (refine bl_tr ?_ (by assumption))))⟩ ?_
                  intro S hS
                  have IS := Lib.hid (IU.out.below hS.2)
                  have SB := Lib.hid hS.1
                  have WD := Lib.hid ((hS.2.block _ (Array.getElem?_eq_some_iff.1 WK.out).1).trans WK.out)
                  have WE := Lib.hid ((hS.2.block _ (Array.getElem?_eq_some_iff.1 UB.out.1).1).trans UB.out.1)
                  have RNE := Lib.hid (fun g (hg : (Value.slice B' m' n').ownBlock = some g) => (own_ltN IU.out.1.1.2.2.2.1 g hg).2)
                  have SU := Lib.hid (show S.heap.size = S.heap.size from rfl)
                  have RTS := Lib.hid (fun W (hW : Below S.heap.size S W) => by have h1 := rests_any (fun b => b < lo) t (some ⟨b0, off0, none⟩) ct W ((nd_low HT.out IS.out.1.2.1.size (IS.out.1.2.1.low HS.out.2.2 HS.out.1)).bel hW); rw [RM.out] at h1; exact h1)
                  clear a0 a1 a2 a3 a4 a5 l0 y0 y1 y2 y3 y4 y5 yf l1 x0 x1 x2 x3 x4 x5 xf l2
                  obtain ⟨⟨a0, a1, a2, a3, a4, a5⟩, _⟩ := cells6n IS.out.1.2.2
                  have l0 := IS.out.1.lt
                  obtain ⟨⟨y0, y1, y2, y3, y4, y5⟩, _⟩ := cells6n WD.out
                  have l1 := (Array.getElem?_eq_some_iff.1 WD.out).1
                  obtain ⟨⟨x0, x1, x2, x3, x4, x5⟩, _⟩ := cells6n WE.out
                  have l2 := (Array.getElem?_eq_some_iff.1 WE.out).1
                  have sf : ∀ j, S.frozen? ⟨U.heap.size, j, none⟩ = false := fun j => frozen_of_row S _ j _ _ SB.out
                  obtain ⟨⟨s0, s1, s2, s3, s4, s5, s6, s7, s8, s9, s10⟩, _⟩ := cells11q (d := ⟨2, 0, r, bs0, Tree.z, []⟩) (A1 := none) (c1 := 0) (A2 := none) (c2 := 0) SB.out
                  have l3 := (Array.getElem?_eq_some_iff.1 SB.out).1
                  clear hS
                  have kg2 := kg'
                  have HG := Lib.hid (show g' = g' from rfl)
                  have RR := Lib.hid (show yF = obT false (t.kids.drop (q + 1)) r ks (apT e1 g' (mkR (rs' ++ [⟨⟨2, g', r, keyS e0, Tree.z, []⟩, none, 0, none, 0⟩]) (g' + 1))) by rw [mkR_lay, HR.out]; exact robT_no HD.out.1 HD.out.2 HM.out.1 HM.out.2)
                  go_upto_region 23 with (first | (go_at_call 40; refine (callGr (RTS.out _ (by (repeat (with_reducible first | exact Below.refl _ _ | (refine bl_set ?_ (by first | omega | (simp; done) | (simp; omega)) _) | refine bl_gr ?_ _ | refine bl_al ?_ _ | refine below_setRow ?_ (by first | omega | (simp; done) | (simp; omega)) _ | refine bl_drewN ?_ _ | refine Below.drew ?_ | (refine bl_tr ?_ (by assumption))))))).mono ?_; rintro e w' ⟨pp, rfl, rfl⟩) | (go_at_call 41; refine (callGr (CA.out _)).mono ?_; rintro e w' ⟨pp, rfl, rfl⟩))
                  refine wpd_world (fun T => T.heap[U.heap.size]? = some (stepRO ⟨⟨2, 0, r, keyS e0, Tree.z, []⟩, none, 0, none, 0⟩) ∧ Touch (fun b => b = U.heap.size) S T) ⟨by first | exact box_sg SB.out _ _ | exact box_gs SB.out _ _, by first | exact Touch.gr (Touch.set1 (Touch.refl _ _) _ _) _ | exact Touch.set1 (Touch.gr (Touch.refl _ _) _) _ _⟩ ?_
                  intro T hT
                  have IT := Lib.hid (IS.out.stepBox HS.out.1 SB.out (show X.heap.size < U.heap.size from IU.out.1.lt) (fun g hg e => Nat.lt_irrefl _ (e ▸ RNE.out g hg)) hT.2)
                  have TB := Lib.hid hT.1
                  have TD := Lib.hid ((hT.2.block _ (Array.getElem?_eq_some_iff.1 WD.out).1 (Nat.ne_of_lt (Array.getElem?_eq_some_iff.1 WK.out).1)).trans WD.out)
                  clear RTS
                  have RTS := Lib.hid (fun W (hW : Below T.heap.size T W) => by have h1 := rests_any (fun b => b < lo) t (some ⟨b0, off0, none⟩) ct W ((nd_low HT.out IT.out.1.2.1.size (IT.out.1.2.1.low HS.out.2.2 HS.out.1)).bel hW); rw [RM.out] at h1; exact h1)
                  clear a0 a1 a2 a3 a4 a5 l0 y0 y1 y2 y3 y4 y5 l1 x0 x1 x2 x3 x4 x5 l2 s0 s1 s2 s3 s4 s5 s6 s7 s8 s9 s10 sf l3 hT
                  obtain ⟨⟨a0, a1, a2, a3, a4, a5⟩, _⟩ := cells6n IT.out.1.2.2
                  have l0 := IT.out.1.lt
                  obtain ⟨⟨y0, y1, y2, y3, y4, y5⟩, _⟩ := cells6n TD.out
                  have l1 := (Array.getElem?_eq_some_iff.1 TD.out).1
                  have sf : ∀ j, T.frozen? ⟨U.heap.size, j, none⟩ = false := fun j => frozen_of_row T _ j _ _ TB.out
                  obtain ⟨⟨s0, s1, s2, s3, s4, s5, s6, s7, s8, s9, s10⟩, _⟩ := cells11q (d := ⟨2, 0, r, keyS e0, Tree.z, []⟩) (A1 := none) (c1 := 0) (A2 := none) (c2 := 0) TB.out
                  have l3 := (Array.getElem?_eq_some_iff.1 TB.out).1
                  go_upto_region 28 with (go_at_call 40; refine (callGr (RTS.out _ (by (repeat (with_reducible first | exact Below.refl _ _ | (refine bl_set ?_ (by first | omega | (simp; done) | (simp; omega)) _) | refine bl_gr ?_ _ | refine bl_al ?_ _ | refine below_setRow ?_ (by first | omega | (simp; done) | (simp; omega)) _ | refine bl_drewN ?_ _ | refine Below.drew ?_ | (refine bl_tr ?_ (by assumption))))))).mono ?_; rintro e w' ⟨pp, rfl, rfl⟩)
                  refine wpd_world (fun Z => Z.heap[U.heap.size]? = some (stepRO ⟨⟨2, g', r, keyS e0, Tree.z, []⟩, none, 0, none, 0⟩) ∧ Touch (fun b => b = U.heap.size) T Z) ⟨by first | exact box_sg TB.out _ _ | exact box_gs TB.out _ _, by first | exact Touch.gr (Touch.set1 (Touch.refl _ _) _ _) _ | exact Touch.set1 (Touch.gr (Touch.refl _ _) _) _ _⟩ ?_
                  intro Z hZ
                  have IZ := Lib.hid (IT.out.stepBox HS.out.1 TB.out (show X.heap.size < U.heap.size from IU.out.1.lt) (fun g hg e => Nat.lt_irrefl _ (e ▸ RNE.out g hg)) hZ.2)
                  have ZB := Lib.hid hZ.1
                  have ZD := Lib.hid ((hZ.2.block _ (Array.getElem?_eq_some_iff.1 TD.out).1 (Nat.ne_of_lt (Array.getElem?_eq_some_iff.1 WK.out).1)).trans TD.out)
                  clear a0 a1 a2 a3 a4 a5 l0 y0 y1 y2 y3 y4 y5 l1 s0 s1 s2 s3 s4 s5 s6 s7 s8 s9 s10 sf l3 hZ RTS
                  obtain ⟨⟨s0, s1, s2, s3, s4, s5, s6, s7, s8, s9, s10⟩, _⟩ := cells11q (d := ⟨2, g', r, keyS e0, Tree.z, []⟩) (A1 := none) (c1 := 0) (A2 := none) (c2 := 0) ZB.out
                  have l3 := (Array.getElem?_eq_some_iff.1 ZB.out).1
                  go_upto_region 29 with (at_builtin; go_loud (refine wpList_appL elem_stepR rfl _ _ rfl lo (rs') [⟨⟨2, g', r, keyS e0, Tree.z, []⟩, none, 0, none, 0⟩] (k := 1) IZ.out.1.1.2.2.1 rfl (by decide) (by decide) (yv := .slice B' m' n') (b := Z.heap.size) rfl rfl (ownsRow_below IZ.out.1.1.2.2.2.1 (bl_al (Below.refl _ _) _)) (Nat.le_trans IZ.out.1.1.1 (bl_al (Below.refl _ _) _).size) (heap_alloc_new _ _) (fun x _ => one_step x) (by have h1 := HBo.out.2.2; have h2 := IZ.out.1.1.2.2.1; have h3 := RL.out; clear kp1 kg' kg2; (try simp only [List.length_append, List.length_cons, List.length_nil] at h2); omega) (by decide) ?_; intro g9 m9 n9 w9 em ow gr gw gl; have S9 := Lib.hid (show ObI E lo (.slice B n c) X (nodeO t (.slice (some ⟨b0, off0, none⟩) t.kids.length ct)) (.slice (some ⟨g9, 0, none⟩) m9 n9) m9 (rs' ++ [⟨⟨2, g', r, keyS e0, Tree.z, []⟩, none, 0, none, 0⟩]) (.slice Bk ks.length nk) (ks) w9 from by rw [em]; exact (IZ.out.below (bl_al (Below.refl _ _) _)).app rfl (fun x hx => by rw [List.mem_singleton.1 hx]; exact ⟨.nil, IsKs.nil⟩) ow gr gw); have KP9 := Lib.hid (show ∀ b, b < Z.heap.size → ¬ (Value.ownBlock (.slice B' m' n')) = some b → w9.heap[b]? = Z.heap[b]? from fun b hb hn => ((touch_grownE gr).block b (Nat.lt_of_lt_of_le hb (bl_al (Below.refl _ _) _).size) hn).trans ((bl_al (Below.refl Z.heap.size Z) _).block b hb)); have GW9 := Lib.hid (show (Value.ownBlock (.slice B' m' n')) = some g9 ∨ Z.heap.size ≤ g9 from gw.imp id fun e => by rw [e]; exact (bl_al (Below.refl _ _) _).size); have L9 := Lib.hid (show Z.heap.size ≤ w9.heap.size from Nat.le_trans (bl_al (Below.refl _ _) _).size (touch_grownE gr).size); clear ow gr gw em))
                  have X9 := Lib.hid ((KP9.out _ (Array.getElem?_eq_some_iff.1 ZD.out).1 (IZ.out.1.1.2.2.typ ZD.out (by decide))).trans ZD.out)
                  have S9s := Lib.hid (show V.heap.size ≤ w9.heap.size from by have h1 := (Array.getElem?_eq_some_iff.1 UB.out.1).1; have h2 := (Array.getElem?_eq_some_iff.1 ZB.out).1; have h3 := L9.out; clear kp1 kg' kg2; omega)
                  have S9l := Lib.hid (fun k (hk : k < lo) => (S9.out.1.2.1.low HS.out.2.2 HS.out.1 k hk).trans (IV.out.1.2.1.low HS.out.2.2 HS.out.1 k hk).symm)
                  clear s0 s1 s2 s3 s4 s5 s6 s7 s8 s9 s10 l3
                  obtain ⟨⟨y0, y1, y2, y3, y4, y5⟩, _⟩ := cells6n X9.out
                  have l1 := (Array.getElem?_eq_some_iff.1 X9.out).1
                  obtain ⟨v0, v1, v2, v3, v4, v5⟩ := (show AtN w9 b1 (off1 + 6) e1 (.slice A7 e1.kids.length c7) from by
                    obtain ⟨h0, h1, h2, h3, h4, h5⟩ := D1.out.2
                    have f := fun j => World.cell?_of_block (a := ⟨b1, j, none⟩) (S9l.out b1 D0.out.2.2)
                    exact ⟨(f _).trans h0, (f _).trans h1, (f _).trans h2, (f _).trans h3, (f _).trans h4, (f _).trans h5⟩)
                  have lb1 : b1 < w9.heap.size := Nat.lt_of_lt_of_le (Nat.lt_of_lt_of_le D0.out.2.2 IV.out.1.1.1) S9s.out
                  have IC := Lib.hid (IH (exK E (.slice Bk ks.length nk)) lo (some ⟨g9, 0, none⟩) m9 n9 (rs' ++ [⟨⟨2, g', r, keyS e0, Tree.z, []⟩, none, 0, none, 0⟩]) e1 A7 c7 (g' + 1) g' w9 (by have h1 := DS.out; have h2 := SL.out; clear kp1 kg' kg2; omega) S9.out.1.1 (nd_low D1.out.1 S9s.out (fun k hk => S9l.out k hk)) OE.out.2 (by have h1 := HBo.out; have h2 := SL.out; have h3 := HG.out; clear kp1 kg' kg2; unfold Bd; simp only [mkR, List.length_map, List.length_append, List.length_cons, List.length_nil]; omega))
                  obtain ⟨y8, hy8⟩ : ∃ y, y = apT e1 g' (mkR (rs' ++ [⟨⟨2, g', r, keyS e0, Tree.z, []⟩, none, 0, none, 0⟩]) (g' + 1)) := ⟨_, rfl⟩
                  rw [← hy8] at IC
                  have RF := Lib.hid (show yF = obT false (t.kids.drop (q + 1)) r (ks) y8 by rw [hy8]; exact RR.out.trans (by first | (simp only [mkR, List.map_append, List.map_cons, List.map_nil]; done) | rfl))
                  have BN := Lib.hid (show 0 ≤ y8.g ∧ y8.g + 2 * (sizeK (t.kids.drop (q + 1)) : Nat) ≤ 499999 ∧ y8.l.length + 4 * sizeK (t.kids.drop (q + 1)) ≤ 499998 by have h0 := ap_bound e1 g' (mkR (rs' ++ [⟨⟨2, g', r, keyS e0, Tree.z, []⟩, none, 0, none, 0⟩]) (g' + 1)); rw [← hy8] at h0; unfold AddsT at h0; have h1 := HBo.out; have h2 := SL.out; have h3 := HG.out; clear kp1 kg' kg2; simp only [mkR, List.length_map, List.length_append, List.length_cons, List.length_nil] at h0; omega)
                  clear hy8
                  cases hyb : y8.b with
                  | true =>
                    have HY := Lib.hid hyb
                    have BF := Lib.hid (show yF.b = true by rw [RF.out]; exact bad_all.2.2.2.1 _ _ _ _ _ hyb)
                    clear hyb
                    go_wp2_with (go_at_call 25; go_loud (refine (IC.out.mono fun e Y h => h.bad HY.out).mono ?_; rintro e Y ⟨rfl, r8⟩; have H8 := Lib.hid (S9.out.1.2.1.trans r8); clear r8))
                    go_ret3
                    exact .inl ⟨BF.out, rfl, H8.out⟩
                  | false =>
                    have HY := Lib.hid hyb
                    clear hyb
                    go_wp2_with (go_at_call 25; go_loud (refine (IC.out.mono fun e Y h => h.good HY.out).mono ?_; rintro e Y ⟨B8, n8, c8, rs8, rfl, h8, m8, r8⟩; have H8 := Lib.hid (And.intro (S9.out.call h8 r8) (mkR_eq m8 HY.out)); clear h8 m8 r8))
                    go_roundw
                    case rel => exact ⟨q + 1, n8, c8, nk, B8, Bk, rs8, ks, y8.g, by first | with_reducible rfl | (rw [kp1]; done), rfl, rfl, rfl, Lib.hid ⟨LQ.out.1, by rw [H8.out.2]; exact RF.out, by rw [H8.out.2]; exact BN.out, by have h1 := HQ.out.2.2.2; clear kp1 kg' kg2; omega⟩, Lib.hid (H8.out.1)⟩
                    case measure => (first | ((try rw [kp1]); exact meas_c rfl LQ.out.1) | (clear kp1 kg' kg2; have := LQ.out.1; simp only [intOf]; omega))
                · go_upto_region 18 with fail
                  refine wpd_world (fun S => S.heap[U.heap.size]? = some (stepRO (plR 2 0 r bs0)) ∧ Below U.heap.size U S) ⟨heap_alloc_new _ _, by (repeat (with_reducible first | exact Below.refl _ _ | (refine bl_set ?_ (by first | omega | (simp; done) | (simp; omega)) _) | refine bl_gr ?_ _ | refine bl_al ?_ _ | refine below_setRow ?_ (by first | omega | (simp; done) | (simp; omega)) _ | refine bl_drewN ?_ _ | refine Below.drew ?_ | (refine bl_tr ?_ (by assumption))))⟩ ?_
                  intro S hS
                  have IS := Lib.hid (IU.out.below hS.2)
                  have SB := Lib.hid hS.1
                  have WD := Lib.hid ((hS.2.block _ (Array.getElem?_eq_some_iff.1 WK.out).1).trans WK.out)
                  have WE := Lib.hid ((hS.2.block _ (Array.getElem?_eq_some_iff.1 UB.out.1).1).trans UB.out.1)
                  have RNE := Lib.hid (fun g (hg : (Value.slice B' m' n').ownBlock = some g) => (own_ltN IU.out.1.1.2.2.2.1 g hg).2)
                  have SU := Lib.hid (show S.heap.size = S.heap.size from rfl)
                  have RTS := Lib.hid (fun W (hW : Below S.heap.size S W) => by have h1 := rests_any (fun b => b < lo) t (some ⟨b0, off0, none⟩) ct W ((nd_low HT.out IS.out.1.2.1.size (IS.out.1.2.1.low HS.out.2.2 HS.out.1)).bel hW); rw [RM.out] at h1; exact h1)
                  clear a0 a1 a2 a3 a4 a5 l0 y0 y1 y2 y3 y4 y5 yf l1 x0 x1 x2 x3 x4 x5 xf l2
                  obtain ⟨⟨a0, a1, a2, a3, a4, a5⟩, _⟩ := cells6n IS.out.1.2.2
                  have l0 := IS.out.1.lt
                  obtain ⟨⟨y0, y1, y2, y3, y4, y5⟩, _⟩ := cells6n WD.out
                  have l1 := (Array.getElem?_eq_some_iff.1 WD.out).1
                  obtain ⟨⟨x0, x1, x2, x3, x4, x5⟩, _⟩ := cells6n WE.out
                  have l2 := (Array.getElem?_eq_some_iff.1 WE.out).1
                  have sf : ∀ j, S.frozen? ⟨U.heap.size, j, none⟩ = false := fun j => frozen_of_row S _ j _ _ SB.out
                  obtain ⟨⟨s0, s1, s2, s3, s4, s5, s6, s7, s8, s9, s10⟩, _⟩ := cells11q (d := ⟨2, 0, r, bs0, Tree.z, []⟩) (A1 := none) (c1 := 0) (A2 := none) (c2 := 0) SB.out
                  have l3 := (Array.getElem?_eq_some_iff.1 SB.out).1
                  clear hS
                  have kg2 := kg'
                  have HG := Lib.hid (show g' = g' from rfl)
                  have RR := Lib.hid (show yF = obT false (t.kids.drop (q + 1)) r ks (apT e1 g' (mkR (rs' ++ [⟨⟨2, g', r, keyS e0, Tree.z, []⟩, none, 0, none, 0⟩]) (g' + 1))) by rw [mkR_lay, HR.out]; exact robT_no HD.out.1 HD.out.2 HM.out.1 HM.out.2)
                  go_upto_region 23 with (first | (go_at_call 40; refine (callGr (RTS.out _ (by (repeat (with_reducible first | exact Below.refl _ _ | (refine bl_set ?_ (by first | omega | (simp; done) | (simp; omega)) _) | refine bl_gr ?_ _ | refine bl_al ?_ _ | refine below_setRow ?_ (by first | omega | (simp; done) | (simp; omega)) _ | refine bl_drewN ?_ _ | refine Below.drew ?_ | (refine bl_tr ?_ (by assumption))))))).mono ?_; rintro e w' ⟨pp, rfl, rfl⟩) | (go_at_call 41; refine (callGr (CA.out _)).mono ?_; rintro e w' ⟨pp, rfl, rfl⟩))
                  refine wpd_world (fun T => T.heap[U.heap.size]? = some (stepRO ⟨⟨2, 0, r, keyS e0, Tree.z, []⟩, none, 0, none, 0⟩) ∧ Touch (fun b => b = U.heap.size) S T) ⟨by first | exact box_sg SB.out _ _ | exact box_gs SB.out _ _, by first | exact Touch.gr (Touch.set1 (Touch.refl _ _) _ _) _ | exact Touch.set1 (Touch.gr (Touch.refl _ _) _) _ _⟩ ?_
                  intro T hT
                  have IT := Lib.hid (IS.out.stepBox HS.out.1 SB.out (show X.heap.size < U.heap.size from IU.out.1.lt) (fun g hg e => Nat.lt_irrefl _ (e ▸ RNE.out g hg)) hT.2)
                  have TB := Lib.hid hT.1
                  have TD := Lib.hid ((hT.2.block _ (Array.getElem?_eq_some_iff.1 WD.out).1 (Nat.ne_of_lt (Array.getElem?_eq_some_iff.1 WK.out).1)).trans WD.out)
                  clear RTS
                  have RTS := Lib.hid (fun W (hW : Below T.heap.size T W) => by have h1 := rests_any (fun b => b < lo) t (some ⟨b0, off0, none⟩) ct W ((nd_low HT.out IT.out.1.2.1.size (IT.out.1.2.1.low HS.out.2.2 HS.out.1)).bel hW); rw [RM.out] at h1; exact h1)
                  clear a0 a1 a2 a3 a4 a5 l0 y0 y1 y2 y3 y4 y5 l1 x0 x1 x2 x3 x4 x5 l2 s0 s1 s2 s3 s4 s5 s6 s7 s8 s9 s10 sf l3 hT
                  obtain ⟨⟨a0, a1, a2, a3, a4, a5⟩, _⟩ := cells6n IT.out.1.2.2
                  have l0 := IT.out.1.lt
                  obtain ⟨⟨y0, y1, y2, y3, y4, y5⟩, _⟩ := cells6n TD.out
                  have l1 := (Array.getElem?_eq_some_iff.1 TD.out).1
                  have sf : ∀ j, T.frozen? ⟨U.heap.size, j, none⟩ = false := fun j => frozen_of_row T _ j _ _ TB.out
                  obtain ⟨⟨s0, s1, s2, s3, s4, s5, s6, s7, s8, s9, s10⟩, _⟩ := cells11q (d := ⟨2, 0, r, keyS e0, Tree.z, []⟩) (A1 := none) (c1 := 0) (A2 := none) (c2 := 0) TB.out
                  have l3 := (Array.getElem?_eq_some_iff.1 TB.out).1
                  go_upto_region 28 with (go_at_call 40; refine (callGr (RTS.out _ (by (repeat (with_reducible first | exact Below.refl _ _ | (refine bl_set ?_ (by first | omega | (simp; done) | (simp; omega)) _) | refine bl_gr ?_ _ | refine bl_al ?_ _ | refine below_setRow ?_ (by first | omega | (simp; done) | (simp; omega)) _ | refine bl_drewN ?_ _ | refine Below.drew ?_ | (refine bl_tr ?_ (by assumption))))))).mono ?_; rintro e w' ⟨pp, rfl, rfl⟩)
                  refine wpd_world (fun Z => Z.heap[U.heap.size]? = some (stepRO ⟨⟨2, g', r, keyS e0, Tree.z, []⟩, none, 0, none, 0⟩) ∧ Touch (fun b => b = U.heap.size) T Z) ⟨by first | exact box_sg TB.out _ _ | exact box_gs TB.out _ _, by first | exact Touch.gr (Touch.set1 (Touch.refl _ _) _ _) _ | exact Touch.set1 (Touch.gr (Touch.refl _ _) _) _ _⟩ ?_
                  intro Z hZ
                  have IZ := Lib.hid (IT.out.stepBox HS.out.1 TB.out (show X.heap.size < U.heap.size from IU.out.1.lt) (fun g hg e => Nat.lt_irrefl _ (e ▸ RNE.out g hg)) hZ.2)
                  have ZB := Lib.hid hZ.1
                  have ZD := Lib.hid ((hZ.2.block _ (Array.getElem?_eq_some_iff.1 TD.out).1 (Nat.ne_of_lt (Array.getElem?_eq_some_iff.1 WK.out).1)).trans TD.out)
                  clear a0 a1 a2 a3 a4 a5 l0 y0 y1 y2 y3 y4 y5 l1 s0 s1 s2 s3 s4 s5 s6 s7 s8 s9 s10 sf l3 hZ RTS
                  obtain ⟨⟨s0, s1, s2, s3, s4, s5, s6, s7, s8, s9, s10⟩, _⟩ := cells11q (d := ⟨2, g', r, keyS e0, Tree.z, []⟩) (A1 := none) (c1 := 0) (A2 := none) (c2 := 0) ZB.out
                  have l3 := (Array.getElem?_eq_some_iff.1 ZB.out).1
                  go_upto_region 29 with (at_builtin; go_loud (refine wpList_appL elem_stepR rfl _ _ rfl lo (rs') [⟨⟨2, g', r, keyS e0, Tree.z, []⟩, none, 0, none, 0⟩] (k := 1) IZ.out.1.1.2.2.1 rfl (by decide) (by decide) (yv := .slice B' m' n') (b := Z.heap.size) rfl rfl (ownsRow_below IZ.out.1.1.2.2.2.1 (bl_al (Below.refl _ _) _)) (Nat.le_trans IZ.out.1.1.1 (bl_al (Below.refl _ _) _).size) (heap_alloc_new _ _) (fun x _ => one_step x) (by have h1 := HBo.out.2.2; have h2 := IZ.out.1.1.2.2.1; have h3 := RL.out; clear kp1 kg' kg2; (try simp only [List.length_append, List.length_cons, List.length_nil] at h2); omega) (by decide) ?_; intro g9 m9 n9 w9 em ow gr gw gl; have S9 := Lib.hid (show ObI E lo (.slice B n c) X (nodeO t (.slice (some ⟨b0, off0, none⟩) t.kids.length ct)) (.slice (some ⟨g9, 0, none⟩) m9 n9) m9 (rs' ++ [⟨⟨2, g', r, keyS e0, Tree.z, []⟩, none, 0, none, 0⟩]) (.slice Bk ks.length nk) (ks) w9 from by rw [em]; exact (IZ.out.below (bl_al (Below.refl _ _) _)).app rfl (fun x hx => by rw [List.mem_singleton.1 hx]; exact ⟨.nil, IsKs.nil⟩) ow gr gw); have KP9 := Lib.hid (show ∀ b, b < Z.heap.size → ¬ (Value.ownBlock (.slice B' m' n')) = some b → w9.heap[b]? = Z.heap[b]? from fun b hb hn => ((touch_grownE gr).block b (Nat.lt_of_lt_of_le hb (bl_al (Below.refl _ _) _).size) hn).trans ((bl_al (Below.refl Z.heap.size Z) _).block b hb)); have GW9 := Lib.hid (show (Value.ownBlock (.slice B' m' n')) = some g9 ∨ Z.heap.size ≤ g9 from gw.imp id fun e => by rw [e]; exact (bl_al (Below.refl _ _) _).size); have L9 := Lib.hid (show Z.heap.size ≤ w9.heap.size from Nat.le_trans (bl_al (Below.refl _ _) _).size (touch_grownE gr).size); clear ow gr gw em))
                  have X9 := Lib.hid ((KP9.out _ (Array.getElem?_eq_some_iff.1 ZD.out).1 (IZ.out.1.1.2.2.typ ZD.out (by decide))).trans ZD.out)
                  have S9s := Lib.hid (show V.heap.size ≤ w9.heap.size from by have h1 := (Array.getElem?_eq_some_iff.1 UB.out.1).1; have h2 := (Array.getElem?_eq_some_iff.1 ZB.out).1; have h3 := L9.out; clear kp1 kg' kg2; omega)
                  have S9l := Lib.hid (fun k (hk : k < lo) => (S9.out.1.2.1.low HS.out.2.2 HS.out.1 k hk).trans (IV.out.1.2.1.low HS.out.2.2 HS.out.1 k hk).symm)
                  clear s0 s1 s2 s3 s4 s5 s6 s7 s8 s9 s10 l3
                  obtain ⟨⟨y0, y1, y2, y3, y4, y5⟩, _⟩ := cells6n X9.out
                  have l1 := (Array.getElem?_eq_some_iff.1 X9.out).1
                  obtain ⟨v0, v1, v2, v3, v4, v5⟩ := (show AtN w9 b1 (off1 + 6) e1 (.slice A7 e1.kids.length c7) from by
                    obtain ⟨h0, h1, h2, h3, h4, h5⟩ := D1.out.2
                    have f := fun j => World.cell?_of_block (a := ⟨b1, j, none⟩) (S9l.out b1 D0.out.2.2)
                    exact ⟨(f _).trans h0, (f _).trans h1, (f _).trans h2, (f _).trans h3, (f _).trans h4, (f _).trans h5⟩)
                  have lb1 : b1 < w9.heap.size := Nat.lt_of_lt_of_le (Nat.lt_of_lt_of_le D0.out.2.2 IV.out.1.1.1) S9s.out
                  have IC := Lib.hid (IH (exK E (.slice Bk ks.length nk)) lo (some ⟨g9, 0, none⟩) m9 n9 (rs' ++ [⟨⟨2, g', r, keyS e0, Tree.z, []⟩, none, 0, none, 0⟩]) e1 A7 c7 (g' + 1) g' w9 (by have h1 := DS.out; have h2 := SL.out; clear kp1 kg' kg2; omega) S9.out.1.1 (nd_low D1.out.1 S9s.out (fun k hk => S9l.out k hk)) OE.out.2 (by have h1 := HBo.out; have h2 := SL.out; have h3 := HG.out; clear kp1 kg' kg2; unfold Bd; simp only [mkR, List.length_map, List.length_append, List.length_cons, List.length_nil]; omega))
                  obtain ⟨y8, hy8⟩ : ∃ y, y = apT e1 g' (mkR (rs' ++ [⟨⟨2, g', r, keyS e0, Tree.z, []⟩, none, 0, none, 0⟩]) (g' + 1)) := ⟨_, rfl⟩
                  rw [← hy8] at IC
                  have RF := Lib.hid (show yF = obT false (t.kids.drop (q + 1)) r (ks) y8 by rw [hy8]; exact RR.out.trans (by first | (simp only [mkR, List.map_append, List.map_cons, List.map_nil]; done) | rfl))
                  have BN := Lib.hid (show 0 ≤ y8.g ∧ y8.g + 2 * (sizeK (t.kids.drop (q + 1)) : Nat) ≤ 499999 ∧ y8.l.length + 4 * sizeK (t.kids.drop (q + 1)) ≤ 499998 by have h0 := ap_bound e1 g' (mkR (rs' ++ [⟨⟨2, g', r, keyS e0, Tree.z, []⟩, none, 0, none, 0⟩]) (g' + 1)); rw [← hy8] at h0; unfold AddsT at h0; have h1 := HBo.out; have h2 := SL.out; have h3 := HG.out; clear kp1 kg' kg2; simp only [mkR, List.length_map, List.length_append, List.length_cons, List.length_nil] at h0; omega)
                  clear hy8
                  cases hyb : y8.b with
                  | true =>
                    have HY := Lib.hid hyb
                    have BF := Lib.hid (show yF.b = true by rw [RF.out]; exact bad_all.2.2.2.1 _ _ _ _ _ hyb)
                    clear hyb
                    go_wp2_with (go_at_call 25; go_loud (refine (IC.out.mono fun e Y h => h.bad HY.out).mono ?_; rintro e Y ⟨rfl, r8⟩; have H8 := Lib.hid (S9.out.1.2.1.trans r8); clear r8))
                    go_ret3
                    exact .inl ⟨BF.out, rfl, H8.out⟩
                  | false =>
                    have HY := Lib.hid hyb
                    clear hyb
                    go_wp2_with (go_at_call 25; go_loud (refine (IC.out.mono fun e Y h => h.good HY.out).mono ?_; rintro e Y ⟨B8, n8, c8, rs8, rfl, h8, m8, r8⟩; have H8 := Lib.hid (And.intro (S9.out.call h8 r8) (mkR_eq m8 HY.out)); clear h8 m8 r8))
                    go_roundw
                    case rel => exact ⟨q + 1, n8, c8, nk, B8, Bk, rs8, ks, y8.g, by first | with_reducible rfl | (rw [kp1]; done), rfl, rfl, rfl, Lib.hid ⟨LQ.out.1, by rw [H8.out.2]; exact RF.out, by rw [H8.out.2]; exact BN.out, by have h1 := HQ.out.2.2.2; clear kp1 kg' kg2; omega⟩, Lib.hid (H8.out.1)⟩
                    case measure => (first | ((try rw [kp1]); exact meas_c rfl LQ.out.1) | (clear kp1 kg' kg2; have := LQ.out.1; simp only [intOf]; omega))
        · have o64 : (d.op == 64) = false := beq_eq_false_iff_ne.2 h64
          have BF := Lib.hid (show yF.b = true by rw [HR.out]; exact robT_bad1 h64 h62)
          by_cases h6 : d.op = 62
          · have o62 : (d.op != 62) = false := by rw [h6]; decide
            have g1 : ((d.kids.length : Int) != 2) = true := by rw [bne_iff_ne]; intro e; exact h62 ⟨h6, by clear kp1 kg'; omega⟩
            clear h62 h64 h6
            go_wp2
            go_ret3
            exact .inl ⟨BF.out, rfl, IV.out.1.2.1.toNil⟩
          · have o62 : (d.op != 62) = true := bne_iff_ne.2 h6
            clear h62 h64 h6
            go_wp2
            go_ret3
            exact .inl ⟨BF.out, rfl, IV.out.1.2.1.toNil⟩

    · have q1 : ¬ (q : Int) < (t.kids.length : Int) := by omega
      have hE := HQ.out.2.1
      rw [List.drop_of_length_le (by omega), obT] at hE
      have RE := Lib.hid hE
      clear hlt hE
      go_wp2
      go_ret3
      refine .inr ⟨by rw [RE.out]; rfl, B', m', n', rs', by rw [RE.out]; rfl, (HI.out.1.1.exch (fun b _ e => .inl e) (fun b e => HI.out.1.1.2.1 b (.inl e))).2.2, by rw [RE.out]; rfl, HI.out.1.2.1⟩
end Go.Proofs.YtiagegecnopfgaaDoor
