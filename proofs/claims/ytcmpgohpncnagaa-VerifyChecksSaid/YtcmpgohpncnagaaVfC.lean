/- The reference's Check. -/
import Derived.Test.YtcmpgohpncnagaaChH
import Derived.Test.YtcmpgohpncnagaaChF
namespace Go.Proofs.Ytcmpgohpncnagaa
set_option linter.all false
open Go.ChangeShapes Go.WideShapes Go.ChangeAt Go.RowKit Go.Sort Go.Deep Go.Shelf

theorem kd_rem {k : Int} (h : 0 ≤ k ∧ k ≤ 255) : (wrap64 (k.tdiv 4)).tmod 2 = k / 4 % 2 := by
  rw [Int.tdiv_eq_ediv_of_nonneg h.1, show wrap64 (k / 4) = k / 4 by unfold wrap64; omega, Int.tmod_eq_emod_of_nonneg (by omega)]
theorem img_rem {l : List CodeD} {c : CodeD} (hl : inB (l.length : Int) 1 4096 = true) (hc : l[0]? = some c) (hb : (wrap64 (c.kd.tdiv 4)).tmod 2 ≠ 0) : imgM l = (0, 0, 1) := by
  have e0 : l.getD 0 default = c := by rw [List.getD_eq_getElem?_getD, hc]; rfl
  unfold imgM
  rw [if_neg (by rw [hl]; simp), e0]
  cases hh : headC c
  · rw [if_neg (by simp)]
    obtain ⟨r, rfl⟩ : ∃ r, l = c :: r := by
      cases l with
      | nil => simp at hc
      | cons a r => simp at hc; exact ⟨r, by rw [hc]⟩
    rw [fidx_at (l := c :: r) (p := fun c' => (chkM ((c :: r).length : Int) c').2 == 0) (q := 0) (x := c) (by simp) rfl (by simp [chk_head hh])]
    simp only [e0, chk_head hh]
    rfl
  · rw [if_pos]
    refine ⟨rfl, fun h => ?_⟩
    rw [kd_rem (headC_ok hh).1] at hb
    exact hb h
theorem img_norem {l : List CodeD} {c : CodeD} (hl : inB (l.length : Int) 1 4096 = true) (hc : l[0]? = some c) (hb : (wrap64 (c.kd.tdiv 4)).tmod 2 = 0) : imgM l = match l.findIdx? (fun c => !((chkM (l.length : Int) c).2 == 0)) with
    | some q => ((q : Int), (chkM (l.length : Int) (l.getD q default)).1, (chkM (l.length : Int) (l.getD q default)).2)
    | none => (0, 0, 0) := by
  have e0 : l.getD 0 default = c := by rw [List.getD_eq_getElem?_getD, hc]; rfl
  unfold imgM
  rw [if_neg (by rw [hl]; simp), e0, if_neg (by
    rintro ⟨hh, h⟩
    rw [kd_rem (headC_ok hh).1] at hb
    exact h hb)]
  rfl
def AtC8 (w : World) (b o : Nat) (c : CodeD) (i p k g : Value) : Prop := w.cell? ⟨b, o, none⟩ = some (.string c.nm) ∧ w.cell? ⟨b, o + 1, none⟩ = some (.int .i64 c.kd) ∧ w.cell? ⟨b, o + 2, none⟩ = some (.int .i64 c.ln) ∧ w.cell? ⟨b, o + 3, none⟩ = some (.int .i64 c.rg) ∧
    w.cell? ⟨b, o + 4, none⟩ = some i ∧ w.cell? ⟨b, o + 5, none⟩ = some p ∧ w.cell? ⟨b, o + 6, none⟩ = some k ∧ w.cell? ⟨b, o + 7, none⟩ = some g
theorem AtC8.below {w w' : World} {b o : Nat} {c : CodeD} {i p k g : Value} (h : AtC8 w b o c i p k g) (hb : b < w.heap.size) (hw : Below w.heap.size w w') : AtC8 w' b o c i p k g := by
  obtain ⟨h0, h1, h2, h3, h4, h5, h6, h7⟩ := h
  have f := fun j => hw.cell (p := ⟨b, j, none⟩) hb
  exact ⟨(f _).trans h0, (f _).trans h1, (f _).trans h2, (f _).trans h3, (f _).trans h4, (f _).trans h5, (f _).trans h6, (f _).trans h7⟩
set_option maxRecDepth 100000 in
set_option maxHeartbeats 16000000 in
theorem rimgcheck_any (s : Value) (l : List CodeD) (hok : ∀ c ∈ l, c.ok) (w : World) (h : IsCd w s l) :
    Calls Try.prog 17 #[imgV s] w (RetIm w (imgM l)) := by
  obtain ⟨A, cp, rfl, hmax⟩ := h.form
  have H := Lib.hid h
  have HC := Lib.hid hok
  unfold maxLen at hmax
  have HM := Lib.hid hmax
  clear hok
  by_cases b1 : l.length < 1
  · have q1 : (l.length : Int) < 1 := by omega
    have RS := Lib.hid (show imgM l = (0, 0, 1) by unfold imgM; rw [if_pos (by unfold inB; simp; omega)])
    rw [RS.out]
    clear h b1 hmax
    go_enter Try.func17, Try.ntmps17
    go_wp2
    go_ret3
    exact ⟨rfl, by (repeat (with_reducible first | exact Below.refl _ _ | (refine bl_set ?_ (by first | omega | (simp; done) | (simp; omega)) _) | refine bl_gr ?_ _ | refine bl_al ?_ _ | refine below_setRow ?_ (by first | omega | (simp; done) | (simp; omega)) _ | refine bl_drewN ?_ _ | refine Below.drew ?_ | (refine bl_tr ?_ (by assumption))))⟩
  have q1 : ¬ (l.length : Int) < 1 := by omega
  by_cases b2 : 4096 < l.length
  · have q2 : (4096 : Int) < (l.length : Int) := by omega
    have RS := Lib.hid (show imgM l = (0, 0, 1) by unfold imgM; rw [if_pos (by unfold inB; simp; omega)])
    rw [RS.out]
    clear h b1 b2 hmax
    go_enter Try.func17, Try.ntmps17
    go_wp2
    go_ret3
    exact ⟨rfl, by (repeat (with_reducible first | exact Below.refl _ _ | (refine bl_set ?_ (by first | omega | (simp; done) | (simp; omega)) _) | refine bl_gr ?_ _ | refine bl_al ?_ _ | refine below_setRow ?_ (by first | omega | (simp; done) | (simp; omega)) _ | refine bl_drewN ?_ _ | refine Below.drew ?_ | (refine bl_tr ?_ (by assumption))))⟩
  have q2 : ¬ (4096 : Int) < (l.length : Int) := by omega
  have IL := Lib.hid (show inB (l.length : Int) 1 4096 = true by unfold inB; simp; omega)
  have HN := Lib.hid (inB_len IL.out)
  obtain ⟨c0, hc0⟩ : ∃ c0, l[0]? = some c0 := ⟨_, List.getElem?_eq_getElem (by omega)⟩
  have H0 := Lib.hid hc0
  have hp : (0 : Int) < (l.length : Int) := by omega
  obtain ⟨b, off, cap', i, p, k, g, e1, lb, h4, h0, h1, h2, h3, h5, h6, h7, h8⟩ := at_Cd h hc0
  simp only [Value.slice.injEq] at e1
  obtain ⟨rfl, _, rfl⟩ := e1
  simp only [Nat.zero_mul, Nat.add_zero] at h0 h1 h2 h3 h5 h6 h7 h8
  have lbn : ∀ u, b < w.heap.size + u := fun u => Nat.lt_of_lt_of_le lb (Nat.le_add_right _ _)
  clear h h4 hc0 b1 b2 hmax h0 h2 h3 h5 h6 h7 h8
  by_cases hb : (wrap64 (c0.kd.tdiv 4)).tmod 2 = 0
  case neg =>
    have RS := Lib.hid (img_rem IL.out H0.out hb)
    rw [RS.out]
    have hb' : ((wrap64 (c0.kd.tdiv 4)).tmod 2 != 0) = true := by simpa using hb
    clear hb
    go_enter Try.func17, Try.ntmps17
    go_wp2
    go_ret3
    exact ⟨rfl, by (repeat (with_reducible first | exact Below.refl _ _ | (refine bl_set ?_ (by first | omega | (simp; done) | (simp; omega)) _) | refine bl_gr ?_ _ | refine bl_al ?_ _ | refine below_setRow ?_ (by first | omega | (simp; done) | (simp; omega)) _ | refine bl_drewN ?_ _ | refine Below.drew ?_ | (refine bl_tr ?_ (by assumption))))⟩
  have R0 := Lib.hid (img_norem IL.out H0.out hb)
  go_enter Try.func17, Try.ntmps17
  go_wp2
  have a0' : Below w.heap.size w (w.alloc (imgO (.slice (some ⟨b, off, none⟩) l.length cp))) := by (repeat (with_reducible first | exact Below.refl _ _ | (refine bl_set ?_ (by first | omega | (simp; done) | (simp; omega)) _) | refine bl_gr ?_ _ | refine bl_al ?_ _ | refine below_setRow ?_ (by first | omega | (simp; done) | (simp; omega)) _ | refine bl_drewN ?_ _ | refine Below.drew ?_ | (refine bl_tr ?_ (by assumption))))
  have aX := heap_alloc_new w (imgO (.slice (some ⟨b, off, none⟩) l.length cp))
  clear h1 hb q1 q2
  go_loopw [5] (fun j X => ∃ q : Nat, j = .int .i64 q ∧ Hid (q ≤ l.length ∧ ∀ y ∈ l.take q, ((chkM (l.length : Int) y).2 == 0) = true) ∧ X.heap[w.heap.size]? = some (imgO (.slice (some ⟨b, off, none⟩) l.length cp)) ∧ Below w.heap.size w X) (fun j _ => l.length - (intOf j).toNat)
  case atStart => exact ⟨0, rfl, Lib.hid ⟨Nat.zero_le _, by simp⟩, aX, a0'⟩
  case round =>
    clear a0' aX lb lbn
    obtain ⟨q, rfl, HQ, j0, jb⟩ := hrel
    have CX := Lib.hid (And.intro j0 jb)
    have l0 := (Array.getElem?_eq_some_iff.1 j0).1
    have l1 : ∀ u, w.heap.size < wr.heap.size + u := fun u => Nat.lt_of_lt_of_le l0 (Nat.le_add_right _ _)
    by_cases hlt : q < l.length
    · have q2 : (q : Int) < (l.length : Int) := by omega
      have q3 : ¬ (q : Int) < 0 := by omega
      obtain ⟨c, hx⟩ : ∃ c, l[q]? = some c := ⟨_, List.getElem?_eq_getElem hlt⟩
      obtain ⟨b', off', cap', i', p', k', g', e1, lb, h4, h8⟩ := at_Cd (H.out.below jb) hx
      simp only [Value.slice.injEq, Option.some.injEq, Addr.mk.injEq] at e1
      obtain ⟨⟨rfl, rfl, _⟩, _, rfl⟩ := e1
      obtain ⟨A1, c1, A2, c2, A3, c3, A4, c4, rfl, rfl, rfl, rfl⟩ := h4.forms
      have HX := Lib.hid hx
      have H4 := Lib.hid h4
      have LQ := Lib.hid hlt
      obtain ⟨kp, hkp, ek1⟩ : ∃ kp : Nat, kp = q + 1 ∧ wrap64 ((q : Int) + 1) = (kp : Int) := ⟨q + 1, rfl, w64c rfl (by have := HM.out; omega)⟩
      have KP := Lib.hid hkp
      have RD := Lib.hid (fun Z (hZ : Below wr.heap.size wr Z) => (show Z.cell? ⟨w.heap.size, 0, none⟩ = some (.slice (some ⟨b, off, none⟩) l.length cp) by rw [cell_of_row Z _ _ _ _ _ ((hZ.block _ l0).trans j0)]; rfl))
      have C8 := Lib.hid (fun Z (hZ : Below wr.heap.size wr Z) => (AtC8.below h8 lb hZ : AtC8 Z b (off + q * 8) c _ _ _ _))
      have a0 := RD.out wr (Below.refl _ _)
      clear hkp hlt hx h4 j0 jb h8
      have EX := Lib.hid (show l.getD q default = c by rw [List.getD_eq_getElem?_getD, HX.out]; rfl)
      have CK := Lib.hid (fun W (hW : Below wr.heap.size wr W) => code_any (some ⟨b, off, none⟩) l.length cp c _ _ _ _ (HC.out c (List.mem_of_getElem? HX.out)) (by have := HN.out; omega) W (H4.out.below hW))
      have NXX := Lib.hid (fun (h : ((chkM (l.length : Int) c).2 == 0) = true) => takeAll (p := fun y => (chkM (l.length : Int) y).2 == 0) HQ.out.2 HX.out h)
      have RX := Lib.hid (fun (h : ((chkM (l.length : Int) c).2 == 0) = false) => (by rw [R0.out, fidx_at (p := fun y => (chkM (l.length : Int) y).2 == 0) HQ.out.2 HX.out h]; simp only [EX.out] : imgM l = ((q : Int), (chkM (l.length : Int) c).1, (chkM (l.length : Int) c).2)))
      unfold RetCk at CK
      generalize chkM (l.length : Int) c = r at *
      obtain ⟨r1, r2⟩ := r
      simp only [] at CK NXX RX
      cases hz : (r2 == 0)
      · have RS := Lib.hid (RX.out hz)
        have hz' : (r2 != 0) = true := by rw [bne, hz]; rfl
        go_upto_region 6 with fail
        (refine wp_region_held_drew (S := (fun Z : World => Below wr.heap.size wr Z)) Try.mixed (by (repeat (with_reducible first | exact Below.refl _ _ | (refine bl_set ?_ (by first | omega | (simp; done) | (simp; omega)) _) | refine bl_gr ?_ _ | refine bl_al ?_ _ | refine below_setRow ?_ (by first | omega | (simp; done) | (simp; omega)) _ | refine bl_drewN ?_ _ | refine Below.drew ?_ | (refine bl_tr ?_ (by assumption))))) (fun hS => ?_); (refine wpAnyH_take (i := 0) (v := ?_) rfl (by kernel_rfl) (by kernel_rfl) (by kernel_rfl) (fun _ _ _ h => h) ?_ (by assumption) ?_; rotate_left; (next => (refine Or.inl ⟨by kernel_rfl, ?_⟩; ((intro w hSw; (try dsimp only at hSw); (have a0 := RD.out _ hSw; obtain ⟨h0, h1, h2, h3, h4, h5, h6, h7⟩ := C8.out _ hSw); go_simp) <;> with_reducible rfl))); (try simp only [Act.put, List.getElem_toArray, List.getElem_cons_zero, List.getElem_cons_succ, List.setIfInBounds_toArray, List.set_cons_zero, List.set_cons_succ])); (refine wpAnyH_take (i := 1) (v := ?_) rfl (by kernel_rfl) (by kernel_rfl) (by kernel_rfl) (fun _ _ _ h => h) ?_ (by assumption) ?_; rotate_left; (next => (refine Or.inl ⟨by kernel_rfl, ?_⟩; ((intro w hSw; (try dsimp only at hSw); go_simp) <;> with_reducible rfl))); (try simp only [Act.put, List.getElem_toArray, List.getElem_cons_zero, List.getElem_cons_succ, List.setIfInBounds_toArray, List.set_cons_zero, List.set_cons_succ])); (refine wpAnyH_take (i := 2) (v := ?_) rfl (by kernel_rfl) (by kernel_rfl) (by kernel_rfl) (fun _ _ _ h => h) ?_ (by assumption) ?_; rotate_left; (next => (refine Or.inl ⟨by kernel_rfl, ?_⟩; ((intro w hSw; (try dsimp only at hSw); (have a0 := RD.out _ hSw; obtain ⟨h0, h1, h2, h3, h4, h5, h6, h7⟩ := C8.out _ hSw); go_simp) <;> with_reducible rfl))); (try simp only [Act.put, List.getElem_toArray, List.getElem_cons_zero, List.getElem_cons_succ, List.setIfInBounds_toArray, List.set_cons_zero, List.set_cons_succ])); (refine wpAnyH_take (i := 3) (v := ?_) rfl (by kernel_rfl) (by kernel_rfl) (by kernel_rfl) (fun _ _ _ h => h) ?_ (by assumption) ?_; rotate_left; (next => (refine Or.inl ⟨by kernel_rfl, ?_⟩; ((intro w hSw; (try dsimp only at hSw); go_simp) <;> with_reducible rfl))); (try simp only [Act.put, List.getElem_toArray, List.getElem_cons_zero, List.getElem_cons_succ, List.setIfInBounds_toArray, List.set_cons_zero, List.set_cons_succ])); (refine wpAnyH_take (i := 4) (v := ?_) rfl (by kernel_rfl) (by kernel_rfl) (by kernel_rfl) (fun _ _ _ h => h) ?_ (by assumption) ?_; rotate_left; (next => (refine Or.inl ⟨by kernel_rfl, ?_⟩; ((intro w hSw; (try dsimp only at hSw); go_simp) <;> with_reducible rfl))); (try simp only [Act.put, List.getElem_toArray, List.getElem_cons_zero, List.getElem_cons_succ, List.setIfInBounds_toArray, List.set_cons_zero, List.set_cons_succ])); (refine wpAnyH_take (i := 5) (v := ?_) rfl (by kernel_rfl) (by kernel_rfl) (by kernel_rfl) (fun _ _ _ h => h) ?_ (by assumption) ?_; rotate_left; (next => (refine Or.inl ⟨by kernel_rfl, ?_⟩; ((intro w hSw; (try dsimp only at hSw); (have a0 := RD.out _ hSw; obtain ⟨h0, h1, h2, h3, h4, h5, h6, h7⟩ := C8.out _ hSw); go_simp) <;> with_reducible rfl))); (try simp only [Act.put, List.getElem_toArray, List.getElem_cons_zero, List.getElem_cons_succ, List.setIfInBounds_toArray, List.set_cons_zero, List.set_cons_succ])); refine wpAnyH_ready (rs := [6]) (by kernel_rfl) (by simp) ?_; refine AllReadyH.cons rfl (fun K hK => ?_) AllReadyH.nil; go_simp; (((try simp only [gr_gr, gr_drew, drew_gr] at hS); (go_at_call 34; refine (callGr (CK.out _ hS)).mono ?_; rintro e w' ⟨pp, rfl, rfl⟩))); refine hK.out _ _ (by (repeat (with_reducible first | exact Below.refl _ _ | (refine bl_set ?_ (by first | omega | (simp; done) | (simp; omega)) _) | refine bl_gr ?_ _ | refine bl_al ?_ _ | refine below_setRow ?_ (by first | omega | (simp; done) | (simp; omega)) _ | refine bl_drewN ?_ _ | refine Below.drew ?_ | (refine bl_tr ?_ (by assumption))))) (fun hS => ?_); clear hK K; (try simp only [Act.put, List.getElem_toArray, List.getElem_cons_zero, List.getElem_cons_succ, List.setIfInBounds_toArray, List.set_cons_zero, List.set_cons_succ]); (refine wpAnyH_take (i := 7) (v := ?_) rfl (by kernel_rfl) (by kernel_rfl) (by kernel_rfl) (fun _ _ _ h => h) ?_ (by assumption) ?_; rotate_left; (next => (refine Or.inl ⟨by kernel_rfl, ?_⟩; ((intro w hSw; (try dsimp only at hSw); go_simp) <;> with_reducible rfl))); (try simp only [Act.put, List.getElem_toArray, List.getElem_cons_zero, List.getElem_cons_succ, List.setIfInBounds_toArray, List.set_cons_zero, List.set_cons_succ])); (refine wpAnyH_take (i := 8) (v := ?_) rfl (by kernel_rfl) (by kernel_rfl) (by kernel_rfl) (fun _ _ _ h => h) ?_ (by assumption) ?_; rotate_left; (next => (refine Or.inl ⟨by kernel_rfl, ?_⟩; ((intro w hSw; (try dsimp only at hSw); go_simp) <;> with_reducible rfl))); (try simp only [Act.put, List.getElem_toArray, List.getElem_cons_zero, List.getElem_cons_succ, List.setIfInBounds_toArray, List.set_cons_zero, List.set_cons_succ])); (refine wpAnyH_take (i := 9) (v := ?_) rfl (by kernel_rfl) (by kernel_rfl) (by kernel_rfl) (fun _ _ _ h => h) ?_ (by assumption) ?_; rotate_left; (next => (refine Or.inl ⟨by kernel_rfl, ?_⟩; ((intro w hSw; (try dsimp only at hSw); go_simp) <;> with_reducible rfl))); (try simp only [Act.put, List.getElem_toArray, List.getElem_cons_zero, List.getElem_cons_succ, List.setIfInBounds_toArray, List.set_cons_zero, List.set_cons_succ])); (refine wpAnyH_take (i := 10) (v := ?_) rfl (by kernel_rfl) (by kernel_rfl) (by kernel_rfl) (fun _ _ _ h => h) ?_ (by assumption) ?_; rotate_left; (next => (refine Or.inl ⟨by kernel_rfl, ?_⟩; ((intro w hSw; (try dsimp only at hSw); go_simp) <;> with_reducible rfl))); (try simp only [Act.put, List.getElem_toArray, List.getElem_cons_zero, List.getElem_cons_succ, List.setIfInBounds_toArray, List.set_cons_zero, List.set_cons_succ])); (refine wpAnyH_take (i := 11) (v := ?_) rfl (by kernel_rfl) (by kernel_rfl) (by kernel_rfl) (fun _ _ _ h => h) ?_ (by assumption) ?_; rotate_left; (next => (refine Or.inl ⟨by kernel_rfl, ?_⟩; ((intro w hSw; (try dsimp only at hSw); go_simp) <;> with_reducible rfl))); (try simp only [Act.put, List.getElem_toArray, List.getElem_cons_zero, List.getElem_cons_succ, List.setIfInBounds_toArray, List.set_cons_zero, List.set_cons_succ])); refine wpAnyH_done (by kernel_rfl) ?_ _)
        all_goals go_simp
        all_goals go_wp2
        all_goals go_ret3
        all_goals exact ⟨by rw [RS.out]; rfl, bl_tr CX.out.2 (by (repeat (with_reducible first | exact Below.refl _ _ | (refine bl_set ?_ (by first | omega | (simp; done) | (simp; omega)) _) | refine bl_gr ?_ _ | refine bl_al ?_ _ | refine below_setRow ?_ (by first | omega | (simp; done) | (simp; omega)) _ | refine bl_drewN ?_ _ | refine Below.drew ?_ | (refine bl_tr ?_ (by assumption)))))⟩
      · have NX := Lib.hid (NXX.out hz)
        have hz' : (r2 != 0) = false := by rw [bne, hz]; rfl
        go_upto_region 6 with fail
        (refine wp_region_held_drew (S := (fun Z : World => Below wr.heap.size wr Z)) Try.mixed (by (repeat (with_reducible first | exact Below.refl _ _ | (refine bl_set ?_ (by first | omega | (simp; done) | (simp; omega)) _) | refine bl_gr ?_ _ | refine bl_al ?_ _ | refine below_setRow ?_ (by first | omega | (simp; done) | (simp; omega)) _ | refine bl_drewN ?_ _ | refine Below.drew ?_ | (refine bl_tr ?_ (by assumption))))) (fun hS => ?_); (refine wpAnyH_take (i := 0) (v := ?_) rfl (by kernel_rfl) (by kernel_rfl) (by kernel_rfl) (fun _ _ _ h => h) ?_ (by assumption) ?_; rotate_left; (next => (refine Or.inl ⟨by kernel_rfl, ?_⟩; ((intro w hSw; (try dsimp only at hSw); (have a0 := RD.out _ hSw; obtain ⟨h0, h1, h2, h3, h4, h5, h6, h7⟩ := C8.out _ hSw); go_simp) <;> with_reducible rfl))); (try simp only [Act.put, List.getElem_toArray, List.getElem_cons_zero, List.getElem_cons_succ, List.setIfInBounds_toArray, List.set_cons_zero, List.set_cons_succ])); (refine wpAnyH_take (i := 1) (v := ?_) rfl (by kernel_rfl) (by kernel_rfl) (by kernel_rfl) (fun _ _ _ h => h) ?_ (by assumption) ?_; rotate_left; (next => (refine Or.inl ⟨by kernel_rfl, ?_⟩; ((intro w hSw; (try dsimp only at hSw); go_simp) <;> with_reducible rfl))); (try simp only [Act.put, List.getElem_toArray, List.getElem_cons_zero, List.getElem_cons_succ, List.setIfInBounds_toArray, List.set_cons_zero, List.set_cons_succ])); (refine wpAnyH_take (i := 2) (v := ?_) rfl (by kernel_rfl) (by kernel_rfl) (by kernel_rfl) (fun _ _ _ h => h) ?_ (by assumption) ?_; rotate_left; (next => (refine Or.inl ⟨by kernel_rfl, ?_⟩; ((intro w hSw; (try dsimp only at hSw); (have a0 := RD.out _ hSw; obtain ⟨h0, h1, h2, h3, h4, h5, h6, h7⟩ := C8.out _ hSw); go_simp) <;> with_reducible rfl))); (try simp only [Act.put, List.getElem_toArray, List.getElem_cons_zero, List.getElem_cons_succ, List.setIfInBounds_toArray, List.set_cons_zero, List.set_cons_succ])); (refine wpAnyH_take (i := 3) (v := ?_) rfl (by kernel_rfl) (by kernel_rfl) (by kernel_rfl) (fun _ _ _ h => h) ?_ (by assumption) ?_; rotate_left; (next => (refine Or.inl ⟨by kernel_rfl, ?_⟩; ((intro w hSw; (try dsimp only at hSw); go_simp) <;> with_reducible rfl))); (try simp only [Act.put, List.getElem_toArray, List.getElem_cons_zero, List.getElem_cons_succ, List.setIfInBounds_toArray, List.set_cons_zero, List.set_cons_succ])); (refine wpAnyH_take (i := 4) (v := ?_) rfl (by kernel_rfl) (by kernel_rfl) (by kernel_rfl) (fun _ _ _ h => h) ?_ (by assumption) ?_; rotate_left; (next => (refine Or.inl ⟨by kernel_rfl, ?_⟩; ((intro w hSw; (try dsimp only at hSw); go_simp) <;> with_reducible rfl))); (try simp only [Act.put, List.getElem_toArray, List.getElem_cons_zero, List.getElem_cons_succ, List.setIfInBounds_toArray, List.set_cons_zero, List.set_cons_succ])); (refine wpAnyH_take (i := 5) (v := ?_) rfl (by kernel_rfl) (by kernel_rfl) (by kernel_rfl) (fun _ _ _ h => h) ?_ (by assumption) ?_; rotate_left; (next => (refine Or.inl ⟨by kernel_rfl, ?_⟩; ((intro w hSw; (try dsimp only at hSw); (have a0 := RD.out _ hSw; obtain ⟨h0, h1, h2, h3, h4, h5, h6, h7⟩ := C8.out _ hSw); go_simp) <;> with_reducible rfl))); (try simp only [Act.put, List.getElem_toArray, List.getElem_cons_zero, List.getElem_cons_succ, List.setIfInBounds_toArray, List.set_cons_zero, List.set_cons_succ])); refine wpAnyH_ready (rs := [6]) (by kernel_rfl) (by simp) ?_; refine AllReadyH.cons rfl (fun K hK => ?_) AllReadyH.nil; go_simp; (((try simp only [gr_gr, gr_drew, drew_gr] at hS); (go_at_call 34; refine (callGr (CK.out _ hS)).mono ?_; rintro e w' ⟨pp, rfl, rfl⟩))); refine hK.out _ _ (by (repeat (with_reducible first | exact Below.refl _ _ | (refine bl_set ?_ (by first | omega | (simp; done) | (simp; omega)) _) | refine bl_gr ?_ _ | refine bl_al ?_ _ | refine below_setRow ?_ (by first | omega | (simp; done) | (simp; omega)) _ | refine bl_drewN ?_ _ | refine Below.drew ?_ | (refine bl_tr ?_ (by assumption))))) (fun hS => ?_); clear hK K; (try simp only [Act.put, List.getElem_toArray, List.getElem_cons_zero, List.getElem_cons_succ, List.setIfInBounds_toArray, List.set_cons_zero, List.set_cons_succ]); (refine wpAnyH_take (i := 7) (v := ?_) rfl (by kernel_rfl) (by kernel_rfl) (by kernel_rfl) (fun _ _ _ h => h) ?_ (by assumption) ?_; rotate_left; (next => (refine Or.inl ⟨by kernel_rfl, ?_⟩; ((intro w hSw; (try dsimp only at hSw); go_simp) <;> with_reducible rfl))); (try simp only [Act.put, List.getElem_toArray, List.getElem_cons_zero, List.getElem_cons_succ, List.setIfInBounds_toArray, List.set_cons_zero, List.set_cons_succ])); (refine wpAnyH_take (i := 8) (v := ?_) rfl (by kernel_rfl) (by kernel_rfl) (by kernel_rfl) (fun _ _ _ h => h) ?_ (by assumption) ?_; rotate_left; (next => (refine Or.inl ⟨by kernel_rfl, ?_⟩; ((intro w hSw; (try dsimp only at hSw); go_simp) <;> with_reducible rfl))); (try simp only [Act.put, List.getElem_toArray, List.getElem_cons_zero, List.getElem_cons_succ, List.setIfInBounds_toArray, List.set_cons_zero, List.set_cons_succ])); (refine wpAnyH_take (i := 9) (v := ?_) rfl (by kernel_rfl) (by kernel_rfl) (by kernel_rfl) (fun _ _ _ h => h) ?_ (by assumption) ?_; rotate_left; (next => (refine Or.inl ⟨by kernel_rfl, ?_⟩; ((intro w hSw; (try dsimp only at hSw); go_simp) <;> with_reducible rfl))); (try simp only [Act.put, List.getElem_toArray, List.getElem_cons_zero, List.getElem_cons_succ, List.setIfInBounds_toArray, List.set_cons_zero, List.set_cons_succ])); (refine wpAnyH_take (i := 10) (v := ?_) rfl (by kernel_rfl) (by kernel_rfl) (by kernel_rfl) (fun _ _ _ h => h) ?_ (by assumption) ?_; rotate_left; (next => (refine Or.inl ⟨by kernel_rfl, ?_⟩; ((intro w hSw; (try dsimp only at hSw); go_simp) <;> with_reducible rfl))); (try simp only [Act.put, List.getElem_toArray, List.getElem_cons_zero, List.getElem_cons_succ, List.setIfInBounds_toArray, List.set_cons_zero, List.set_cons_succ])); (refine wpAnyH_take (i := 11) (v := ?_) rfl (by kernel_rfl) (by kernel_rfl) (by kernel_rfl) (fun _ _ _ h => h) ?_ (by assumption) ?_; rotate_left; (next => (refine Or.inl ⟨by kernel_rfl, ?_⟩; ((intro w hSw; (try dsimp only at hSw); go_simp) <;> with_reducible rfl))); (try simp only [Act.put, List.getElem_toArray, List.getElem_cons_zero, List.getElem_cons_succ, List.setIfInBounds_toArray, List.set_cons_zero, List.set_cons_succ])); refine wpAnyH_done (by kernel_rfl) ?_ _)
        all_goals go_simp
        all_goals go_wp2
        all_goals go_roundw
        case rel => exact ⟨kp, by first | with_reducible rfl | (rw [ek1]; done) | (rw [KP.out]; go_num), Lib.hid ⟨by rw [KP.out]; exact LQ.out, by rw [KP.out]; exact NX.out⟩, ((show Below wr.heap.size wr _ by (repeat (with_reducible first | exact Below.refl _ _ | (refine bl_set ?_ (by first | omega | (simp; done) | (simp; omega)) _) | refine bl_gr ?_ _ | refine bl_al ?_ _ | refine below_setRow ?_ (by first | omega | (simp; done) | (simp; omega)) _ | refine bl_drewN ?_ _ | refine Below.drew ?_ | (refine bl_tr ?_ (by assumption))))).block _ l0).trans CX.out.1, bl_tr CX.out.2 (by (repeat (with_reducible first | exact Below.refl _ _ | (refine bl_set ?_ (by first | omega | (simp; done) | (simp; omega)) _) | refine bl_gr ?_ _ | refine bl_al ?_ _ | refine below_setRow ?_ (by first | omega | (simp; done) | (simp; omega)) _ | refine bl_drewN ?_ _ | refine Below.drew ?_ | (refine bl_tr ?_ (by assumption)))))⟩
        case measure => (first | ((try rw [ek1]); exact meas_c KP.out LQ.out) | (clear ek1; have := LQ.out; simp only [intOf]; omega))
    · have a0 : wr.cell? ⟨w.heap.size, 0, none⟩ = some (.slice (some ⟨b, off, none⟩) l.length cp) := by rw [cell_of_row wr _ _ _ _ _ j0]; rfl
      have q2 : ¬ (q : Int) < (l.length : Int) := by omega
      have hq : q = l.length := by have := HQ.out.1; omega
      have RS := Lib.hid (show imgM l = (0, 0, 0) by rw [R0.out, fidx_no (p := fun y => (chkM (l.length : Int) y).2 == 0) (by have := HQ.out.2; rwa [hq, List.take_length] at this)])
      clear hlt j0 jb hq
      go_wp2
      go_ret3
      exact ⟨by rw [RS.out]; rfl, bl_tr CX.out.2 (by (repeat (with_reducible first | exact Below.refl _ _ | (refine bl_set ?_ (by first | omega | (simp; done) | (simp; omega)) _) | refine bl_gr ?_ _ | refine bl_al ?_ _ | refine below_setRow ?_ (by first | omega | (simp; done) | (simp; omega)) _ | refine bl_drewN ?_ _ | refine Below.drew ?_ | (refine bl_tr ?_ (by assumption)))))⟩
end Go.Proofs.Ytcmpgohpncnagaa
