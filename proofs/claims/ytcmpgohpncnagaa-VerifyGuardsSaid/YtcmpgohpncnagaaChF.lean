/- verify.Check. -/
import Derived.Test.YtcmpgohpncnagaaChE
import Derived.OwnWalk
namespace Go.Proofs.Ytcmpgohpncnagaa
set_option linter.all false
open Go.ChangeShapes Go.WideShapes Go.ChangeAt Go.RowKit Go.Sort Go.Deep Go.Shelf

/-- the first error of an image: function, position, error -/
noncomputable def imgM (l : List CodeD) : Int × Int × Int :=
  if inB (l.length : Int) 1 4096 = false then (0, 0, 1)
  else if headC (l.getD 0 default) = true ∧ (l.getD 0 default).kd / 4 % 2 ≠ 0 then (0, 0, 1)
  else match l.findIdx? (fun c => !((chkM (l.length : Int) c).2 == 0)) with
    | some q => ((q : Int), (chkM (l.length : Int) (l.getD q default)).1, (chkM (l.length : Int) (l.getD q default)).2)
    | none => (0, 0, 0)
abbrev imgO (s : Value) : Obj := .cells #[s] 39
def RetIm (w : World) (r : Int × Int × Int) (e : Ending) (w' : World) : Prop := e = .returned (.tuple #[.int .i64 r.1, .int .i64 r.2.1, .int .i64 r.2.2]) ∧ Below w.heap.size w w'
theorem IsCd.form {w : World} {v : Value} {l : List CodeD} (h : IsCd w v l) : ∃ A cp, v = .slice A l.length cp ∧ l.length ≤ maxLen := by
  obtain ⟨rs, h1, h2, _⟩ := h
  obtain ⟨A, cp, rfl, _, hm⟩ := h1.form
  exact ⟨A, cp, by rw [h2], by omega⟩
theorem at_Cd {w : World} {v : Value} {l : List CodeD} (h : IsCd w v l) {q : Nat} {c : CodeD} (hq : l[q]? = some c) : ∃ b off cap i p k g, v = .slice (some ⟨b, off, none⟩) l.length cap ∧ b < w.heap.size ∧ Cd4 w i p k g c ∧
    w.cell? ⟨b, off + q * 8, none⟩ = some (.string c.nm) ∧ w.cell? ⟨b, off + q * 8 + 1, none⟩ = some (.int .i64 c.kd) ∧ w.cell? ⟨b, off + q * 8 + 2, none⟩ = some (.int .i64 c.ln) ∧ w.cell? ⟨b, off + q * 8 + 3, none⟩ = some (.int .i64 c.rg) ∧
    w.cell? ⟨b, off + q * 8 + 4, none⟩ = some i ∧ w.cell? ⟨b, off + q * 8 + 5, none⟩ = some p ∧ w.cell? ⟨b, off + q * 8 + 6, none⟩ = some k ∧ w.cell? ⟨b, off + q * 8 + 7, none⟩ = some g := by
  obtain ⟨rs, h1, h2, h3⟩ := h
  have hl := (List.getElem?_eq_some_iff.1 hq).1
  obtain ⟨r, hr⟩ : ∃ r, rs[q]? = some r := ⟨_, List.getElem?_eq_getElem (by omega)⟩
  obtain ⟨e1, e2, e3, e4, h5⟩ := h3 q r c hr hq
  obtain ⟨b, off, cap, rfl, hc, hb, hx⟩ := h1.at_ (by omega)
  refine ⟨b, off, cap, r.i, r.p, r.k, r.g, by rw [h2], hb, h5, ?_⟩
  have f := fun j u hu => hx q r hr j u hu
  rw [← e1, ← e2, ← e3, ← e4]
  exact ⟨f 0 _ rfl, f 1 _ rfl, f 2 _ rfl, f 3 _ rfl, f 4 _ rfl, f 5 _ rfl, f 6 _ rfl, f 7 _ rfl⟩
theorem chk_head {N : Int} {c : CodeD} (h : headC c = false) : chkM N c = (0, 1) := by unfold chkM; rw [if_pos h]
/-- the kind's bit refuses -/
theorem img_bit {l : List CodeD} {c : CodeD} (hl : inB (l.length : Int) 1 4096 = true) (hc : l[0]? = some c) (hb : (bits BinOp.and IntKind.i64 c.kd 4 == 0) = false) : imgM l = (0, 0, 1) := by
  have e0 : l.getD 0 default = c := by rw [List.getD_eq_getElem?_getD, hc]; rfl
  unfold imgM
  rw [if_neg (by rw [hl]; simp), e0]
  cases hh : headC c
  · rw [if_neg (by simp)]
    obtain ⟨r, rfl⟩ : ∃ r, l = c :: r := by
      cases l with
      | nil => simp at hc
      | cons a r => simp at hc; exact ⟨r, by rw [hc]⟩
    rw [fidx_at (l := c :: r) (p := fun c' => (chkM ((c :: r).length : Int) c').2 == 0) (q := 0) (x := c) (by simp) rfl (by simp [chk_head hh])]
    simp only [e0, chk_head hh]
    rfl
  · rw [if_pos]
    refine ⟨rfl, fun h => ?_⟩
    rw [kd_bit (headC_ok hh).1, h] at hb
    simp at hb
theorem img_nobit {l : List CodeD} {c : CodeD} (hl : inB (l.length : Int) 1 4096 = true) (hc : l[0]? = some c) (hb : (bits BinOp.and IntKind.i64 c.kd 4 == 0) = true) : imgM l = match l.findIdx? (fun c => !((chkM (l.length : Int) c).2 == 0)) with
    | some q => ((q : Int), (chkM (l.length : Int) (l.getD q default)).1, (chkM (l.length : Int) (l.getD q default)).2)
    | none => (0, 0, 0) := by
  have e0 : l.getD 0 default = c := by rw [List.getD_eq_getElem?_getD, hc]; rfl
  unfold imgM
  rw [if_neg (by rw [hl]; simp), e0, if_neg]
  rintro ⟨hh, h⟩
  rw [kd_bit (headC_ok hh).1] at hb
  exact h (of_decide_eq_true hb)
theorem inB_len {n lo hi : Int} (h : inB n lo hi = true) : lo ≤ n ∧ n ≤ hi := by
  unfold inB at h
  simpa only [Bool.and_eq_true, decide_eq_true_eq] using h
set_option maxRecDepth 100000 in
set_option maxHeartbeats 16000000 in
theorem imgcheck_any (s : Value) (l : List CodeD) (hok : ∀ c ∈ l, c.ok) (w : World) (h : IsCd w s l) :
    Calls Try.prog 16 #[imgV s] w (RetIm w (imgM l)) := by
  obtain ⟨A, cp, rfl, hmax⟩ := h.form
  have H := Lib.hid h
  have HC := Lib.hid hok
  have HM := Lib.hid hmax
  clear hmax hok
  cases hl : inB (l.length : Int) 1 4096
  · have I1 := Lib.hid (fun W => vin_any (l.length : Int) 1 4096 W)
    have RS := Lib.hid (show imgM l = (0, 0, 1) by unfold imgM; rw [if_pos hl])
    rw [hl] at I1
    rw [RS.out]
    clear h hl
    go_enter Try.func16, Try.ntmps16
    go_wp2_with (go_at_call 32; refine (I1.out _).mono ?_; rintro e w' ⟨rfl, rfl⟩)
    go_ret3
    exact ⟨rfl, by (repeat (with_reducible first | exact Below.refl _ _ | (refine bl_set ?_ (by first | omega | (simp; done) | (simp; omega)) _) | refine bl_gr ?_ _ | refine bl_al ?_ _ | refine below_setRow ?_ (by first | omega | (simp; done) | (simp; omega)) _ | refine bl_drewN ?_ _ | refine Below.drew ?_ | (refine bl_tr ?_ (by assumption))))⟩
  have I1 := Lib.hid (fun W => vin_any (l.length : Int) 1 4096 W)
  have HN := Lib.hid (inB_len hl)
  have IL := Lib.hid hl
  rw [hl] at I1
  obtain ⟨c0, hc0⟩ : ∃ c0, l[0]? = some c0 := ⟨_, List.getElem?_eq_getElem (by have := inB_len hl; omega)⟩
  have H0 := Lib.hid hc0
  have hp : (0 : Int) < (l.length : Int) := by have := inB_len hl; omega
  obtain ⟨b, off, cap', i, p, k, g, e1, lb, h4, h0, h1, h2, h3, h5, h6, h7, h8⟩ := at_Cd h hc0
  simp only [Value.slice.injEq] at e1
  obtain ⟨rfl, _, rfl⟩ := e1
  simp only [Nat.zero_mul, Nat.add_zero] at h0 h1 h2 h3 h5 h6 h7 h8
  have lbn : ∀ u, b < w.heap.size + u := fun u => Nat.lt_of_lt_of_le lb (Nat.le_add_right _ _)
  clear h h4 hl hc0
  cases hb : (bits BinOp.and IntKind.i64 c0.kd 4 == 0)
  · have RS := Lib.hid (img_bit IL.out H0.out hb)
    rw [RS.out]
    have hb' : (bits BinOp.and IntKind.i64 c0.kd 4 != 0) = true := by rw [bne, hb]; rfl
    go_enter Try.func16, Try.ntmps16
    go_wp2_with (go_at_call 32; refine (I1.out _).mono ?_; rintro e w' ⟨rfl, rfl⟩)
    go_ret3
    exact ⟨rfl, by (repeat (with_reducible first | exact Below.refl _ _ | (refine bl_set ?_ (by first | omega | (simp; done) | (simp; omega)) _) | refine bl_gr ?_ _ | refine bl_al ?_ _ | refine below_setRow ?_ (by first | omega | (simp; done) | (simp; omega)) _ | refine bl_drewN ?_ _ | refine Below.drew ?_ | (refine bl_tr ?_ (by assumption))))⟩
  have R0 := Lib.hid (img_nobit IL.out H0.out hb)
  have hb' : (bits BinOp.and IntKind.i64 c0.kd 4 != 0) = false := by rw [bne, hb]; rfl
  go_enter Try.func16, Try.ntmps16
  go_wp2_with (go_at_call 32; refine (I1.out _).mono ?_; rintro e w' ⟨rfl, rfl⟩)
  have a0' : Below w.heap.size w (w.alloc (imgO (.slice (some ⟨b, off, none⟩) l.length cp))) := by (repeat (with_reducible first | exact Below.refl _ _ | (refine bl_set ?_ (by first | omega | (simp; done) | (simp; omega)) _) | refine bl_gr ?_ _ | refine bl_al ?_ _ | refine below_setRow ?_ (by first | omega | (simp; done) | (simp; omega)) _ | refine bl_drewN ?_ _ | refine Below.drew ?_ | (refine bl_tr ?_ (by assumption))))
  have aX := heap_alloc_new w (imgO (.slice (some ⟨b, off, none⟩) l.length cp))
  clear h0 h1 h2 h3 h5 h6 h7 h8 hb hb'
  go_loopw [26] (fun j X => ∃ q : Nat, j = .int .i64 q ∧ Hid (q ≤ l.length ∧ ∀ y ∈ l.take q, ((chkM (l.length : Int) y).2 == 0) = true) ∧ X.heap[w.heap.size]? = some (imgO (.slice (some ⟨b, off, none⟩) l.length cp)) ∧ Below w.heap.size w X) (fun j _ => l.length - (intOf j).toNat)
  case atStart => exact ⟨0, rfl, Lib.hid ⟨Nat.zero_le _, by simp⟩, aX, a0'⟩
  case round =>
    clear a0' aX lb lbn
    obtain ⟨q, rfl, HQ, j0, jb⟩ := hrel
    have CX := Lib.hid (And.intro j0 jb)
    have a0 : wr.cell? ⟨w.heap.size, 0, none⟩ = some (.slice (some ⟨b, off, none⟩) l.length cp) := by rw [cell_of_row wr _ _ _ _ _ j0]; rfl
    have l0 := (Array.getElem?_eq_some_iff.1 j0).1
    by_cases hlt : q < l.length
    · have q2 : (q : Int) < (l.length : Int) := by omega
      have q3 : ¬ (q : Int) < 0 := by omega
      obtain ⟨c, hx⟩ : ∃ c, l[q]? = some c := ⟨_, List.getElem?_eq_getElem hlt⟩
      obtain ⟨b', off', cap', i', p', k', g', e1, lb, h4, h0, h1, h2, h3, h5, h6, h7, h8⟩ := at_Cd (H.out.below jb) hx
      simp only [Value.slice.injEq, Option.some.injEq, Addr.mk.injEq] at e1
      obtain ⟨⟨rfl, rfl, _⟩, _, rfl⟩ := e1
      have lbn : ∀ u, b < wr.heap.size + u := fun u => Nat.lt_of_lt_of_le lb (Nat.le_add_right _ _)
      obtain ⟨A1, c1, A2, c2, A3, c3, A4, c4, rfl, rfl, rfl, rfl⟩ := h4.forms
      have HX := Lib.hid hx
      have H4 := Lib.hid h4
      have LQ := Lib.hid hlt
      obtain ⟨kp, hkp, ek1⟩ : ∃ kp : Nat, kp = q + 1 ∧ wrap64 ((q : Int) + 1) = (kp : Int) := ⟨q + 1, rfl, w64c rfl (by have := HM.out; unfold maxLen at this; omega)⟩
      have KP := Lib.hid hkp
      clear hkp hlt hx h4 j0 jb
      have EX := Lib.hid (show l.getD q default = c by rw [List.getD_eq_getElem?_getD, HX.out]; rfl)
      have CK := Lib.hid (fun W (hW : Below wr.heap.size wr W) => check_any (l.length : Int) c _ _ _ _ (HC.out c (List.mem_of_getElem? HX.out)) HN.out W (H4.out.below hW))
      have NXX := Lib.hid (fun (h : ((chkM (l.length : Int) c).2 == 0) = true) => takeAll (p := fun y => (chkM (l.length : Int) y).2 == 0) HQ.out.2 HX.out h)
      have RX := Lib.hid (fun (h : ((chkM (l.length : Int) c).2 == 0) = false) => (by rw [R0.out, fidx_at (p := fun y => (chkM (l.length : Int) y).2 == 0) HQ.out.2 HX.out h]; simp only [EX.out] : imgM l = ((q : Int), (chkM (l.length : Int) c).1, (chkM (l.length : Int) c).2)))
      unfold RetCk at CK
      generalize chkM (l.length : Int) c = r at *
      obtain ⟨r1, r2⟩ := r
      simp only [] at CK NXX RX
      cases hz : (r2 == 0)
      · have RS := Lib.hid (RX.out hz)
        have hz' : (r2 != 0) = true := by rw [bne, hz]; rfl
        go_wp2_with (go_at_call 33; refine (callGr (CK.out _ (by (repeat (with_reducible first | exact Below.refl _ _ | (refine bl_set ?_ (by first | omega | (simp; done) | (simp; omega)) _) | refine bl_gr ?_ _ | refine bl_al ?_ _ | refine below_setRow ?_ (by first | omega | (simp; done) | (simp; omega)) _ | refine bl_drewN ?_ _ | refine Below.drew ?_ | (refine bl_tr ?_ (by assumption))))))).mono ?_; rintro e w' ⟨pp, rfl, rfl⟩)
        go_ret3
        exact ⟨by rw [RS.out]; rfl, bl_tr CX.out.2 (by (repeat (with_reducible first | exact Below.refl _ _ | (refine bl_set ?_ (by first | omega | (simp; done) | (simp; omega)) _) | refine bl_gr ?_ _ | refine bl_al ?_ _ | refine below_setRow ?_ (by first | omega | (simp; done) | (simp; omega)) _ | refine bl_drewN ?_ _ | refine Below.drew ?_ | (refine bl_tr ?_ (by assumption)))))⟩
      · have NX := Lib.hid (NXX.out hz)
        have hz' : (r2 != 0) = false := by rw [bne, hz]; rfl
        go_wp2_with (go_at_call 33; refine (callGr (CK.out _ (by (repeat (with_reducible first | exact Below.refl _ _ | (refine bl_set ?_ (by first | omega | (simp; done) | (simp; omega)) _) | refine bl_gr ?_ _ | refine bl_al ?_ _ | refine below_setRow ?_ (by first | omega | (simp; done) | (simp; omega)) _ | refine bl_drewN ?_ _ | refine Below.drew ?_ | (refine bl_tr ?_ (by assumption))))))).mono ?_; rintro e w' ⟨pp, rfl, rfl⟩)
        go_roundw
        case rel => exact ⟨kp, by first | with_reducible rfl | (rw [ek1]; done) | (rw [KP.out]; go_num), Lib.hid ⟨by rw [KP.out]; exact LQ.out, by rw [KP.out]; exact NX.out⟩, ((show Below wr.heap.size wr _ by (repeat (with_reducible first | exact Below.refl _ _ | (refine bl_set ?_ (by first | omega | (simp; done) | (simp; omega)) _) | refine bl_gr ?_ _ | refine bl_al ?_ _ | refine below_setRow ?_ (by first | omega | (simp; done) | (simp; omega)) _ | refine bl_drewN ?_ _ | refine Below.drew ?_ | (refine bl_tr ?_ (by assumption))))).block _ l0).trans CX.out.1, bl_tr CX.out.2 (by (repeat (with_reducible first | exact Below.refl _ _ | (refine bl_set ?_ (by first | omega | (simp; done) | (simp; omega)) _) | refine bl_gr ?_ _ | refine bl_al ?_ _ | refine below_setRow ?_ (by first | omega | (simp; done) | (simp; omega)) _ | refine bl_drewN ?_ _ | refine Below.drew ?_ | (refine bl_tr ?_ (by assumption)))))⟩
        case measure => (first | ((try rw [ek1]); exact meas_c KP.out LQ.out) | (clear ek1; have := LQ.out; simp only [intOf]; omega))
    · have q2 : ¬ (q : Int) < (l.length : Int) := by omega
      have hq : q = l.length := by have := HQ.out.1; omega
      have RS := Lib.hid (show imgM l = (0, 0, 0) by rw [R0.out, fidx_no (p := fun y => (chkM (l.length : Int) y).2 == 0) (by have := HQ.out.2; rwa [hq, List.take_length] at this)])
      clear hlt j0 jb hq
      go_wp2
      go_ret3
      exact ⟨by rw [RS.out]; rfl, bl_tr CX.out.2 (by (repeat (with_reducible first | exact Below.refl _ _ | (refine bl_set ?_ (by first | omega | (simp; done) | (simp; omega)) _) | refine bl_gr ?_ _ | refine bl_al ?_ _ | refine below_setRow ?_ (by first | omega | (simp; done) | (simp; omega)) _ | refine bl_drewN ?_ _ | refine Below.drew ?_ | (refine bl_tr ?_ (by assumption)))))⟩
end Go.Proofs.Ytcmpgohpncnagaa
