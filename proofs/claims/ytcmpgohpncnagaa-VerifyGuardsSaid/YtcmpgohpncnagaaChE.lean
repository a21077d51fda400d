/- checker.check (printed by gen51K.py). -/
import Derived.Test.YtcmpgohpncnagaaChD
import Derived.Test.YtcmpgohpncnagaaWyG
import Derived.Test.YtcmpgohpncnagaaCdU
namespace Go.Proofs.Ytcmpgohpncnagaa
set_option linter.all false
open Go.ChangeShapes Go.WideShapes Go.ChangeAt Go.RowKit Go.Sort Go.Deep Go.Shelf

def gdV (c : CodeD) (g : GrdD) : Bool := decide (0 ≤ g.f) && (decide (g.f < g.t) && (decide (g.t ≤ (c.ins.length : Int)) && (inB g.g g.t ((c.ins.length : Int) - 1) && inB g.r 0 (c.rg - 1))))
def insA (N : Int) (c : CodeD) (q : Nat) : Int := insE N c q (c.ins.getD q default)
/-- the first error of a code object and its position -/
noncomputable def chkM (N : Int) (c : CodeD) : Int × Int :=
  if headC c = false then (0, 1)
  else match (List.range c.ins.length).find? (fun q => insA N c q != 0) with
  | some q => ((q : Int), insA N c q)
  | none => match c.pl.findIdx? (fun v => !constM v) with
    | some i => ((i : Int), 43)
    | none => match c.ks.findIdx? (fun v => !keyM v) with
      | some i => ((i : Int), 43)
      | none => match c.gs.findIdx? (fun g => !gdV c g) with
        | some i => ((i : Int), 44)
        | none => if depE c = 42 then (openC c, 42) else (0, depE c)
theorem find_at {n q : Nat} {p : Nat → Bool} (h : ∀ j, j < q → p j = false) (hq : q < n) (hp : p q = true) : (List.range n).find? p = some q := by
  rw [List.find?_eq_some_iff_getElem]
  refine ⟨hp, q, by simpa using hq, by simp, fun j hj => ?_⟩
  simp [h j hj]
theorem find_no {n : Nat} {p : Nat → Bool} (h : ∀ j, j < n → p j = false) : (List.range n).find? p = none := by
  rw [List.find?_eq_none]
  intro x hx
  simp [h x (by simpa using hx)]
theorem fidx_at {α : Type} {l : List α} {p : α → Bool} {q : Nat} {x : α} (h : ∀ y ∈ l.take q, p y = true) (hx : l[q]? = some x) (hp : p x = false) : l.findIdx? (fun y => !p y) = some q := by
  rw [List.findIdx?_eq_some_iff_getElem]
  obtain ⟨hq, e⟩ := List.getElem?_eq_some_iff.1 hx
  refine ⟨hq, by rw [e, hp]; rfl, fun j hj => ?_⟩
  have := h (l[j]) (by rw [List.mem_take_iff_getElem]; exact ⟨j, by omega, rfl⟩)
  simp [this]
theorem fidx_no {α : Type} {l : List α} {p : α → Bool} (h : ∀ y ∈ l, p y = true) : l.findIdx? (fun y => !p y) = none := by
  rw [List.findIdx?_eq_none_iff]
  intro x hx
  simp [h x hx]
abbrev codeP (v : Val) : CodeD := ⟨⟨#[]⟩, 0, 0, 0, [], [v], [], []⟩
abbrev codeK (v : Val) : CodeD := ⟨⟨#[]⟩, 0, 0, 0, [], [], [v], []⟩
theorem i64_0 : i64ok 0 := by unfold i64ok; omega
theorem codeP_ok {v : Val} (h : v.ok) : (codeP v).ok := ⟨Nat.zero_le _, i64_0, i64_0, i64_0, by simp, fun y hy => by rw [List.mem_singleton.1 hy]; exact h, by simp, by simp⟩
theorem codeK_ok {v : Val} (h : v.ok) : (codeK v).ok := ⟨Nat.zero_le _, i64_0, i64_0, i64_0, by simp, by simp, fun y hy => by rw [List.mem_singleton.1 hy]; exact h, by simp⟩
theorem rightC_P (v : Val) : rightC (codeP v) = constM v := by
  simp [rightC, hdC, inB]
  intro _
  exact Nat.zero_le _
theorem rightC_K (v : Val) : rightC (codeK v) = keyM v := by
  simp [rightC, hdC, inB]
  intro _
  exact Nat.zero_le _
theorem sl_one {w : World} {b : Nat} {x : Val} {T : TypeId} (h : w.heap[b]? = some (.cells #[.int .i64 x.k, .int .i64 x.n, .string x.s] T)) : SlOf w 3 Val.cs (.slice (some ⟨b, 0, none⟩) 1 1) [x] := by
  refine ⟨by unfold maxLen; simp, some ⟨b, 0, none⟩, 1, rfl, by simp, fun _ => ⟨b, 0, rfl, (Array.getElem?_eq_some_iff.1 h).1, fun i y hi j u hj => ?_⟩⟩
  match i, hi with
  | 0, hi =>
    simp at hi
    subst hi
    rw [cell_of_row w b _ _ _ _ h]
    simpa [Val.cs] using hj
def RetCk (w : World) (r : Int × Int) (e : Ending) (w' : World) : Prop := e = .returned (.tuple #[.int .i64 r.1, .int .i64 r.2]) ∧ Below w.heap.size w w'
theorem headC_ok {c : CodeD} (h : headC c = true) : (0 ≤ c.kd ∧ c.kd ≤ 255) ∧ (0 ≤ c.rg ∧ c.rg ≤ 4096) ∧ c.ins.length ≤ 65536 ∧ c.pl.length ≤ 65536 ∧ c.ks.length ≤ 65536 ∧ c.gs.length ≤ 65536 := by
  unfold headC inB at h
  simp only [Bool.and_eq_true, decide_eq_true_eq] at h
  exact ⟨h.1, h.2.2.1, h.2.2.2.2⟩
set_option maxRecDepth 100000 in
set_option maxHeartbeats 16000000 in
theorem check_any (N : Int) (c : CodeD) (i p k g : Value) (hc : c.ok) (hN : 1 ≤ N ∧ N ≤ 4096) (w : World) (h : Cd4 w i p k g c) :
    Calls Try.prog 33 #[chkV c.nm c.kd c.ln c.rg i p k g N] w (RetCk w (chkM N c)) := by
  obtain ⟨A1, c1, A2, c2, A3, c3, A4, c4, rfl, rfl, rfl, rfl⟩ := h.forms
  have H := Lib.hid h
  have HC := Lib.hid hc
  have HD := Lib.hid (fun W hW => head_any c (.slice A1 c.ins.length c1) (.slice A2 c.pl.length c2) (.slice A3 c.ks.length c3) (.slice A4 c.gs.length c4) W (h.below hW) : ∀ W, Below w.heap.size w W → _)
  cases hh : headC c
  · have RS := Lib.hid (show chkM N c = (0, 1) by unfold chkM; rw [if_pos hh])
    rw [hh] at HD
    rw [RS.out]
    clear h hc hh
    go_enter Try.func33, Try.ntmps33
    go_wp2_with (go_at_call 55; refine (callGr (HD.out _ (by (repeat (with_reducible first | exact Below.refl _ _ | (refine bl_set ?_ (by first | omega | (simp; done) | (simp; omega)) _) | refine bl_gr ?_ _ | refine bl_al ?_ _ | refine below_setRow ?_ (by first | omega | (simp; done) | (simp; omega)) _ | refine bl_drewN ?_ _ | refine Below.drew ?_ | (refine bl_tr ?_ (by assumption))))))).mono ?_; rintro e w' ⟨pp, rfl, rfl⟩)
    go_ret2
    exact ⟨rfl, by (repeat (with_reducible first | exact Below.refl _ _ | (refine bl_set ?_ (by first | omega | (simp; done) | (simp; omega)) _) | refine bl_gr ?_ _ | refine bl_al ?_ _ | refine below_setRow ?_ (by first | omega | (simp; done) | (simp; omega)) _ | refine bl_drewN ?_ _ | refine Below.drew ?_ | (refine bl_tr ?_ (by assumption))))⟩
  obtain ⟨h1, h2, h3, h4, h5, h6⟩ := headC_ok hh
  have HL := Lib.hid (And.intro h3 (And.intro h4 (And.intro h5 h6)))
  have HR := Lib.hid (And.intro h1 h2)
  have R0 := Lib.hid (fun (q : Nat) (hq : q < c.ins.length) (hb : ∀ j, j < q → insA N c j = 0) (hn : insA N c q ≠ 0) => by unfold chkM; rw [if_neg (by rw [hh]; simp), find_at (p := fun q => insA N c q != 0) (fun j hj => by simp [hb j hj]) hq (by simpa using hn)] : ∀ q, q < c.ins.length → (∀ j, j < q → insA N c j = 0) → insA N c q ≠ 0 → chkM N c = ((q : Int), insA N c q))
  have R1 := Lib.hid (fun (hb : ∀ j, j < c.ins.length → insA N c j = 0) => by unfold chkM; rw [if_neg (by rw [hh]; simp), find_no (p := fun q => insA N c q != 0) (fun j hj => by simp [hb j hj])] : (∀ j, j < c.ins.length → insA N c j = 0) → chkM N c = match c.pl.findIdx? (fun v => !constM v) with
    | some i => ((i : Int), 43)
    | none => match c.ks.findIdx? (fun v => !keyM v) with
      | some i => ((i : Int), 43)
      | none => match c.gs.findIdx? (fun g => !gdV c g) with
        | some i => ((i : Int), 44)
        | none => if depE c = 42 then (openC c, 42) else (0, depE c))
  rw [hh] at HD
  clear h hc hh h1 h2 h3 h4 h5 h6
  go_enter Try.func33, Try.ntmps33
  go_upto_region 3 with (go_at_call 55; refine (callGr (HD.out _ (by (repeat (with_reducible first | exact Below.refl _ _ | (refine bl_set ?_ (by first | omega | (simp; done) | (simp; omega)) _) | refine bl_gr ?_ _ | refine bl_al ?_ _ | refine below_setRow ?_ (by first | omega | (simp; done) | (simp; omega)) _ | refine bl_drewN ?_ _ | refine Below.drew ?_ | (refine bl_tr ?_ (by assumption))))))).mono ?_; rintro e w' ⟨pp, rfl, rfl⟩)
  refine wpc_world (fun X => X.heap[w.heap.size]? = some (chkO c.nm c.kd c.ln c.rg (.slice A1 c.ins.length c1) (.slice A2 c.pl.length c2) (.slice A3 c.ks.length c3) (.slice A4 c.gs.length c4) N) ∧ Below w.heap.size w X) ⟨((show Below (w.alloc (chkO c.nm c.kd c.ln c.rg (.slice A1 c.ins.length c1) (.slice A2 c.pl.length c2) (.slice A3 c.ks.length c3) (.slice A4 c.gs.length c4) N)).heap.size (w.alloc (chkO c.nm c.kd c.ln c.rg (.slice A1 c.ins.length c1) (.slice A2 c.pl.length c2) (.slice A3 c.ks.length c3) (.slice A4 c.gs.length c4) N)) _ by (repeat (with_reducible first | exact Below.refl _ _ | (refine bl_set ?_ (by first | omega | (simp; done) | (simp; omega)) _) | refine bl_gr ?_ _ | refine bl_al ?_ _ | refine below_setRow ?_ (by first | omega | (simp; done) | (simp; omega)) _ | refine bl_drewN ?_ _ | refine Below.drew ?_ | (refine bl_tr ?_ (by assumption))))).block _ (by simp)).trans (heap_alloc_new _ _), by (repeat (with_reducible first | exact Below.refl _ _ | (refine bl_set ?_ (by first | omega | (simp; done) | (simp; omega)) _) | refine bl_gr ?_ _ | refine bl_al ?_ _ | refine below_setRow ?_ (by first | omega | (simp; done) | (simp; omega)) _ | refine bl_drewN ?_ _ | refine Below.drew ?_ | (refine bl_tr ?_ (by assumption))))⟩ ?_
  rintro X ⟨j0, jb⟩
  have CX := Lib.hid (And.intro j0 jb)
  obtain ⟨a0, a1, a2, a3, a4, a5, a6, a7, a8⟩ := cells9 j0
  have l0 := (Array.getElem?_eq_some_iff.1 j0).1
  clear j0 jb
  go_wp2
  go_loopw [23] (fun i X => ∃ q : Nat, i = .int .i64 q ∧ Hid (q ≤ c.ins.length ∧ ∀ j, j < q → insA N c j = 0) ∧ X.heap[w.heap.size]? = some (chkO c.nm c.kd c.ln c.rg (.slice A1 c.ins.length c1) (.slice A2 c.pl.length c2) (.slice A3 c.ks.length c3) (.slice A4 c.gs.length c4) N) ∧ Below w.heap.size w X) (fun i _ => c.ins.length - (intOf i).toNat)
  case atStart => exact ⟨0, rfl, Lib.hid ⟨Nat.zero_le _, fun j hj => absurd hj (Nat.not_lt_zero _)⟩, CX.out.1, CX.out.2⟩
  case round =>
    clear a0 a1 a2 a3 a4 a5 a6 a7 a8 l0 CX
    obtain ⟨q, rfl, HQ, j0, jb⟩ := hrel
    have CX := Lib.hid (And.intro j0 jb)
    obtain ⟨a0, a1, a2, a3, a4, a5, a6, a7, a8⟩ := cells9 j0
    have l0 := (Array.getElem?_eq_some_iff.1 j0).1
    by_cases hlt : q < c.ins.length
    · have q2 : (q : Int) < (c.ins.length : Int) := by omega
      have q3 : ¬ (q : Int) < 0 := by omega
      obtain ⟨x, hx⟩ : ∃ x, c.ins[q]? = some x := ⟨_, List.getElem?_eq_getElem hlt⟩
      obtain ⟨b, off, cap', e1, lb, h0, h1, h2, h3⟩ := at_In (H.out.i.below jb) hx
      simp only [Value.slice.injEq] at e1
      obtain ⟨rfl, _, rfl⟩ := e1
      have lbn : ∀ u, b < wr.heap.size + u := fun u => Nat.lt_of_lt_of_le lb (Nat.le_add_right _ _)
      have HX := Lib.hid hx
      have HB := Lib.hid (H.out.below jb)
      have LQ := Lib.hid hlt
      obtain ⟨kp, hkp, ek1⟩ : ∃ kp : Nat, kp = q + 1 ∧ wrap64 ((q : Int) + 1) = (kp : Int) := ⟨q + 1, rfl, w64c rfl (by have := HL.out; omega)⟩
      have KP := Lib.hid hkp
      clear hkp hlt hx j0 jb
      have EX := Lib.hid (show c.ins.getD q default = x by rw [List.getD_eq_getElem?_getD, HX.out]; rfl)
      have IN := Lib.hid (fun W (hW : Below wr.heap.size wr W) => vins_any N c (.slice (some ⟨b, off, none⟩) c.ins.length c1) (.slice A2 c.pl.length c2) (.slice A3 c.ks.length c3) (.slice A4 c.gs.length c4) q x HX.out (HC.out.2.2.2.2.1 x (List.mem_of_getElem? HX.out)) HR.out.1 hN HR.out.2 W (HB.out.below hW))
      by_cases hz : insE N c q x = 0
      · have NX := Lib.hid (show ∀ j, j < q + 1 → insA N c j = 0 from fun j hj => by
          by_cases e : j < q
          · exact HQ.out.2 j e
          · obtain rfl : j = q := by clear ek1; omega
            unfold insA
            rw [EX.out]
            exact hz)
        rw [hz] at IN
        clear hz
        go_wp2_with (go_at_call 56; refine (callGr (IN.out _ (by (repeat (with_reducible first | exact Below.refl _ _ | (refine bl_set ?_ (by first | omega | (simp; done) | (simp; omega)) _) | refine bl_gr ?_ _ | refine bl_al ?_ _ | refine below_setRow ?_ (by first | omega | (simp; done) | (simp; omega)) _ | refine bl_drewN ?_ _ | refine Below.drew ?_ | (refine bl_tr ?_ (by assumption))))))).mono ?_; rintro e w' ⟨pp, rfl, rfl⟩)
        go_roundw
        case rel => exact ⟨kp, by first | with_reducible rfl | (rw [ek1]; done) | (rw [KP.out]; go_num), Lib.hid ⟨by rw [KP.out]; exact LQ.out, by rw [KP.out]; exact NX.out⟩, ((show Below wr.heap.size wr _ by (repeat (with_reducible first | exact Below.refl _ _ | (refine bl_set ?_ (by first | omega | (simp; done) | (simp; omega)) _) | refine bl_gr ?_ _ | refine bl_al ?_ _ | refine below_setRow ?_ (by first | omega | (simp; done) | (simp; omega)) _ | refine bl_drewN ?_ _ | refine Below.drew ?_ | (refine bl_tr ?_ (by assumption))))).block _ l0).trans CX.out.1, bl_tr CX.out.2 (by (repeat (with_reducible first | exact Below.refl _ _ | (refine bl_set ?_ (by first | omega | (simp; done) | (simp; omega)) _) | refine bl_gr ?_ _ | refine bl_al ?_ _ | refine below_setRow ?_ (by first | omega | (simp; done) | (simp; omega)) _ | refine bl_drewN ?_ _ | refine Below.drew ?_ | (refine bl_tr ?_ (by assumption)))))⟩
        case measure => (first | ((try rw [ek1]); exact meas_c KP.out LQ.out) | (clear ek1; have := LQ.out; simp only [intOf]; omega))
      · have RS := Lib.hid (show chkM N c = ((q : Int), insE N c q x) by rw [R0.out q LQ.out HQ.out.2 (by unfold insA; rw [EX.out]; exact hz)]; unfold insA; rw [EX.out])
        have e9 : (insE N c q x != 0) = true := by simpa using hz
        have e8 : (insE N c q x == 0) = false := by simpa using hz
        generalize insE N c q x = r at *
        clear hz
        go_wp2_with (go_at_call 56; refine (callGr (IN.out _ (by (repeat (with_reducible first | exact Below.refl _ _ | (refine bl_set ?_ (by first | omega | (simp; done) | (simp; omega)) _) | refine bl_gr ?_ _ | refine bl_al ?_ _ | refine below_setRow ?_ (by first | omega | (simp; done) | (simp; omega)) _ | refine bl_drewN ?_ _ | refine Below.drew ?_ | (refine bl_tr ?_ (by assumption))))))).mono ?_; rintro e w' ⟨pp, rfl, rfl⟩)
        go_ret2
        exact ⟨by rw [RS.out]; rfl, bl_tr CX.out.2 (by (repeat (with_reducible first | exact Below.refl _ _ | (refine bl_set ?_ (by first | omega | (simp; done) | (simp; omega)) _) | refine bl_gr ?_ _ | refine bl_al ?_ _ | refine below_setRow ?_ (by first | omega | (simp; done) | (simp; omega)) _ | refine bl_drewN ?_ _ | refine Below.drew ?_ | (refine bl_tr ?_ (by assumption)))))⟩
    · have q2 : ¬ (q : Int) < (c.ins.length : Int) := by omega
      have hq : q = c.ins.length := by have := HQ.out.1; omega
      have R2 := Lib.hid (R1.out (by have := HQ.out.2; rw [hq] at this; exact this))
      clear hlt j0 jb hq
      go_wp2
      go_loopw [38] (fun i X => ∃ q : Nat, i = .int .i64 q ∧ Hid (q ≤ c.pl.length ∧ ∀ y ∈ c.pl.take q, constM y = true) ∧ X.heap[w.heap.size]? = some (chkO c.nm c.kd c.ln c.rg (.slice A1 c.ins.length c1) (.slice A2 c.pl.length c2) (.slice A3 c.ks.length c3) (.slice A4 c.gs.length c4) N) ∧ Below w.heap.size w X) (fun i _ => c.pl.length - (intOf i).toNat)
      case atStart => exact ⟨0, rfl, Lib.hid ⟨Nat.zero_le _, by simp⟩, CX.out.1, CX.out.2⟩
      case round =>
        clear a0 a1 a2 a3 a4 a5 a6 a7 a8 l0 CX
        obtain ⟨q, rfl, HQ, j0, jb⟩ := hrel
        have CX := Lib.hid (And.intro j0 jb)
        obtain ⟨a0, a1, a2, a3, a4, a5, a6, a7, a8⟩ := cells9 j0
        have l0 := (Array.getElem?_eq_some_iff.1 j0).1
        by_cases hlt : q < c.pl.length
        · have q2 : (q : Int) < (c.pl.length : Int) := by omega
          have q3 : ¬ (q : Int) < 0 := by omega
          obtain ⟨x, hx⟩ : ∃ x, c.pl[q]? = some x := ⟨_, List.getElem?_eq_getElem hlt⟩
          obtain ⟨b, off, cap', e1, lb, h0, h1, h2⟩ := at_Vl (H.out.p.below jb) hx
          simp only [Value.slice.injEq] at e1
          obtain ⟨rfl, _, rfl⟩ := e1
          have lbn : ∀ u, b < wr.heap.size + u := fun u => Nat.lt_of_lt_of_le lb (Nat.le_add_right _ _)
          have HX := Lib.hid hx
          have HB := Lib.hid (H.out.below jb)
          have LQ := Lib.hid hlt
          obtain ⟨kp, hkp, ek1⟩ : ∃ kp : Nat, kp = q + 1 ∧ wrap64 ((q : Int) + 1) = (kp : Int) := ⟨q + 1, rfl, w64c rfl (by have := HL.out; omega)⟩
          have KP := Lib.hid hkp
          clear hkp hlt hx j0 jb
          have RG := Lib.hid (fun W (hW : SlOf W 3 Val.cs (.slice (some ⟨wr.heap.size + 1, 0, none⟩) 1 1) [x]) => by have := rightC_any (codeP x) (.slice none 0 0) (.slice (some ⟨wr.heap.size + 1, 0, none⟩) 1 1) (.slice none 0 0) (.slice none 0 0) (codeP_ok (HC.out.2.2.2.2.2.1 x (List.mem_of_getElem? HX.out))) W ⟨.nil_, hW, .nil_, .nil_⟩; rw [rightC_P] at this; exact this : ∀ W, SlOf W 3 Val.cs (.slice (some ⟨wr.heap.size + 1, 0, none⟩) 1 1) [x] → Calls Try.prog 18 #[codeV ⟨#[]⟩ 0 0 0 (.slice none 0 0) (.slice (some ⟨wr.heap.size + 1, 0, none⟩) 1 1) (.slice none 0 0) (.slice none 0 0)] W fun e w' => e = .returned (.bool (constM x)) ∧ Below W.heap.size W w')
          cases hz : constM x
          · have RS := Lib.hid (show chkM N c = ((q : Int), 43) by rw [R2.out, fidx_at (p := constM) HQ.out.2 HX.out hz])
            rw [hz] at RG
            clear hz
            go_wp2_with (go_at_call 18; refine (callGr (RG.out _ (sl_one (by first | exact heap_alloc2_new _ _ _ | (have := heap_alloc2_new wr (.cells #[.int .i64 x.k, .int .i64 x.n, .string x.s] 51) (.cells #[.int .i64 x.k, .int .i64 x.n, .string x.s] 51); exact this))))).mono ?_; rintro e w' ⟨pp, rfl, rfl⟩)
            go_ret2
            exact ⟨by rw [RS.out]; rfl, bl_tr CX.out.2 (by (repeat (with_reducible first | exact Below.refl _ _ | (refine bl_set ?_ (by first | omega | (simp; done) | (simp; omega)) _) | refine bl_gr ?_ _ | refine bl_al ?_ _ | refine below_setRow ?_ (by first | omega | (simp; done) | (simp; omega)) _ | refine bl_drewN ?_ _ | refine Below.drew ?_ | (refine bl_tr ?_ (by assumption)))))⟩
          · have NX := Lib.hid (takeAll HQ.out.2 HX.out hz)
            rw [hz] at RG
            clear hz
            go_wp2_with (go_at_call 18; refine (callGr (RG.out _ (sl_one (by first | exact heap_alloc2_new _ _ _ | (have := heap_alloc2_new wr (.cells #[.int .i64 x.k, .int .i64 x.n, .string x.s] 51) (.cells #[.int .i64 x.k, .int .i64 x.n, .string x.s] 51); exact this))))).mono ?_; rintro e w' ⟨pp, rfl, rfl⟩)
            go_roundw
            case rel => exact ⟨kp, by first | with_reducible rfl | (rw [ek1]; done) | (rw [KP.out]; go_num), Lib.hid ⟨by rw [KP.out]; exact LQ.out, by rw [KP.out]; exact NX.out⟩, ((show Below wr.heap.size wr _ by (repeat (with_reducible first | exact Below.refl _ _ | (refine bl_set ?_ (by first | omega | (simp; done) | (simp; omega)) _) | refine bl_gr ?_ _ | refine bl_al ?_ _ | refine below_setRow ?_ (by first | omega | (simp; done) | (simp; omega)) _ | refine bl_drewN ?_ _ | refine Below.drew ?_ | (refine bl_tr ?_ (by assumption))))).block _ l0).trans CX.out.1, bl_tr CX.out.2 (by (repeat (with_reducible first | exact Below.refl _ _ | (refine bl_set ?_ (by first | omega | (simp; done) | (simp; omega)) _) | refine bl_gr ?_ _ | refine bl_al ?_ _ | refine below_setRow ?_ (by first | omega | (simp; done) | (simp; omega)) _ | refine bl_drewN ?_ _ | refine Below.drew ?_ | (refine bl_tr ?_ (by assumption)))))⟩
            case measure => (first | ((try rw [ek1]); exact meas_c KP.out LQ.out) | (clear ek1; have := LQ.out; simp only [intOf]; omega))
        · have q2 : ¬ (q : Int) < (c.pl.length : Int) := by omega
          have hq : q = c.pl.length := by have := HQ.out.1; omega
          have R3 := Lib.hid (show chkM N c = match c.ks.findIdx? (fun v => !keyM v) with
            | some i => ((i : Int), 43)
            | none => match c.gs.findIdx? (fun g => !gdV c g) with
              | some i => ((i : Int), 44)
              | none => if depE c = 42 then (openC c, 42) else (0, depE c) by rw [R2.out, fidx_no (p := constM) (by have := HQ.out.2; rwa [hq, List.take_length] at this)])
          clear hlt j0 jb hq
          go_wp2
          go_loopw [54] (fun i X => ∃ q : Nat, i = .int .i64 q ∧ Hid (q ≤ c.ks.length ∧ ∀ y ∈ c.ks.take q, keyM y = true) ∧ X.heap[w.heap.size]? = some (chkO c.nm c.kd c.ln c.rg (.slice A1 c.ins.length c1) (.slice A2 c.pl.length c2) (.slice A3 c.ks.length c3) (.slice A4 c.gs.length c4) N) ∧ Below w.heap.size w X) (fun i _ => c.ks.length - (intOf i).toNat)
          case atStart => exact ⟨0, rfl, Lib.hid ⟨Nat.zero_le _, by simp⟩, CX.out.1, CX.out.2⟩
          case round =>
            clear a0 a1 a2 a3 a4 a5 a6 a7 a8 l0 CX
            obtain ⟨q, rfl, HQ, j0, jb⟩ := hrel
            have CX := Lib.hid (And.intro j0 jb)
            obtain ⟨a0, a1, a2, a3, a4, a5, a6, a7, a8⟩ := cells9 j0
            have l0 := (Array.getElem?_eq_some_iff.1 j0).1
            by_cases hlt : q < c.ks.length
            · have q2 : (q : Int) < (c.ks.length : Int) := by omega
              have q3 : ¬ (q : Int) < 0 := by omega
              obtain ⟨x, hx⟩ : ∃ x, c.ks[q]? = some x := ⟨_, List.getElem?_eq_getElem hlt⟩
              obtain ⟨b, off, cap', e1, lb, h0, h1, h2⟩ := at_Ky (H.out.k.below jb) hx
              simp only [Value.slice.injEq] at e1
              obtain ⟨rfl, _, rfl⟩ := e1
              have lbn : ∀ u, b < wr.heap.size + u := fun u => Nat.lt_of_lt_of_le lb (Nat.le_add_right _ _)
              have HX := Lib.hid hx
              have HB := Lib.hid (H.out.below jb)
              have LQ := Lib.hid hlt
              obtain ⟨kp, hkp, ek1⟩ : ∃ kp : Nat, kp = q + 1 ∧ wrap64 ((q : Int) + 1) = (kp : Int) := ⟨q + 1, rfl, w64c rfl (by have := HL.out; omega)⟩
              have KP := Lib.hid hkp
              clear hkp hlt hx j0 jb
              have RG := Lib.hid (fun W (hW : SlOf W 3 Val.cs (.slice (some ⟨wr.heap.size + 1, 0, none⟩) 1 1) [x]) => by have := rightC_any (codeK x) (.slice none 0 0) (.slice none 0 0) (.slice (some ⟨wr.heap.size + 1, 0, none⟩) 1 1) (.slice none 0 0) (codeK_ok (HC.out.2.2.2.2.2.2.1 x (List.mem_of_getElem? HX.out))) W ⟨.nil_, .nil_, hW, .nil_⟩; rw [rightC_K] at this; exact this : ∀ W, SlOf W 3 Val.cs (.slice (some ⟨wr.heap.size + 1, 0, none⟩) 1 1) [x] → Calls Try.prog 18 #[codeV ⟨#[]⟩ 0 0 0 (.slice none 0 0) (.slice none 0 0) (.slice (some ⟨wr.heap.size + 1, 0, none⟩) 1 1) (.slice none 0 0)] W fun e w' => e = .returned (.bool (keyM x)) ∧ Below W.heap.size W w')
              cases hz : keyM x
              · have RS := Lib.hid (show chkM N c = ((q : Int), 43) by rw [R3.out, fidx_at (p := keyM) HQ.out.2 HX.out hz])
                rw [hz] at RG
                clear hz
                go_wp2_with (go_at_call 18; refine (callGr (RG.out _ (sl_one (by first | exact heap_alloc2_new _ _ _ | (have := heap_alloc2_new wr (.cells #[.int .i64 x.k, .int .i64 x.n, .string x.s] 52) (.cells #[.int .i64 x.k, .int .i64 x.n, .string x.s] 52); exact this))))).mono ?_; rintro e w' ⟨pp, rfl, rfl⟩)
                go_ret2
                exact ⟨by rw [RS.out]; rfl, bl_tr CX.out.2 (by (repeat (with_reducible first | exact Below.refl _ _ | (refine bl_set ?_ (by first | omega | (simp; done) | (simp; omega)) _) | refine bl_gr ?_ _ | refine bl_al ?_ _ | refine below_setRow ?_ (by first | omega | (simp; done) | (simp; omega)) _ | refine bl_drewN ?_ _ | refine Below.drew ?_ | (refine bl_tr ?_ (by assumption)))))⟩
              · have NX := Lib.hid (takeAll HQ.out.2 HX.out hz)
                rw [hz] at RG
                clear hz
                go_wp2_with (go_at_call 18; refine (callGr (RG.out _ (sl_one (by first | exact heap_alloc2_new _ _ _ | (have := heap_alloc2_new wr (.cells #[.int .i64 x.k, .int .i64 x.n, .string x.s] 52) (.cells #[.int .i64 x.k, .int .i64 x.n, .string x.s] 52); exact this))))).mono ?_; rintro e w' ⟨pp, rfl, rfl⟩)
                go_roundw
                case rel => exact ⟨kp, by first | with_reducible rfl | (rw [ek1]; done) | (rw [KP.out]; go_num), Lib.hid ⟨by rw [KP.out]; exact LQ.out, by rw [KP.out]; exact NX.out⟩, ((show Below wr.heap.size wr _ by (repeat (with_reducible first | exact Below.refl _ _ | (refine bl_set ?_ (by first | omega | (simp; done) | (simp; omega)) _) | refine bl_gr ?_ _ | refine bl_al ?_ _ | refine below_setRow ?_ (by first | omega | (simp; done) | (simp; omega)) _ | refine bl_drewN ?_ _ | refine Below.drew ?_ | (refine bl_tr ?_ (by assumption))))).block _ l0).trans CX.out.1, bl_tr CX.out.2 (by (repeat (with_reducible first | exact Below.refl _ _ | (refine bl_set ?_ (by first | omega | (simp; done) | (simp; omega)) _) | refine bl_gr ?_ _ | refine bl_al ?_ _ | refine below_setRow ?_ (by first | omega | (simp; done) | (simp; omega)) _ | refine bl_drewN ?_ _ | refine Below.drew ?_ | (refine bl_tr ?_ (by assumption)))))⟩
                case measure => (first | ((try rw [ek1]); exact meas_c KP.out LQ.out) | (clear ek1; have := LQ.out; simp only [intOf]; omega))
            · have q2 : ¬ (q : Int) < (c.ks.length : Int) := by omega
              have hq : q = c.ks.length := by have := HQ.out.1; omega
              have R4 := Lib.hid (show chkM N c = match c.gs.findIdx? (fun g => !gdV c g) with
                | some i => ((i : Int), 44)
                | none => if depE c = 42 then (openC c, 42) else (0, depE c) by rw [R3.out, fidx_no (p := keyM) (by have := HQ.out.2; rwa [hq, List.take_length] at this)])
              clear hlt j0 jb hq
              go_wp2
              go_loopw [70] (fun i X => ∃ q : Nat, i = .int .i64 q ∧ Hid (q ≤ c.gs.length ∧ ∀ y ∈ c.gs.take q, gdV c y = true) ∧ X.heap[w.heap.size]? = some (chkO c.nm c.kd c.ln c.rg (.slice A1 c.ins.length c1) (.slice A2 c.pl.length c2) (.slice A3 c.ks.length c3) (.slice A4 c.gs.length c4) N) ∧ Below w.heap.size w X) (fun i _ => c.gs.length - (intOf i).toNat)
              case atStart => exact ⟨0, rfl, Lib.hid ⟨Nat.zero_le _, by simp⟩, CX.out.1, CX.out.2⟩
              case round =>
                clear a0 a1 a2 a3 a4 a5 a6 a7 a8 l0 CX
                obtain ⟨q, rfl, HQ, j0, jb⟩ := hrel
                have CX := Lib.hid (And.intro j0 jb)
                obtain ⟨a0, a1, a2, a3, a4, a5, a6, a7, a8⟩ := cells9 j0
                have l0 := (Array.getElem?_eq_some_iff.1 j0).1
                by_cases hlt : q < c.gs.length
                · have q2 : (q : Int) < (c.gs.length : Int) := by omega
                  have q3 : ¬ (q : Int) < 0 := by omega
                  obtain ⟨x, hx⟩ : ∃ x, c.gs[q]? = some x := ⟨_, List.getElem?_eq_getElem hlt⟩
                  obtain ⟨b, off, cap', e1, lb, h0, h1, h2, h3⟩ := at_Gd (H.out.g.below jb) hx
                  simp only [Value.slice.injEq] at e1
                  obtain ⟨rfl, _, rfl⟩ := e1
                  have lbn : ∀ u, b < wr.heap.size + u := fun u => Nat.lt_of_lt_of_le lb (Nat.le_add_right _ _)
                  have HX := Lib.hid hx
                  have HB := Lib.hid (H.out.below jb)
                  have LQ := Lib.hid hlt
                  obtain ⟨kp, hkp, ek1⟩ : ∃ kp : Nat, kp = q + 1 ∧ wrap64 ((q : Int) + 1) = (kp : Int) := ⟨q + 1, rfl, w64c rfl (by have := HL.out; omega)⟩
                  have KP := Lib.hid hkp
                  clear hkp hlt hx j0 jb
                  have GM := Lib.hid (show gdV c x = (decide (0 ≤ x.f) && (decide (x.f < x.t) && (decide (x.t ≤ (c.ins.length : Int)) && (inB x.g x.t ((c.ins.length : Int) - 1) && inB x.r 0 (c.rg - 1))))) from rfl)
                  have I1 := Lib.hid (fun W => vin_any x.g x.t ((c.ins.length : Int) - 1) W)
                  have I2 := Lib.hid (fun W => vin_any x.r 0 (c.rg - 1) W)
                  have RX := Lib.hid (fun (h : gdV c x = false) => (by rw [R4.out, fidx_at (p := gdV c) HQ.out.2 HX.out h] : chkM N c = ((q : Int), 44)))
                  have NXX := Lib.hid (fun (h : gdV c x = true) => takeAll HQ.out.2 HX.out h)
                  generalize inB x.g x.t ((c.ins.length : Int) - 1) = i1 at *
                  generalize inB x.r 0 (c.rg - 1) = i2 at *
                  have w1 : wrap64 ((c.ins.length : Int) - 1) = (c.ins.length : Int) - 1 := by clear ek1; have := HL.out; unfold wrap64; omega
                  have w2 : wrap64 (c.rg - 1) = c.rg - 1 := by clear ek1 w1; have := HR.out; unfold wrap64; omega
                  by_cases g0 : x.f < 0
                  · have RS := Lib.hid (RX.out (by rw [GM.out, decide_eq_false (show ¬ 0 ≤ x.f by clear ek1 w1 w2; omega)]; rfl))
                    go_wp2_with (first | (go_at_call_of 32 (Value.int IntKind.i64 x.g); refine (I1.out _).mono ?_; rintro e w' ⟨rfl, rfl⟩) | (go_at_call_of 32 (Value.int IntKind.i64 x.r); refine (I2.out _).mono ?_; rintro e w' ⟨rfl, rfl⟩))
                    go_ret2
                    exact ⟨by rw [RS.out]; rfl, bl_tr CX.out.2 (by (repeat (with_reducible first | exact Below.refl _ _ | (refine bl_set ?_ (by first | omega | (simp; done) | (simp; omega)) _) | refine bl_gr ?_ _ | refine bl_al ?_ _ | refine below_setRow ?_ (by first | omega | (simp; done) | (simp; omega)) _ | refine bl_drewN ?_ _ | refine Below.drew ?_ | (refine bl_tr ?_ (by assumption)))))⟩
                  by_cases g1 : x.t ≤ x.f
                  · have RS := Lib.hid (RX.out (by rw [GM.out, decide_eq_false (show ¬ x.f < x.t by clear ek1 w1 w2; omega)]; simp))
                    go_wp2_with (first | (go_at_call_of 32 (Value.int IntKind.i64 x.g); refine (I1.out _).mono ?_; rintro e w' ⟨rfl, rfl⟩) | (go_at_call_of 32 (Value.int IntKind.i64 x.r); refine (I2.out _).mono ?_; rintro e w' ⟨rfl, rfl⟩))
                    go_ret2
                    exact ⟨by rw [RS.out]; rfl, bl_tr CX.out.2 (by (repeat (with_reducible first | exact Below.refl _ _ | (refine bl_set ?_ (by first | omega | (simp; done) | (simp; omega)) _) | refine bl_gr ?_ _ | refine bl_al ?_ _ | refine below_setRow ?_ (by first | omega | (simp; done) | (simp; omega)) _ | refine bl_drewN ?_ _ | refine Below.drew ?_ | (refine bl_tr ?_ (by assumption)))))⟩
                  by_cases g2 : (c.ins.length : Int) < x.t
                  · have RS := Lib.hid (RX.out (by rw [GM.out, decide_eq_false (show ¬ x.t ≤ (c.ins.length : Int) by clear ek1 w1 w2; omega)]; simp))
                    go_wp2_with (first | (go_at_call_of 32 (Value.int IntKind.i64 x.g); refine (I1.out _).mono ?_; rintro e w' ⟨rfl, rfl⟩) | (go_at_call_of 32 (Value.int IntKind.i64 x.r); refine (I2.out _).mono ?_; rintro e w' ⟨rfl, rfl⟩))
                    go_ret2
                    exact ⟨by rw [RS.out]; rfl, bl_tr CX.out.2 (by (repeat (with_reducible first | exact Below.refl _ _ | (refine bl_set ?_ (by first | omega | (simp; done) | (simp; omega)) _) | refine bl_gr ?_ _ | refine bl_al ?_ _ | refine below_setRow ?_ (by first | omega | (simp; done) | (simp; omega)) _ | refine bl_drewN ?_ _ | refine Below.drew ?_ | (refine bl_tr ?_ (by assumption)))))⟩
                  have GN := Lib.hid (show gdV c x = (i1 && i2) by rw [GM.out, decide_eq_true (show 0 ≤ x.f by clear ek1 w1 w2; omega), decide_eq_true (show x.f < x.t by clear ek1 w1 w2; omega), decide_eq_true (show x.t ≤ (c.ins.length : Int) by clear ek1 w1 w2; omega)]; rfl)
                  cases i1
                  · have RS := Lib.hid (RX.out (by rw [GN.out]; rfl))
                    go_wp2_with (first | (go_at_call_of 32 (Value.int IntKind.i64 x.g); refine (I1.out _).mono ?_; rintro e w' ⟨rfl, rfl⟩) | (go_at_call_of 32 (Value.int IntKind.i64 x.r); refine (I2.out _).mono ?_; rintro e w' ⟨rfl, rfl⟩))
                    go_ret2
                    exact ⟨by rw [RS.out]; rfl, bl_tr CX.out.2 (by (repeat (with_reducible first | exact Below.refl _ _ | (refine bl_set ?_ (by first | omega | (simp; done) | (simp; omega)) _) | refine bl_gr ?_ _ | refine bl_al ?_ _ | refine below_setRow ?_ (by first | omega | (simp; done) | (simp; omega)) _ | refine bl_drewN ?_ _ | refine Below.drew ?_ | (refine bl_tr ?_ (by assumption)))))⟩
                  cases i2
                  · have RS := Lib.hid (RX.out (by rw [GN.out]; rfl))
                    go_wp2_with (first | (go_at_call_of 32 (Value.int IntKind.i64 x.g); refine (I1.out _).mono ?_; rintro e w' ⟨rfl, rfl⟩) | (go_at_call_of 32 (Value.int IntKind.i64 x.r); refine (I2.out _).mono ?_; rintro e w' ⟨rfl, rfl⟩))
                    go_ret2
                    exact ⟨by rw [RS.out]; rfl, bl_tr CX.out.2 (by (repeat (with_reducible first | exact Below.refl _ _ | (refine bl_set ?_ (by first | omega | (simp; done) | (simp; omega)) _) | refine bl_gr ?_ _ | refine bl_al ?_ _ | refine below_setRow ?_ (by first | omega | (simp; done) | (simp; omega)) _ | refine bl_drewN ?_ _ | refine Below.drew ?_ | (refine bl_tr ?_ (by assumption)))))⟩
                  have NX := Lib.hid (NXX.out (by rw [GN.out]; rfl))
                  go_wp2_with (first | (go_at_call_of 32 (Value.int IntKind.i64 x.g); refine (I1.out _).mono ?_; rintro e w' ⟨rfl, rfl⟩) | (go_at_call_of 32 (Value.int IntKind.i64 x.r); refine (I2.out _).mono ?_; rintro e w' ⟨rfl, rfl⟩))
                  go_roundw
                  case rel => exact ⟨kp, by first | with_reducible rfl | (rw [ek1]; done) | (rw [KP.out]; go_num), Lib.hid ⟨by rw [KP.out]; exact LQ.out, by rw [KP.out]; exact NX.out⟩, ((show Below wr.heap.size wr _ by (repeat (with_reducible first | exact Below.refl _ _ | (refine bl_set ?_ (by first | omega | (simp; done) | (simp; omega)) _) | refine bl_gr ?_ _ | refine bl_al ?_ _ | refine below_setRow ?_ (by first | omega | (simp; done) | (simp; omega)) _ | refine bl_drewN ?_ _ | refine Below.drew ?_ | (refine bl_tr ?_ (by assumption))))).block _ l0).trans CX.out.1, bl_tr CX.out.2 (by (repeat (with_reducible first | exact Below.refl _ _ | (refine bl_set ?_ (by first | omega | (simp; done) | (simp; omega)) _) | refine bl_gr ?_ _ | refine bl_al ?_ _ | refine below_setRow ?_ (by first | omega | (simp; done) | (simp; omega)) _ | refine bl_drewN ?_ _ | refine Below.drew ?_ | (refine bl_tr ?_ (by assumption)))))⟩
                  case measure => (first | ((try rw [ek1]); exact meas_c KP.out LQ.out) | (clear ek1; have := LQ.out; simp only [intOf]; omega))
                · have q2 : ¬ (q : Int) < (c.gs.length : Int) := by omega
                  have hq : q = c.gs.length := by have := HQ.out.1; omega
                  have R5 := Lib.hid (show chkM N c = if depE c = 42 then (openC c, 42) else (0, depE c) by rw [R4.out, fidx_no (p := gdV c) (by have := HQ.out.2; rwa [hq, List.take_length] at this)])
                  have DP := Lib.hid (fun W (hW : Below wr.heap.size wr W) => deep_any c (.slice A1 c.ins.length c1) (.slice A2 c.pl.length c2) (.slice A3 c.ks.length c3) (.slice A4 c.gs.length c4) HC.out W (H.out.below (bl_tr CX.out.2 hW)))
                  have OP := Lib.hid (fun (hr : rightC c = true) W (hW : Below wr.heap.size wr W) => open_any c hr (.slice A1 c.ins.length c1) (.slice A2 c.pl.length c2) (.slice A3 c.ks.length c3) (.slice A4 c.gs.length c4) HC.out W (H.out.below (bl_tr CX.out.2 hW)))
                  have KO := Lib.hid (fun Z (hZ : Below wr.heap.size wr Z) => cells9 ((hZ.block _ l0).trans CX.out.1))
                  have D4 := Lib.hid (show depE c = 42 → rightC c = true from fun e => by cases hh : rightC c; (unfold depE at e; rw [if_pos hh] at e; cases e); rfl)
                  clear hlt j0 jb hq
                  unfold RetD at DP
                  by_cases h4 : depE c = 42
                  · have RS := Lib.hid (show chkM N c = (openC c, 42) by rw [R5.out, if_pos h4])
                    have OP := Lib.hid (OP.out (D4.out h4))
                    rw [h4] at DP
                    clear h4
                    generalize openC c = oc at *
                    go_wp2_with (first | (go_at_call 12; go_loud (refine (DP.out _ (by (repeat (with_reducible first | exact Below.refl _ _ | (refine bl_set ?_ (by first | omega | (simp; done) | (simp; omega)) _) | refine bl_gr ?_ _ | refine bl_al ?_ _ | refine below_setRow ?_ (by first | omega | (simp; done) | (simp; omega)) _ | refine bl_drewN ?_ _ | refine Below.drew ?_ | (refine bl_tr ?_ (by assumption)))))).mono ?_; rintro e w3 ⟨v, rfl, -, hb⟩; have B3 := Lib.hid (bl_tr (show Below wr.heap.size wr _ by (repeat (with_reducible first | exact Below.refl _ _ | (refine bl_set ?_ (by first | omega | (simp; done) | (simp; omega)) _) | refine bl_gr ?_ _ | refine bl_al ?_ _ | refine below_setRow ?_ (by first | omega | (simp; done) | (simp; omega)) _ | refine bl_drewN ?_ _ | refine Below.drew ?_ | (refine bl_tr ?_ (by assumption))))) hb); obtain ⟨a0, a1, a2, a3, a4, a5, a6, a7, a8⟩ := KO.out _ B3.out; have l3 := Nat.lt_of_lt_of_le l0 B3.out.size; clear hb)) | (go_at_call 24; refine (callGr (OP.out _ (bl_tr B3.out (by (repeat (with_reducible first | exact Below.refl _ _ | (refine bl_set ?_ (by first | omega | (simp; done) | (simp; omega)) _) | refine bl_gr ?_ _ | refine bl_al ?_ _ | refine below_setRow ?_ (by first | omega | (simp; done) | (simp; omega)) _ | refine bl_drewN ?_ _ | refine Below.drew ?_ | (refine bl_tr ?_ (by assumption)))))))).mono ?_; rintro e w' ⟨pp, rfl, rfl⟩))
                    go_ret2
                    exact ⟨by rw [RS.out]; rfl, bl_tr CX.out.2 (bl_tr B3.out (by (repeat (with_reducible first | exact Below.refl _ _ | (refine bl_set ?_ (by first | omega | (simp; done) | (simp; omega)) _) | refine bl_gr ?_ _ | refine bl_al ?_ _ | refine below_setRow ?_ (by first | omega | (simp; done) | (simp; omega)) _ | refine bl_drewN ?_ _ | refine Below.drew ?_ | (refine bl_tr ?_ (by assumption))))))⟩
                  · have RS := Lib.hid (show chkM N c = (0, depE c) by rw [R5.out, if_neg h4])
                    have e9 : (depE c == 42) = false := by simpa using h4
                    generalize depE c = de at *
                    clear h4
                    go_wp2_with (go_at_call 12; go_loud (refine (DP.out _ (by (repeat (with_reducible first | exact Below.refl _ _ | (refine bl_set ?_ (by first | omega | (simp; done) | (simp; omega)) _) | refine bl_gr ?_ _ | refine bl_al ?_ _ | refine below_setRow ?_ (by first | omega | (simp; done) | (simp; omega)) _ | refine bl_drewN ?_ _ | refine Below.drew ?_ | (refine bl_tr ?_ (by assumption)))))).mono ?_; rintro e w3 ⟨v, rfl, -, hb⟩; have B3 := Lib.hid (bl_tr (show Below wr.heap.size wr _ by (repeat (with_reducible first | exact Below.refl _ _ | (refine bl_set ?_ (by first | omega | (simp; done) | (simp; omega)) _) | refine bl_gr ?_ _ | refine bl_al ?_ _ | refine below_setRow ?_ (by first | omega | (simp; done) | (simp; omega)) _ | refine bl_drewN ?_ _ | refine Below.drew ?_ | (refine bl_tr ?_ (by assumption))))) hb); obtain ⟨a0, a1, a2, a3, a4, a5, a6, a7, a8⟩ := KO.out _ B3.out; have l3 := Nat.lt_of_lt_of_le l0 B3.out.size; clear hb))
                    go_ret2
                    exact ⟨by rw [RS.out]; rfl, bl_tr CX.out.2 (bl_tr B3.out (by (repeat (with_reducible first | exact Below.refl _ _ | (refine bl_set ?_ (by first | omega | (simp; done) | (simp; omega)) _) | refine bl_gr ?_ _ | refine bl_al ?_ _ | refine below_setRow ?_ (by first | omega | (simp; done) | (simp; omega)) _ | refine bl_drewN ?_ _ | refine Below.drew ?_ | (refine bl_tr ?_ (by assumption))))))⟩
end Go.Proofs.Ytcmpgohpncnagaa
