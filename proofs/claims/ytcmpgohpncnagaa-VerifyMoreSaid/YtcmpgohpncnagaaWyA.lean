/- verify.ways over a closure that is kept open: what it calls for, in order (printed by gen51W.py). -/
import Derived.Test.YtcmpgohpncnagaaCdJ
namespace Go.Proofs.Ytcmpgohpncnagaa
set_option linter.all false
open Go.ChangeShapes Go.WideShapes Go.ChangeAt Go.RowKit Go.Sort Go.Deep Go.Shelf

/-- blocks of the walk's own: code objects, instructions, handlers, closures of two arguments -/
def tg : Obj → Bool
  | .cells _ t _ => t == 27 || t == 45 || t == 48 || t == 60
  | _ => false
/-- w' is w but for blocks outside K that are none of the walk's own, and new ones -/
structure Kp (K : Nat → Prop) (W W' : World) : Prop where
  os : W'.os = W.os
  tape : W'.tape = W.tape
  output : W'.output = W.output
  size : W.heap.size ≤ W'.heap.size
  blk : ∀ k o, W.heap[k]? = some o → (K k ∨ tg o = true) → W'.heap[k]? = some o
theorem Kp.refl (K : Nat → Prop) (W : World) : Kp K W W := ⟨rfl, rfl, rfl, Nat.le_refl _, fun _ _ h _ => h⟩
theorem Kp.trans {K : Nat → Prop} {a b c : World} (h : Kp K a b) (k : Kp K b c) : Kp K a c :=
  ⟨k.os.trans h.os, k.tape.trans h.tape, k.output.trans h.output, Nat.le_trans h.size k.size, fun i o ho hk => k.blk i o (h.blk i o ho hk) hk⟩
theorem Kp.of_below {K : Nat → Prop} {a b : World} (h : Below a.heap.size a b) : Kp K a b :=
  ⟨h.os, h.tape, h.output, h.size, fun k _ ho _ => (h.block k (Array.getElem?_eq_some_iff.1 ho).1).trans ho⟩
theorem Kp.below {K : Nat → Prop} {n : Nat} {a b : World} (h : Kp K a b) (hn : n ≤ a.heap.size) (hK : ∀ k, k < n → K k) : Below n a b :=
  ⟨h.os, h.tape, h.output, h.size, fun k hk => by
    have e : a.heap[k]? = some a.heap[k] := Array.getElem?_eq_getElem (by omega)
    rw [e]
    exact h.blk k _ e (.inl (hK k hk))⟩
theorem Kp.mono {K L : Nat → Prop} {a b : World} (h : Kp K a b) (hL : ∀ k, L k → K k) : Kp L a b := ⟨h.os, h.tape, h.output, h.size, fun k o ho hk => h.blk k o ho (hk.imp (hL k) id)⟩

/-- the j-th operand -/
def opd (x : InsD) (j : Nat) : Int := if j = 0 then x.a else if j = 1 then x.b else x.c
/-- where the j-th operand leads -/
def joC (x : InsD) (j : Nat) : List Nat := if sgn x.op j = 106 then [(opd x j).toNat] else []
def jkC (x : InsD) (k : Nat) : List Nat := (List.range k).flatMap (joC x)
theorem jkC_succ (x : InsD) (k : Nat) : jkC x (k + 1) = jkC x k ++ joC x k := by simp [jkC, List.range_succ, List.flatMap_append]
/-- the next instruction, if the code goes on there -/
def flC (c : CodeD) (at_ : Nat) (x : InsD) : List Nat := if fallsM x.op && decide (at_ + 1 < c.ins.length) then [at_ + 1] else []
def wlC (c : CodeD) (at_ : Nat) (x : InsD) : List Nat := flC c at_ x ++ jkC x 3
def goC (at_ : Nat) (g : GrdD) : List Nat := if g.f = (at_ : Int) then [g.g.toNat] else []
def glC (gs : List GrdD) (at_ : Nat) : List Nat := gs.flatMap (goC at_)
theorem glC_snoc (gs : List GrdD) (at_ k : Nat) (g : GrdD) (h : gs[k]? = some g) : glC (gs.take (k + 1)) at_ = glC (gs.take k) at_ ++ goC at_ g := by
  unfold glC
  rw [List.take_add_one, h, List.flatMap_append]
  simp

theorem int_one : ∃ i, Try.prog.info? 3 = some i ∧ i.size = 1 := by
  have h : (Try.prog.info? 3).map (fun i => i.size) = some 1 := by kernel_rfl
  obtain ⟨i, hi, hzz⟩ := Option.map_eq_some_iff.1 h
  exact ⟨i, hi, hzz⟩
theorem index3 (a b c : Int) (w : World) : (Instr.index 82 (.agg #[.int .i64 a, .int .i64 b, .int .i64 c]) (.int .i64 0)).run Try.prog w = .ok (.int .i64 a) w ∧ (Instr.index 82 (.agg #[.int .i64 a, .int .i64 b, .int .i64 c]) (.int .i64 1)).run Try.prog w = .ok (.int .i64 b) w ∧
    (Instr.index 82 (.agg #[.int .i64 a, .int .i64 b, .int .i64 c]) (.int .i64 2)).run Try.prog w = .ok (.int .i64 c) w := by
  obtain ⟨i, h2, h1⟩ := int_one
  and_intros <;> simp [Instr.index, run_underlying Try.underlying82, asIntOf, sizeOf, typeInfo, part, h2, h1]
section
variable {σ : Type}
/-- what the walk knows between two calls -/
structure WyI (St : σ → World → Prop) (K : Nat → Prop) (w0 w : World) (s : σ) (co io : Obj) (X : World) : Prop where
  st : St s X
  lo : Below w0.heap.size w0 X
  kp : Kp K w X
  co : X.heap[w.heap.size]? = some co
  io : X.heap[w.heap.size + 1]? = some io
theorem WyI.call {St : σ → World → Prop} {K : Nat → Prop} {w0 w : World} {s t : σ} {co io : Obj} {X Y Z : World} (h : WyI St K w0 w s co io X) (hXY : Below X.heap.size X Y) (hs : St t Z) (hk : Kp K Y Z) (hK : ∀ k, k < w0.heap.size → K k) (h1 : tg co = true) (h2 : tg io = true) : WyI St K w0 w t co io Z := by
  have k1 : Kp K X Z := (Kp.of_below hXY).trans hk
  exact ⟨hs, h.lo.trans (k1.below h.lo.size hK), h.kp.trans k1, k1.blk _ _ h.co (.inr h1), k1.blk _ _ h.io (.inr h2)⟩
theorem WyI.start {St : σ → World → Prop} {K : Nat → Prop} {w0 w : World} {s : σ} {co io : Obj} (hS : St s w) (hW : Below w0.heap.size w0 w) (hB : ∀ s W W', St s W → Below W.heap.size W W' → St s W') : WyI St K w0 w s co io ((w.alloc co).alloc io) := by
  have hb : Below w.heap.size w ((w.alloc co).alloc io) := bl_al (bl_al (Below.refl _ _) _) _
  exact ⟨hB _ _ _ hS hb, bl_tr hW hb, Kp.of_below hb, (heap_alloc_old _ _ (by simp)).trans (heap_alloc_new _ _), by have := heap_alloc_new (w.alloc co) io; simpa using this⟩
theorem WyI.grow {St : σ → World → Prop} {K : Nat → Prop} {w0 w : World} {s : σ} {co io : Obj} {X Y : World} (h : WyI St K w0 w s co io X) (hXY : Below X.heap.size X Y) (hB : ∀ s W W', St s W → Below W.heap.size W W' → St s W') : WyI St K w0 w s co io Y :=
  ⟨hB _ _ _ h.st hXY, bl_tr h.lo hXY, h.kp.trans (Kp.of_below hXY), (hXY.block _ (Array.getElem?_eq_some_iff.1 h.co).1).trans h.co, (hXY.block _ (Array.getElem?_eq_some_iff.1 h.io).1).trans h.io⟩

set_option maxRecDepth 100000 in
set_option maxHeartbeats 8000000 in
theorem ways_any (c : CodeD) (i p k g : Value) (w0 : World) (h : Cd4 w0 i p k g c) (at_ : Nat) (x : InsD) (hx : c.ins[at_]? = some x) (hop : 0 ≤ x.op ∧ x.op < 55) (hj : ∀ j, sgn x.op j = 106 → 0 ≤ opd x j) (hg : ∀ y ∈ c.gs, 0 ≤ y.g)
    (f : σ → Nat → σ) (St : σ → World → Prop) (K : Nat → Prop) (hK : ∀ k, k < w0.heap.size → K k) (hB : ∀ s W W', St s W → Below W.heap.size W W' → St s W')
    (F : FuncId) (cap : Array Value) (eg : ∀ args W, (callFunc F args).run Try.prog W = .ok (.enter F args) W)
    (hF : ∀ (s : σ) (t : Nat) (W : World), t ∈ wlC c at_ x ++ glC c.gs at_ → St s W → Calls Try.prog F (#[.int .i64 (t : Int)] ++ cap) W fun e W' => e = .returned (.tuple #[]) ∧ St (f s t) W' ∧ Kp K W W')
    (s : σ) (w : World) (hS : St s w) (hW : Below w0.heap.size w0 w) :
    Calls Try.prog 20 #[codeV c.nm c.kd c.ln c.rg i p k g, .int .i64 (at_ : Int), .func (.func F) #[] cap] w fun e W' => e = .returned (.tuple #[]) ∧ St ((wlC c at_ x ++ glC c.gs at_).foldl f s) W' ∧ Kp K w W' := by
  obtain ⟨A1, c1, A2, c2, A3, c3, A4, c4, rfl, rfl, rfl, rfl⟩ := h.forms
  have hlt := (List.getElem?_eq_some_iff.1 hx).1
  obtain ⟨_, _, _, _, hm⟩ := h.i.form
  obtain ⟨_, _, _, _, hm4⟩ := h.g.form
  obtain ⟨b, off, cap', e1, lb, h0, h1, h2, h3⟩ := at_In (h.i.below hW) hx
  simp only [Value.slice.injEq] at e1
  obtain ⟨rfl, _, rfl⟩ := e1
  obtain ⟨b0, b1, b2, hp, s0, s1, s2, -⟩ := part_three x.op hop
  have PT := Lib.hid (parts_any x.op)
  rw [hp] at PT
  have FL := Lib.hid (falls_any x.op)
  have q0 : (at_ : Int) < (c.ins.length : Int) := by omega
  have q1 : ¬ (at_ : Int) < 0 := by omega
  obtain ⟨t, ht, et⟩ : ∃ t : Nat, t = at_ + 1 ∧ wrap64 ((at_ : Int) + 1) = (t : Int) := ⟨at_ + 1, rfl, w64c rfl (by unfold maxLen at hm; omega)⟩
  have TT := Lib.hid ht
  have HW := Lib.hid hW
  have HX := Lib.hid hx
  have HF := Lib.hid hF
  have HB := Lib.hid hB
  have HK := Lib.hid hK
  have HJ := Lib.hid hj
  have HG := Lib.hid hg
  have HS := Lib.hid hS
  have HC := Lib.hid h
  have HM := Lib.hid hm4
  have LT := Lib.hid hlt
  have BB := Lib.hid (And.intro s0 (And.intro s1 s2))
  clear hW hF hB hK hj hg hS h hp hop hm hm4 hlt s0 s1 s2 hx
  obtain ⟨s1, hs1⟩ : ∃ s1, s1 = (flC c at_ x).foldl f s := ⟨_, rfl⟩
  have S1 := Lib.hid hs1
  cases hfl : fallsM x.op
  · rw [hfl] at FL
    have E1 := Lib.hid (show s1 = s by rw [S1.out]; unfold flC; rw [hfl]; rfl)
    clear hs1 hfl ht
    go_enter Try.func20, Try.ntmps20
    go_upto_region 2 with fail
    refine wpc_world (WyI St K w0 w s (codeO c.nm c.kd c.ln c.rg (.slice (some ⟨b, off, none⟩) c.ins.length c1) (.slice A2 c.pl.length c2) (.slice A3 c.ks.length c3) (.slice A4 c.gs.length c4)) (InO x)) (WyI.start HS.out HW.out HB.out) ?_
    clear h0 h1 h2 h3
    intro X hX
    have WX := Lib.hid hX
    obtain ⟨⟨a0, a1, a2, a3, a4, a5, a6, a7⟩, -⟩ := cells8 hX.co
    obtain ⟨⟨f0, f1, f2, f3⟩, -⟩ := cells_In hX.io
    have l0 := (Array.getElem?_eq_some_iff.1 hX.co).1
    have l1 := (Array.getElem?_eq_some_iff.1 hX.io).1
    clear hX
    go_upto_region 4 with (go_at_call 19; refine (FL.out _).mono ?_; rintro e w' ⟨rfl, rfl⟩)
    refine wpc_world (WyI St K w0 w s1 (codeO c.nm c.kd c.ln c.rg (.slice (some ⟨b, off, none⟩) c.ins.length c1) (.slice A2 c.pl.length c2) (.slice A3 c.ks.length c3) (.slice A4 c.gs.length c4)) (InO x)) (by rw [E1.out]; exact WX.out) ?_
    clear a0 a1 a2 a3 a4 a5 a6 a7 f0 f1 f2 f3 l0 l1 WX X
    intro X hX
    have WX := Lib.hid hX
    obtain ⟨⟨a0, a1, a2, a3, a4, a5, a6, a7⟩, -⟩ := cells8 hX.co
    obtain ⟨⟨f0, f1, f2, f3⟩, -⟩ := cells_In hX.io
    have l0 := (Array.getElem?_eq_some_iff.1 hX.co).1
    have l1 := (Array.getElem?_eq_some_iff.1 hX.io).1
    clear hX
    have ix0 := fun W => (index3 x.a x.b x.c W).1
    have ix1 := fun W => (index3 x.a x.b x.c W).2.1
    have ix2 := fun W => (index3 x.a x.b x.c W).2.2
    go_wp2_with (go_at_call 46; refine (callGr (PT.out _)).mono ?_; rintro e w' ⟨pp, rfl, rfl⟩)
    go_loopw [42] (fun i X => ∃ q : Nat, q ≤ 3 ∧ i = .int .i64 q ∧ WyI St K w0 w ((jkC x q).foldl f s1) (codeO c.nm c.kd c.ln c.rg (.slice (some ⟨b, off, none⟩) c.ins.length c1) (.slice A2 c.pl.length c2) (.slice A3 c.ks.length c3) (.slice A4 c.gs.length c4)) (InO x) X) (fun i _ => 3 - (intOf i).toNat)
    case atStart => exact ⟨0, by omega, rfl, WX.out.grow (by (repeat (with_reducible first | exact Below.refl _ _ | (refine bl_set ?_ (by first | omega | (simp; done) | (simp; omega)) _) | refine bl_gr ?_ _ | refine bl_al ?_ _ | refine below_setRow ?_ (by first | omega | (simp; done) | (simp; omega)) _ | refine bl_drewN ?_ _ | refine Below.drew ?_ | (refine bl_tr ?_ (by assumption))))) HB.out⟩
    case round =>
      clear a0 a1 a2 a3 a4 a5 a6 a7 f0 f1 f2 f3 l0 l1 WX
      obtain ⟨q, hq, hi, hX⟩ := hrel
      have WX := Lib.hid hX
      clear hX
      rcases (by omega : q = 0 ∨ q = 1 ∨ q = 2 ∨ q = 3) with rfl | rfl | rfl | rfl
      · have hi : _ = Value.int .i64 0 := hi
        subst hi
        cases hb : ((((⟨#[b0, b1, b2]⟩ : ByteArray)[0]'(show 0 < 3 by decide)).toNat : Int) == 106)
        · have NX := Lib.hid (show (jkC x 1).foldl f s1 = (jkC x 0).foldl f s1 by rw [jkC_succ, List.foldl_append]; unfold joC; rw [BB.out.1, if_neg (by have : ((b0.toNat : Int) == 106) = false := hb; simp at this; omega)]; rfl)
          go_wp2
          go_roundw
          case rel => exact ⟨1, by omega, rfl, by rw [NX.out]; exact WX.out⟩
          case measure => simp [intOf]
        · have h6 : sgn x.op 0 = 106 := by rw [BB.out.1]; have : ((b0.toNat : Int) == 106) = true := hb; simp at this; omega
          have hn := HJ.out 0 h6
          have JE := Lib.hid (show joC x 0 = [x.a.toNat] by unfold joC; rw [if_pos h6]; rfl)
          have NX := Lib.hid (show (jkC x 1).foldl f s1 = f ((jkC x 0).foldl f s1) x.a.toNat by rw [jkC_succ, List.foldl_append, JE.out]; rfl)
          have CF : ∀ W, St ((jkC x 0).foldl f s1) W → Calls Try.prog F (#[.int .i64 x.a] ++ cap) W fun e W' => e = .returned (.tuple #[]) ∧ St (f ((jkC x 0).foldl f s1) x.a.toNat) W' ∧ Kp K W W' := fun W hS => by
            have := HF.out ((jkC x 0).foldl f s1) x.a.toNat W (by unfold wlC; rw [show jkC x 3 = joC x 0 ++ (joC x 1 ++ (joC x 2 ++ [])) from rfl]; simp [JE.out]) hS
            rw [show ((x.a.toNat : Nat) : Int) = x.a from Int.toNat_of_nonneg hn] at this
            exact this
          have CF := Lib.hid CF
          clear h6 hn
          go_wp2_with (go_at_fn F; refine (CF.out _ WX.out.st).mono ?_; rintro e W3 ⟨rfl, hs, hk⟩; have WY := Lib.hid (WX.out.call (Below.refl _ _) hs hk HK.out (by rfl) (by rfl)); clear hs hk)
          go_roundw
          case rel => exact ⟨1, by omega, rfl, by rw [NX.out]; exact WY.out⟩
          case measure => simp [intOf]
      · have hi : _ = Value.int .i64 1 := hi
        subst hi
        cases hb : ((((⟨#[b0, b1, b2]⟩ : ByteArray)[1]'(show 1 < 3 by decide)).toNat : Int) == 106)
        · have NX := Lib.hid (show (jkC x 2).foldl f s1 = (jkC x 1).foldl f s1 by rw [jkC_succ, List.foldl_append]; unfold joC; rw [BB.out.2.1, if_neg (by have : ((b1.toNat : Int) == 106) = false := hb; simp at this; omega)]; rfl)
          go_wp2
          go_roundw
          case rel => exact ⟨2, by omega, rfl, by rw [NX.out]; exact WX.out⟩
          case measure => simp [intOf]
        · have h6 : sgn x.op 1 = 106 := by rw [BB.out.2.1]; have : ((b1.toNat : Int) == 106) = true := hb; simp at this; omega
          have hn := HJ.out 1 h6
          have JE := Lib.hid (show joC x 1 = [x.b.toNat] by unfold joC; rw [if_pos h6]; rfl)
          have NX := Lib.hid (show (jkC x 2).foldl f s1 = f ((jkC x 1).foldl f s1) x.b.toNat by rw [jkC_succ, List.foldl_append, JE.out]; rfl)
          have CF : ∀ W, St ((jkC x 1).foldl f s1) W → Calls Try.prog F (#[.int .i64 x.b] ++ cap) W fun e W' => e = .returned (.tuple #[]) ∧ St (f ((jkC x 1).foldl f s1) x.b.toNat) W' ∧ Kp K W W' := fun W hS => by
            have := HF.out ((jkC x 1).foldl f s1) x.b.toNat W (by unfold wlC; rw [show jkC x 3 = joC x 0 ++ (joC x 1 ++ (joC x 2 ++ [])) from rfl]; simp [JE.out]) hS
            rw [show ((x.b.toNat : Nat) : Int) = x.b from Int.toNat_of_nonneg hn] at this
            exact this
          have CF := Lib.hid CF
          clear h6 hn
          go_wp2_with (go_at_fn F; refine (CF.out _ WX.out.st).mono ?_; rintro e W3 ⟨rfl, hs, hk⟩; have WY := Lib.hid (WX.out.call (Below.refl _ _) hs hk HK.out (by rfl) (by rfl)); clear hs hk)
          go_roundw
          case rel => exact ⟨2, by omega, rfl, by rw [NX.out]; exact WY.out⟩
          case measure => simp [intOf]
      · have hi : _ = Value.int .i64 2 := hi
        subst hi
        cases hb : ((((⟨#[b0, b1, b2]⟩ : ByteArray)[2]'(show 2 < 3 by decide)).toNat : Int) == 106)
        · have NX := Lib.hid (show (jkC x 3).foldl f s1 = (jkC x 2).foldl f s1 by rw [jkC_succ, List.foldl_append]; unfold joC; rw [BB.out.2.2, if_neg (by have : ((b2.toNat : Int) == 106) = false := hb; simp at this; omega)]; rfl)
          go_wp2
          go_roundw
          case rel => exact ⟨3, by omega, rfl, by rw [NX.out]; exact WX.out⟩
          case measure => simp [intOf]
        · have h6 : sgn x.op 2 = 106 := by rw [BB.out.2.2]; have : ((b2.toNat : Int) == 106) = true := hb; simp at this; omega
          have hn := HJ.out 2 h6
          have JE := Lib.hid (show joC x 2 = [x.c.toNat] by unfold joC; rw [if_pos h6]; rfl)
          have NX := Lib.hid (show (jkC x 3).foldl f s1 = f ((jkC x 2).foldl f s1) x.c.toNat by rw [jkC_succ, List.foldl_append, JE.out]; rfl)
          have CF : ∀ W, St ((jkC x 2).foldl f s1) W → Calls Try.prog F (#[.int .i64 x.c] ++ cap) W fun e W' => e = .returned (.tuple #[]) ∧ St (f ((jkC x 2).foldl f s1) x.c.toNat) W' ∧ Kp K W W' := fun W hS => by
            have := HF.out ((jkC x 2).foldl f s1) x.c.toNat W (by unfold wlC; rw [show jkC x 3 = joC x 0 ++ (joC x 1 ++ (joC x 2 ++ [])) from rfl]; simp [JE.out]) hS
            rw [show ((x.c.toNat : Nat) : Int) = x.c from Int.toNat_of_nonneg hn] at this
            exact this
          have CF := Lib.hid CF
          clear h6 hn
          go_wp2_with (go_at_fn F; refine (CF.out _ WX.out.st).mono ?_; rintro e W3 ⟨rfl, hs, hk⟩; have WY := Lib.hid (WX.out.call (Below.refl _ _) hs hk HK.out (by rfl) (by rfl)); clear hs hk)
          go_roundw
          case rel => exact ⟨3, by omega, rfl, by rw [NX.out]; exact WY.out⟩
          case measure => simp [intOf]
      · have hi : _ = Value.int .i64 3 := hi
        subst hi
        obtain ⟨⟨a0, a1, a2, a3, a4, a5, a6, a7⟩, -⟩ := cells8 WX.out.co
        have l0 := (Array.getElem?_eq_some_iff.1 WX.out.co).1
        clear hq
        obtain ⟨s2, hs2⟩ : ∃ s2, s2 = (jkC x 3).foldl f s1 := ⟨_, rfl⟩
        rw [← hs2] at WX
        have S2 := Lib.hid hs2
        clear hs2
        go_wp2
        go_loopw [57] (fun i X => ∃ q : Nat, i = .int .i64 q ∧ Hid (q ≤ c.gs.length) ∧ WyI St K w0 w ((glC (c.gs.take q) at_).foldl f s2) (codeO c.nm c.kd c.ln c.rg (.slice (some ⟨b, off, none⟩) c.ins.length c1) (.slice A2 c.pl.length c2) (.slice A3 c.ks.length c3) (.slice A4 c.gs.length c4)) (InO x) X) (fun i _ => c.gs.length - (intOf i).toNat)
        case atStart => exact ⟨0, rfl, Lib.hid (Nat.zero_le _), WX.out⟩
        case round =>
          clear a0 a1 a2 a3 a4 a5 a6 a7 l0 WX
          obtain ⟨q, rfl, HQ, hX⟩ := hrel
          have WX := Lib.hid hX
          clear hX
          by_cases hlt : q < c.gs.length
          · have q2 : (q : Int) < (c.gs.length : Int) := by omega
            have q3 : ¬ (q : Int) < 0 := by omega
            obtain ⟨y, hy⟩ : ∃ y, c.gs[q]? = some y := ⟨_, List.getElem?_eq_getElem hlt⟩
            obtain ⟨b', off', cap', e1, lb', z0, z1, z2, z3⟩ := at_Gd (HC.out.g.below WX.out.lo) hy
            simp only [Value.slice.injEq] at e1
            obtain ⟨rfl, _, rfl⟩ := e1
            have HY := Lib.hid hy
            obtain ⟨kp, hkp, ek1⟩ : ∃ kp : Nat, kp = q + 1 ∧ wrap64 ((q : Int) + 1) = (kp : Int) := ⟨q + 1, rfl, w64c rfl (by have := HM.out; unfold maxLen at this; omega)⟩
            have KP := Lib.hid hkp
            have LQ := Lib.hid hlt
            clear hkp hlt hy
            cases hb : (y.f == (at_ : Int))
            · have NX := Lib.hid (show (glC (c.gs.take (q + 1)) at_).foldl f s2 = (glC (c.gs.take q) at_).foldl f s2 by rw [glC_snoc _ _ _ _ HY.out, List.foldl_append]; unfold goC; rw [if_neg (by simpa using hb)]; rfl)
              go_wp2
              go_roundw
              case rel => exact ⟨kp, by first | with_reducible rfl | rw [ek1], Lib.hid (by rw [KP.out]; exact LQ.out), by rw [KP.out, NX.out]; exact WX.out.grow (by (repeat (with_reducible first | exact Below.refl _ _ | (refine bl_set ?_ (by first | omega | (simp; done) | (simp; omega)) _) | refine bl_gr ?_ _ | refine bl_al ?_ _ | refine below_setRow ?_ (by first | omega | (simp; done) | (simp; omega)) _ | refine bl_drewN ?_ _ | refine Below.drew ?_ | (refine bl_tr ?_ (by assumption))))) HB.out⟩
              case measure => ((try rw [ek1]); exact meas_c KP.out LQ.out)
            · have hn := HG.out y (List.mem_of_getElem? HY.out)
              have JE := Lib.hid (show goC at_ y = [y.g.toNat] by unfold goC; rw [if_pos (by simpa using hb)])
              have NX := Lib.hid (show (glC (c.gs.take (q + 1)) at_).foldl f s2 = f ((glC (c.gs.take q) at_).foldl f s2) y.g.toNat by rw [glC_snoc _ _ _ _ HY.out, List.foldl_append, JE.out]; rfl)
              have CF : ∀ W, St ((glC (c.gs.take q) at_).foldl f s2) W → Calls Try.prog F (#[.int .i64 y.g] ++ cap) W fun e W' => e = .returned (.tuple #[]) ∧ St (f ((glC (c.gs.take q) at_).foldl f s2) y.g.toNat) W' ∧ Kp K W W' := fun W hS => by
                have := HF.out ((glC (c.gs.take q) at_).foldl f s2) y.g.toNat W (List.mem_append_right _ (List.mem_flatMap.2 ⟨y, List.mem_of_getElem? HY.out, by rw [JE.out]; simp⟩)) hS
                rw [Int.toNat_of_nonneg hn] at this
                exact this
              have CF := Lib.hid CF
              clear hn
              go_wp2_with (go_at_fn F; refine (CF.out _ (WX.out.grow (by (repeat (with_reducible first | exact Below.refl _ _ | (refine bl_set ?_ (by first | omega | (simp; done) | (simp; omega)) _) | refine bl_gr ?_ _ | refine bl_al ?_ _ | refine below_setRow ?_ (by first | omega | (simp; done) | (simp; omega)) _ | refine bl_drewN ?_ _ | refine Below.drew ?_ | (refine bl_tr ?_ (by assumption))))) HB.out).st).mono ?_; rintro e W3 ⟨rfl, hs, hk⟩; have WY := Lib.hid (WX.out.call (by (repeat (with_reducible first | exact Below.refl _ _ | (refine bl_set ?_ (by first | omega | (simp; done) | (simp; omega)) _) | refine bl_gr ?_ _ | refine bl_al ?_ _ | refine below_setRow ?_ (by first | omega | (simp; done) | (simp; omega)) _ | refine bl_drewN ?_ _ | refine Below.drew ?_ | (refine bl_tr ?_ (by assumption))))) hs hk HK.out (by rfl) (by rfl)); clear hs hk)
              go_roundw
              case rel => exact ⟨kp, by first | with_reducible rfl | rw [ek1], Lib.hid (by rw [KP.out]; exact LQ.out), by rw [KP.out, NX.out]; exact WY.out⟩
              case measure => ((try rw [ek1]); exact meas_c KP.out LQ.out)
          · have q2 : ¬ (q : Int) < (c.gs.length : Int) := by omega
            have RS := Lib.hid (show (glC c.gs at_).foldl f ((wlC c at_ x).foldl f s) = (glC (c.gs.take q) at_).foldl f s2 by rw [List.take_of_length_le (by omega), S2.out, S1.out]; unfold wlC; rw [List.foldl_append])
            clear hlt
            go_wp2
            go_end0
            exact ⟨rfl, by rw [RS.out]; exact WX.out.st, WX.out.kp⟩
  · rw [hfl] at FL
    by_cases hl : (t : Int) < (c.ins.length : Int)
    · have E1 := Lib.hid (show s1 = f s t by rw [S1.out]; unfold flC; rw [hfl, decide_eq_true (by omega), ht]; rfl)
      have MEM := Lib.hid (show t ∈ wlC c at_ x ++ glC c.gs at_ by unfold wlC flC; rw [hfl, decide_eq_true (by omega), ht]; simp)
      clear hs1 hfl ht
      go_enter Try.func20, Try.ntmps20
      go_upto_region 2 with fail
      refine wpc_world (WyI St K w0 w s (codeO c.nm c.kd c.ln c.rg (.slice (some ⟨b, off, none⟩) c.ins.length c1) (.slice A2 c.pl.length c2) (.slice A3 c.ks.length c3) (.slice A4 c.gs.length c4)) (InO x)) (WyI.start HS.out HW.out HB.out) ?_
      clear h0 h1 h2 h3
      intro X hX
      have WX := Lib.hid hX
      obtain ⟨⟨a0, a1, a2, a3, a4, a5, a6, a7⟩, -⟩ := cells8 hX.co
      obtain ⟨⟨f0, f1, f2, f3⟩, -⟩ := cells_In hX.io
      have l0 := (Array.getElem?_eq_some_iff.1 hX.co).1
      have l1 := (Array.getElem?_eq_some_iff.1 hX.io).1
      clear hX
      go_upto_region 4 with (first | (go_at_call 19; refine (FL.out _).mono ?_; rintro e w' ⟨rfl, rfl⟩) | (go_at_fn F; refine (HF.out _ t _ MEM.out WX.out.st).mono ?_; rintro e W3 ⟨rfl, hs, hk⟩; have WY := Lib.hid (WX.out.call (Below.refl _ _) hs hk HK.out (by rfl) (by rfl)); clear hs hk))
      refine wpc_world (WyI St K w0 w s1 (codeO c.nm c.kd c.ln c.rg (.slice (some ⟨b, off, none⟩) c.ins.length c1) (.slice A2 c.pl.length c2) (.slice A3 c.ks.length c3) (.slice A4 c.gs.length c4)) (InO x)) (by rw [E1.out]; exact WY.out) ?_
      clear a0 a1 a2 a3 a4 a5 a6 a7 f0 f1 f2 f3 l0 l1 WX WY X W3
      intro X hX
      have WX := Lib.hid hX
      obtain ⟨⟨a0, a1, a2, a3, a4, a5, a6, a7⟩, -⟩ := cells8 hX.co
      obtain ⟨⟨f0, f1, f2, f3⟩, -⟩ := cells_In hX.io
      have l0 := (Array.getElem?_eq_some_iff.1 hX.co).1
      have l1 := (Array.getElem?_eq_some_iff.1 hX.io).1
      clear hX
      have ix0 := fun W => (index3 x.a x.b x.c W).1
      have ix1 := fun W => (index3 x.a x.b x.c W).2.1
      have ix2 := fun W => (index3 x.a x.b x.c W).2.2
      go_wp2_with (go_at_call 46; refine (callGr (PT.out _)).mono ?_; rintro e w' ⟨pp, rfl, rfl⟩)
      go_loopw [42] (fun i X => ∃ q : Nat, q ≤ 3 ∧ i = .int .i64 q ∧ WyI St K w0 w ((jkC x q).foldl f s1) (codeO c.nm c.kd c.ln c.rg (.slice (some ⟨b, off, none⟩) c.ins.length c1) (.slice A2 c.pl.length c2) (.slice A3 c.ks.length c3) (.slice A4 c.gs.length c4)) (InO x) X) (fun i _ => 3 - (intOf i).toNat)
      case atStart => exact ⟨0, by omega, rfl, WX.out.grow (by (repeat (with_reducible first | exact Below.refl _ _ | (refine bl_set ?_ (by first | omega | (simp; done) | (simp; omega)) _) | refine bl_gr ?_ _ | refine bl_al ?_ _ | refine below_setRow ?_ (by first | omega | (simp; done) | (simp; omega)) _ | refine bl_drewN ?_ _ | refine Below.drew ?_ | (refine bl_tr ?_ (by assumption))))) HB.out⟩
      case round =>
        clear a0 a1 a2 a3 a4 a5 a6 a7 f0 f1 f2 f3 l0 l1 WX
        obtain ⟨q, hq, hi, hX⟩ := hrel
        have WX := Lib.hid hX
        clear hX
        rcases (by omega : q = 0 ∨ q = 1 ∨ q = 2 ∨ q = 3) with rfl | rfl | rfl | rfl
        · have hi : _ = Value.int .i64 0 := hi
          subst hi
          cases hb : ((((⟨#[b0, b1, b2]⟩ : ByteArray)[0]'(show 0 < 3 by decide)).toNat : Int) == 106)
          · have NX := Lib.hid (show (jkC x 1).foldl f s1 = (jkC x 0).foldl f s1 by rw [jkC_succ, List.foldl_append]; unfold joC; rw [BB.out.1, if_neg (by have : ((b0.toNat : Int) == 106) = false := hb; simp at this; omega)]; rfl)
            go_wp2
            go_roundw
            case rel => exact ⟨1, by omega, rfl, by rw [NX.out]; exact WX.out⟩
            case measure => simp [intOf]
          · have h6 : sgn x.op 0 = 106 := by rw [BB.out.1]; have : ((b0.toNat : Int) == 106) = true := hb; simp at this; omega
            have hn := HJ.out 0 h6
            have JE := Lib.hid (show joC x 0 = [x.a.toNat] by unfold joC; rw [if_pos h6]; rfl)
            have NX := Lib.hid (show (jkC x 1).foldl f s1 = f ((jkC x 0).foldl f s1) x.a.toNat by rw [jkC_succ, List.foldl_append, JE.out]; rfl)
            have CF : ∀ W, St ((jkC x 0).foldl f s1) W → Calls Try.prog F (#[.int .i64 x.a] ++ cap) W fun e W' => e = .returned (.tuple #[]) ∧ St (f ((jkC x 0).foldl f s1) x.a.toNat) W' ∧ Kp K W W' := fun W hS => by
              have := HF.out ((jkC x 0).foldl f s1) x.a.toNat W (by unfold wlC; rw [show jkC x 3 = joC x 0 ++ (joC x 1 ++ (joC x 2 ++ [])) from rfl]; simp [JE.out]) hS
              rw [show ((x.a.toNat : Nat) : Int) = x.a from Int.toNat_of_nonneg hn] at this
              exact this
            have CF := Lib.hid CF
            clear h6 hn
            go_wp2_with (go_at_fn F; refine (CF.out _ WX.out.st).mono ?_; rintro e W3 ⟨rfl, hs, hk⟩; have WY := Lib.hid (WX.out.call (Below.refl _ _) hs hk HK.out (by rfl) (by rfl)); clear hs hk)
            go_roundw
            case rel => exact ⟨1, by omega, rfl, by rw [NX.out]; exact WY.out⟩
            case measure => simp [intOf]
        · have hi : _ = Value.int .i64 1 := hi
          subst hi
          cases hb : ((((⟨#[b0, b1, b2]⟩ : ByteArray)[1]'(show 1 < 3 by decide)).toNat : Int) == 106)
          · have NX := Lib.hid (show (jkC x 2).foldl f s1 = (jkC x 1).foldl f s1 by rw [jkC_succ, List.foldl_append]; unfold joC; rw [BB.out.2.1, if_neg (by have : ((b1.toNat : Int) == 106) = false := hb; simp at this; omega)]; rfl)
            go_wp2
            go_roundw
            case rel => exact ⟨2, by omega, rfl, by rw [NX.out]; exact WX.out⟩
            case measure => simp [intOf]
          · have h6 : sgn x.op 1 = 106 := by rw [BB.out.2.1]; have : ((b1.toNat : Int) == 106) = true := hb; simp at this; omega
            have hn := HJ.out 1 h6
            have JE := Lib.hid (show joC x 1 = [x.b.toNat] by unfold joC; rw [if_pos h6]; rfl)
            have NX := Lib.hid (show (jkC x 2).foldl f s1 = f ((jkC x 1).foldl f s1) x.b.toNat by rw [jkC_succ, List.foldl_append, JE.out]; rfl)
            have CF : ∀ W, St ((jkC x 1).foldl f s1) W → Calls Try.prog F (#[.int .i64 x.b] ++ cap) W fun e W' => e = .returned (.tuple #[]) ∧ St (f ((jkC x 1).foldl f s1) x.b.toNat) W' ∧ Kp K W W' := fun W hS => by
              have := HF.out ((jkC x 1).foldl f s1) x.b.toNat W (by unfold wlC; rw [show jkC x 3 = joC x 0 ++ (joC x 1 ++ (joC x 2 ++ [])) from rfl]; simp [JE.out]) hS
              rw [show ((x.b.toNat : Nat) : Int) = x.b from Int.toNat_of_nonneg hn] at this
              exact this
            have CF := Lib.hid CF
            clear h6 hn
            go_wp2_with (go_at_fn F; refine (CF.out _ WX.out.st).mono ?_; rintro e W3 ⟨rfl, hs, hk⟩; have WY := Lib.hid (WX.out.call (Below.refl _ _) hs hk HK.out (by rfl) (by rfl)); clear hs hk)
            go_roundw
            case rel => exact ⟨2, by omega, rfl, by rw [NX.out]; exact WY.out⟩
            case measure => simp [intOf]
        · have hi : _ = Value.int .i64 2 := hi
          subst hi
          cases hb : ((((⟨#[b0, b1, b2]⟩ : ByteArray)[2]'(show 2 < 3 by decide)).toNat : Int) == 106)
          · have NX := Lib.hid (show (jkC x 3).foldl f s1 = (jkC x 2).foldl f s1 by rw [jkC_succ, List.foldl_append]; unfold joC; rw [BB.out.2.2, if_neg (by have : ((b2.toNat : Int) == 106) = false := hb; simp at this; omega)]; rfl)
            go_wp2
            go_roundw
            case rel => exact ⟨3, by omega, rfl, by rw [NX.out]; exact WX.out⟩
            case measure => simp [intOf]
          · have h6 : sgn x.op 2 = 106 := by rw [BB.out.2.2]; have : ((b2.toNat : Int) == 106) = true := hb; simp at this; omega
            have hn := HJ.out 2 h6
            have JE := Lib.hid (show joC x 2 = [x.c.toNat] by unfold joC; rw [if_pos h6]; rfl)
            have NX := Lib.hid (show (jkC x 3).foldl f s1 = f ((jkC x 2).foldl f s1) x.c.toNat by rw [jkC_succ, List.foldl_append, JE.out]; rfl)
            have CF : ∀ W, St ((jkC x 2).foldl f s1) W → Calls Try.prog F (#[.int .i64 x.c] ++ cap) W fun e W' => e = .returned (.tuple #[]) ∧ St (f ((jkC x 2).foldl f s1) x.c.toNat) W' ∧ Kp K W W' := fun W hS => by
              have := HF.out ((jkC x 2).foldl f s1) x.c.toNat W (by unfold wlC; rw [show jkC x 3 = joC x 0 ++ (joC x 1 ++ (joC x 2 ++ [])) from rfl]; simp [JE.out]) hS
              rw [show ((x.c.toNat : Nat) : Int) = x.c from Int.toNat_of_nonneg hn] at this
              exact this
            have CF := Lib.hid CF
            clear h6 hn
            go_wp2_with (go_at_fn F; refine (CF.out _ WX.out.st).mono ?_; rintro e W3 ⟨rfl, hs, hk⟩; have WY := Lib.hid (WX.out.call (Below.refl _ _) hs hk HK.out (by rfl) (by rfl)); clear hs hk)
            go_roundw
            case rel => exact ⟨3, by omega, rfl, by rw [NX.out]; exact WY.out⟩
            case measure => simp [intOf]
        · have hi : _ = Value.int .i64 3 := hi
          subst hi
          obtain ⟨⟨a0, a1, a2, a3, a4, a5, a6, a7⟩, -⟩ := cells8 WX.out.co
          have l0 := (Array.getElem?_eq_some_iff.1 WX.out.co).1
          clear hq
          obtain ⟨s2, hs2⟩ : ∃ s2, s2 = (jkC x 3).foldl f s1 := ⟨_, rfl⟩
          rw [← hs2] at WX
          have S2 := Lib.hid hs2
          clear hs2
          go_wp2
          go_loopw [57] (fun i X => ∃ q : Nat, i = .int .i64 q ∧ Hid (q ≤ c.gs.length) ∧ WyI St K w0 w ((glC (c.gs.take q) at_).foldl f s2) (codeO c.nm c.kd c.ln c.rg (.slice (some ⟨b, off, none⟩) c.ins.length c1) (.slice A2 c.pl.length c2) (.slice A3 c.ks.length c3) (.slice A4 c.gs.length c4)) (InO x) X) (fun i _ => c.gs.length - (intOf i).toNat)
          case atStart => exact ⟨0, rfl, Lib.hid (Nat.zero_le _), WX.out⟩
          case round =>
            clear a0 a1 a2 a3 a4 a5 a6 a7 l0 WX
            obtain ⟨q, rfl, HQ, hX⟩ := hrel
            have WX := Lib.hid hX
            clear hX
            by_cases hlt : q < c.gs.length
            · have q2 : (q : Int) < (c.gs.length : Int) := by omega
              have q3 : ¬ (q : Int) < 0 := by omega
              obtain ⟨y, hy⟩ : ∃ y, c.gs[q]? = some y := ⟨_, List.getElem?_eq_getElem hlt⟩
              obtain ⟨b', off', cap', e1, lb', z0, z1, z2, z3⟩ := at_Gd (HC.out.g.below WX.out.lo) hy
              simp only [Value.slice.injEq] at e1
              obtain ⟨rfl, _, rfl⟩ := e1
              have HY := Lib.hid hy
              obtain ⟨kp, hkp, ek1⟩ : ∃ kp : Nat, kp = q + 1 ∧ wrap64 ((q : Int) + 1) = (kp : Int) := ⟨q + 1, rfl, w64c rfl (by have := HM.out; unfold maxLen at this; omega)⟩
              have KP := Lib.hid hkp
              have LQ := Lib.hid hlt
              clear hkp hlt hy
              cases hb : (y.f == (at_ : Int))
              · have NX := Lib.hid (show (glC (c.gs.take (q + 1)) at_).foldl f s2 = (glC (c.gs.take q) at_).foldl f s2 by rw [glC_snoc _ _ _ _ HY.out, List.foldl_append]; unfold goC; rw [if_neg (by simpa using hb)]; rfl)
                go_wp2
                go_roundw
                case rel => exact ⟨kp, by first | with_reducible rfl | rw [ek1], Lib.hid (by rw [KP.out]; exact LQ.out), by rw [KP.out, NX.out]; exact WX.out.grow (by (repeat (with_reducible first | exact Below.refl _ _ | (refine bl_set ?_ (by first | omega | (simp; done) | (simp; omega)) _) | refine bl_gr ?_ _ | refine bl_al ?_ _ | refine below_setRow ?_ (by first | omega | (simp; done) | (simp; omega)) _ | refine bl_drewN ?_ _ | refine Below.drew ?_ | (refine bl_tr ?_ (by assumption))))) HB.out⟩
                case measure => ((try rw [ek1]); exact meas_c KP.out LQ.out)
              · have hn := HG.out y (List.mem_of_getElem? HY.out)
                have JE := Lib.hid (show goC at_ y = [y.g.toNat] by unfold goC; rw [if_pos (by simpa using hb)])
                have NX := Lib.hid (show (glC (c.gs.take (q + 1)) at_).foldl f s2 = f ((glC (c.gs.take q) at_).foldl f s2) y.g.toNat by rw [glC_snoc _ _ _ _ HY.out, List.foldl_append, JE.out]; rfl)
                have CF : ∀ W, St ((glC (c.gs.take q) at_).foldl f s2) W → Calls Try.prog F (#[.int .i64 y.g] ++ cap) W fun e W' => e = .returned (.tuple #[]) ∧ St (f ((glC (c.gs.take q) at_).foldl f s2) y.g.toNat) W' ∧ Kp K W W' := fun W hS => by
                  have := HF.out ((glC (c.gs.take q) at_).foldl f s2) y.g.toNat W (List.mem_append_right _ (List.mem_flatMap.2 ⟨y, List.mem_of_getElem? HY.out, by rw [JE.out]; simp⟩)) hS
                  rw [Int.toNat_of_nonneg hn] at this
                  exact this
                have CF := Lib.hid CF
                clear hn
                go_wp2_with (go_at_fn F; refine (CF.out _ (WX.out.grow (by (repeat (with_reducible first | exact Below.refl _ _ | (refine bl_set ?_ (by first | omega | (simp; done) | (simp; omega)) _) | refine bl_gr ?_ _ | refine bl_al ?_ _ | refine below_setRow ?_ (by first | omega | (simp; done) | (simp; omega)) _ | refine bl_drewN ?_ _ | refine Below.drew ?_ | (refine bl_tr ?_ (by assumption))))) HB.out).st).mono ?_; rintro e W3 ⟨rfl, hs, hk⟩; have WY := Lib.hid (WX.out.call (by (repeat (with_reducible first | exact Below.refl _ _ | (refine bl_set ?_ (by first | omega | (simp; done) | (simp; omega)) _) | refine bl_gr ?_ _ | refine bl_al ?_ _ | refine below_setRow ?_ (by first | omega | (simp; done) | (simp; omega)) _ | refine bl_drewN ?_ _ | refine Below.drew ?_ | (refine bl_tr ?_ (by assumption))))) hs hk HK.out (by rfl) (by rfl)); clear hs hk)
                go_roundw
                case rel => exact ⟨kp, by first | with_reducible rfl | rw [ek1], Lib.hid (by rw [KP.out]; exact LQ.out), by rw [KP.out, NX.out]; exact WY.out⟩
                case measure => ((try rw [ek1]); exact meas_c KP.out LQ.out)
            · have q2 : ¬ (q : Int) < (c.gs.length : Int) := by omega
              have RS := Lib.hid (show (glC c.gs at_).foldl f ((wlC c at_ x).foldl f s) = (glC (c.gs.take q) at_).foldl f s2 by rw [List.take_of_length_le (by omega), S2.out, S1.out]; unfold wlC; rw [List.foldl_append])
              clear hlt
              go_wp2
              go_end0
              exact ⟨rfl, by rw [RS.out]; exact WX.out.st, WX.out.kp⟩
    · have E1 := Lib.hid (show s1 = s by rw [S1.out]; unfold flC; rw [hfl, decide_eq_false (by omega)]; rfl)
      clear hs1 hfl ht
      go_enter Try.func20, Try.ntmps20
      go_upto_region 2 with fail
      refine wpc_world (WyI St K w0 w s (codeO c.nm c.kd c.ln c.rg (.slice (some ⟨b, off, none⟩) c.ins.length c1) (.slice A2 c.pl.length c2) (.slice A3 c.ks.length c3) (.slice A4 c.gs.length c4)) (InO x)) (WyI.start HS.out HW.out HB.out) ?_
      clear h0 h1 h2 h3
      intro X hX
      have WX := Lib.hid hX
      obtain ⟨⟨a0, a1, a2, a3, a4, a5, a6, a7⟩, -⟩ := cells8 hX.co
      obtain ⟨⟨f0, f1, f2, f3⟩, -⟩ := cells_In hX.io
      have l0 := (Array.getElem?_eq_some_iff.1 hX.co).1
      have l1 := (Array.getElem?_eq_some_iff.1 hX.io).1
      clear hX
      go_upto_region 4 with (go_at_call 19; refine (FL.out _).mono ?_; rintro e w' ⟨rfl, rfl⟩)
      refine wpc_world (WyI St K w0 w s1 (codeO c.nm c.kd c.ln c.rg (.slice (some ⟨b, off, none⟩) c.ins.length c1) (.slice A2 c.pl.length c2) (.slice A3 c.ks.length c3) (.slice A4 c.gs.length c4)) (InO x)) (by rw [E1.out]; exact WX.out) ?_
      clear a0 a1 a2 a3 a4 a5 a6 a7 f0 f1 f2 f3 l0 l1 WX X
      intro X hX
      have WX := Lib.hid hX
      obtain ⟨⟨a0, a1, a2, a3, a4, a5, a6, a7⟩, -⟩ := cells8 hX.co
      obtain ⟨⟨f0, f1, f2, f3⟩, -⟩ := cells_In hX.io
      have l0 := (Array.getElem?_eq_some_iff.1 hX.co).1
      have l1 := (Array.getElem?_eq_some_iff.1 hX.io).1
      clear hX
      have ix0 := fun W => (index3 x.a x.b x.c W).1
      have ix1 := fun W => (index3 x.a x.b x.c W).2.1
      have ix2 := fun W => (index3 x.a x.b x.c W).2.2
      go_wp2_with (go_at_call 46; refine (callGr (PT.out _)).mono ?_; rintro e w' ⟨pp, rfl, rfl⟩)
      go_loopw [42] (fun i X => ∃ q : Nat, q ≤ 3 ∧ i = .int .i64 q ∧ WyI St K w0 w ((jkC x q).foldl f s1) (codeO c.nm c.kd c.ln c.rg (.slice (some ⟨b, off, none⟩) c.ins.length c1) (.slice A2 c.pl.length c2) (.slice A3 c.ks.length c3) (.slice A4 c.gs.length c4)) (InO x) X) (fun i _ => 3 - (intOf i).toNat)
      case atStart => exact ⟨0, by omega, rfl, WX.out.grow (by (repeat (with_reducible first | exact Below.refl _ _ | (refine bl_set ?_ (by first | omega | (simp; done) | (simp; omega)) _) | refine bl_gr ?_ _ | refine bl_al ?_ _ | refine below_setRow ?_ (by first | omega | (simp; done) | (simp; omega)) _ | refine bl_drewN ?_ _ | refine Below.drew ?_ | (refine bl_tr ?_ (by assumption))))) HB.out⟩
      case round =>
        clear a0 a1 a2 a3 a4 a5 a6 a7 f0 f1 f2 f3 l0 l1 WX
        obtain ⟨q, hq, hi, hX⟩ := hrel
        have WX := Lib.hid hX
        clear hX
        rcases (by omega : q = 0 ∨ q = 1 ∨ q = 2 ∨ q = 3) with rfl | rfl | rfl | rfl
        · have hi : _ = Value.int .i64 0 := hi
          subst hi
          cases hb : ((((⟨#[b0, b1, b2]⟩ : ByteArray)[0]'(show 0 < 3 by decide)).toNat : Int) == 106)
          · have NX := Lib.hid (show (jkC x 1).foldl f s1 = (jkC x 0).foldl f s1 by rw [jkC_succ, List.foldl_append]; unfold joC; rw [BB.out.1, if_neg (by have : ((b0.toNat : Int) == 106) = false := hb; simp at this; omega)]; rfl)
            go_wp2
            go_roundw
            case rel => exact ⟨1, by omega, rfl, by rw [NX.out]; exact WX.out⟩
            case measure => simp [intOf]
          · have h6 : sgn x.op 0 = 106 := by rw [BB.out.1]; have : ((b0.toNat : Int) == 106) = true := hb; simp at this; omega
            have hn := HJ.out 0 h6
            have JE := Lib.hid (show joC x 0 = [x.a.toNat] by unfold joC; rw [if_pos h6]; rfl)
            have NX := Lib.hid (show (jkC x 1).foldl f s1 = f ((jkC x 0).foldl f s1) x.a.toNat by rw [jkC_succ, List.foldl_append, JE.out]; rfl)
            have CF : ∀ W, St ((jkC x 0).foldl f s1) W → Calls Try.prog F (#[.int .i64 x.a] ++ cap) W fun e W' => e = .returned (.tuple #[]) ∧ St (f ((jkC x 0).foldl f s1) x.a.toNat) W' ∧ Kp K W W' := fun W hS => by
              have := HF.out ((jkC x 0).foldl f s1) x.a.toNat W (by unfold wlC; rw [show jkC x 3 = joC x 0 ++ (joC x 1 ++ (joC x 2 ++ [])) from rfl]; simp [JE.out]) hS
              rw [show ((x.a.toNat : Nat) : Int) = x.a from Int.toNat_of_nonneg hn] at this
              exact this
            have CF := Lib.hid CF
            clear h6 hn
            go_wp2_with (go_at_fn F; refine (CF.out _ WX.out.st).mono ?_; rintro e W3 ⟨rfl, hs, hk⟩; have WY := Lib.hid (WX.out.call (Below.refl _ _) hs hk HK.out (by rfl) (by rfl)); clear hs hk)
            go_roundw
            case rel => exact ⟨1, by omega, rfl, by rw [NX.out]; exact WY.out⟩
            case measure => simp [intOf]
        · have hi : _ = Value.int .i64 1 := hi
          subst hi
          cases hb : ((((⟨#[b0, b1, b2]⟩ : ByteArray)[1]'(show 1 < 3 by decide)).toNat : Int) == 106)
          · have NX := Lib.hid (show (jkC x 2).foldl f s1 = (jkC x 1).foldl f s1 by rw [jkC_succ, List.foldl_append]; unfold joC; rw [BB.out.2.1, if_neg (by have : ((b1.toNat : Int) == 106) = false := hb; simp at this; omega)]; rfl)
            go_wp2
            go_roundw
            case rel => exact ⟨2, by omega, rfl, by rw [NX.out]; exact WX.out⟩
            case measure => simp [intOf]
          · have h6 : sgn x.op 1 = 106 := by rw [BB.out.2.1]; have : ((b1.toNat : Int) == 106) = true := hb; simp at this; omega
            have hn := HJ.out 1 h6
            have JE := Lib.hid (show joC x 1 = [x.b.toNat] by unfold joC; rw [if_pos h6]; rfl)
            have NX := Lib.hid (show (jkC x 2).foldl f s1 = f ((jkC x 1).foldl f s1) x.b.toNat by rw [jkC_succ, List.foldl_append, JE.out]; rfl)
            have CF : ∀ W, St ((jkC x 1).foldl f s1) W → Calls Try.prog F (#[.int .i64 x.b] ++ cap) W fun e W' => e = .returned (.tuple #[]) ∧ St (f ((jkC x 1).foldl f s1) x.b.toNat) W' ∧ Kp K W W' := fun W hS => by
              have := HF.out ((jkC x 1).foldl f s1) x.b.toNat W (by unfold wlC; rw [show jkC x 3 = joC x 0 ++ (joC x 1 ++ (joC x 2 ++ [])) from rfl]; simp [JE.out]) hS
              rw [show ((x.b.toNat : Nat) : Int) = x.b from Int.toNat_of_nonneg hn] at this
              exact this
            have CF := Lib.hid CF
            clear h6 hn
            go_wp2_with (go_at_fn F; refine (CF.out _ WX.out.st).mono ?_; rintro e W3 ⟨rfl, hs, hk⟩; have WY := Lib.hid (WX.out.call (Below.refl _ _) hs hk HK.out (by rfl) (by rfl)); clear hs hk)
            go_roundw
            case rel => exact ⟨2, by omega, rfl, by rw [NX.out]; exact WY.out⟩
            case measure => simp [intOf]
        · have hi : _ = Value.int .i64 2 := hi
          subst hi
          cases hb : ((((⟨#[b0, b1, b2]⟩ : ByteArray)[2]'(show 2 < 3 by decide)).toNat : Int) == 106)
          · have NX := Lib.hid (show (jkC x 3).foldl f s1 = (jkC x 2).foldl f s1 by rw [jkC_succ, List.foldl_append]; unfold joC; rw [BB.out.2.2, if_neg (by have : ((b2.toNat : Int) == 106) = false := hb; simp at this; omega)]; rfl)
            go_wp2
            go_roundw
            case rel => exact ⟨3, by omega, rfl, by rw [NX.out]; exact WX.out⟩
            case measure => simp [intOf]
          · have h6 : sgn x.op 2 = 106 := by rw [BB.out.2.2]; have : ((b2.toNat : Int) == 106) = true := hb; simp at this; omega
            have hn := HJ.out 2 h6
            have JE := Lib.hid (show joC x 2 = [x.c.toNat] by unfold joC; rw [if_pos h6]; rfl)
            have NX := Lib.hid (show (jkC x 3).foldl f s1 = f ((jkC x 2).foldl f s1) x.c.toNat by rw [jkC_succ, List.foldl_append, JE.out]; rfl)
            have CF : ∀ W, St ((jkC x 2).foldl f s1) W → Calls Try.prog F (#[.int .i64 x.c] ++ cap) W fun e W' => e = .returned (.tuple #[]) ∧ St (f ((jkC x 2).foldl f s1) x.c.toNat) W' ∧ Kp K W W' := fun W hS => by
              have := HF.out ((jkC x 2).foldl f s1) x.c.toNat W (by unfold wlC; rw [show jkC x 3 = joC x 0 ++ (joC x 1 ++ (joC x 2 ++ [])) from rfl]; simp [JE.out]) hS
              rw [show ((x.c.toNat : Nat) : Int) = x.c from Int.toNat_of_nonneg hn] at this
              exact this
            have CF := Lib.hid CF
            clear h6 hn
            go_wp2_with (go_at_fn F; refine (CF.out _ WX.out.st).mono ?_; rintro e W3 ⟨rfl, hs, hk⟩; have WY := Lib.hid (WX.out.call (Below.refl _ _) hs hk HK.out (by rfl) (by rfl)); clear hs hk)
            go_roundw
            case rel => exact ⟨3, by omega, rfl, by rw [NX.out]; exact WY.out⟩
            case measure => simp [intOf]
        · have hi : _ = Value.int .i64 3 := hi
          subst hi
          obtain ⟨⟨a0, a1, a2, a3, a4, a5, a6, a7⟩, -⟩ := cells8 WX.out.co
          have l0 := (Array.getElem?_eq_some_iff.1 WX.out.co).1
          clear hq
          obtain ⟨s2, hs2⟩ : ∃ s2, s2 = (jkC x 3).foldl f s1 := ⟨_, rfl⟩
          rw [← hs2] at WX
          have S2 := Lib.hid hs2
          clear hs2
          go_wp2
          go_loopw [57] (fun i X => ∃ q : Nat, i = .int .i64 q ∧ Hid (q ≤ c.gs.length) ∧ WyI St K w0 w ((glC (c.gs.take q) at_).foldl f s2) (codeO c.nm c.kd c.ln c.rg (.slice (some ⟨b, off, none⟩) c.ins.length c1) (.slice A2 c.pl.length c2) (.slice A3 c.ks.length c3) (.slice A4 c.gs.length c4)) (InO x) X) (fun i _ => c.gs.length - (intOf i).toNat)
          case atStart => exact ⟨0, rfl, Lib.hid (Nat.zero_le _), WX.out⟩
          case round =>
            clear a0 a1 a2 a3 a4 a5 a6 a7 l0 WX
            obtain ⟨q, rfl, HQ, hX⟩ := hrel
            have WX := Lib.hid hX
            clear hX
            by_cases hlt : q < c.gs.length
            · have q2 : (q : Int) < (c.gs.length : Int) := by omega
              have q3 : ¬ (q : Int) < 0 := by omega
              obtain ⟨y, hy⟩ : ∃ y, c.gs[q]? = some y := ⟨_, List.getElem?_eq_getElem hlt⟩
              obtain ⟨b', off', cap', e1, lb', z0, z1, z2, z3⟩ := at_Gd (HC.out.g.below WX.out.lo) hy
              simp only [Value.slice.injEq] at e1
              obtain ⟨rfl, _, rfl⟩ := e1
              have HY := Lib.hid hy
              obtain ⟨kp, hkp, ek1⟩ : ∃ kp : Nat, kp = q + 1 ∧ wrap64 ((q : Int) + 1) = (kp : Int) := ⟨q + 1, rfl, w64c rfl (by have := HM.out; unfold maxLen at this; omega)⟩
              have KP := Lib.hid hkp
              have LQ := Lib.hid hlt
              clear hkp hlt hy
              cases hb : (y.f == (at_ : Int))
              · have NX := Lib.hid (show (glC (c.gs.take (q + 1)) at_).foldl f s2 = (glC (c.gs.take q) at_).foldl f s2 by rw [glC_snoc _ _ _ _ HY.out, List.foldl_append]; unfold goC; rw [if_neg (by simpa using hb)]; rfl)
                go_wp2
                go_roundw
                case rel => exact ⟨kp, by first | with_reducible rfl | rw [ek1], Lib.hid (by rw [KP.out]; exact LQ.out), by rw [KP.out, NX.out]; exact WX.out.grow (by (repeat (with_reducible first | exact Below.refl _ _ | (refine bl_set ?_ (by first | omega | (simp; done) | (simp; omega)) _) | refine bl_gr ?_ _ | refine bl_al ?_ _ | refine below_setRow ?_ (by first | omega | (simp; done) | (simp; omega)) _ | refine bl_drewN ?_ _ | refine Below.drew ?_ | (refine bl_tr ?_ (by assumption))))) HB.out⟩
                case measure => ((try rw [ek1]); exact meas_c KP.out LQ.out)
              · have hn := HG.out y (List.mem_of_getElem? HY.out)
                have JE := Lib.hid (show goC at_ y = [y.g.toNat] by unfold goC; rw [if_pos (by simpa using hb)])
                have NX := Lib.hid (show (glC (c.gs.take (q + 1)) at_).foldl f s2 = f ((glC (c.gs.take q) at_).foldl f s2) y.g.toNat by rw [glC_snoc _ _ _ _ HY.out, List.foldl_append, JE.out]; rfl)
                have CF : ∀ W, St ((glC (c.gs.take q) at_).foldl f s2) W → Calls Try.prog F (#[.int .i64 y.g] ++ cap) W fun e W' => e = .returned (.tuple #[]) ∧ St (f ((glC (c.gs.take q) at_).foldl f s2) y.g.toNat) W' ∧ Kp K W W' := fun W hS => by
                  have := HF.out ((glC (c.gs.take q) at_).foldl f s2) y.g.toNat W (List.mem_append_right _ (List.mem_flatMap.2 ⟨y, List.mem_of_getElem? HY.out, by rw [JE.out]; simp⟩)) hS
                  rw [Int.toNat_of_nonneg hn] at this
                  exact this
                have CF := Lib.hid CF
                clear hn
                go_wp2_with (go_at_fn F; refine (CF.out _ (WX.out.grow (by (repeat (with_reducible first | exact Below.refl _ _ | (refine bl_set ?_ (by first | omega | (simp; done) | (simp; omega)) _) | refine bl_gr ?_ _ | refine bl_al ?_ _ | refine below_setRow ?_ (by first | omega | (simp; done) | (simp; omega)) _ | refine bl_drewN ?_ _ | refine Below.drew ?_ | (refine bl_tr ?_ (by assumption))))) HB.out).st).mono ?_; rintro e W3 ⟨rfl, hs, hk⟩; have WY := Lib.hid (WX.out.call (by (repeat (with_reducible first | exact Below.refl _ _ | (refine bl_set ?_ (by first | omega | (simp; done) | (simp; omega)) _) | refine bl_gr ?_ _ | refine bl_al ?_ _ | refine below_setRow ?_ (by first | omega | (simp; done) | (simp; omega)) _ | refine bl_drewN ?_ _ | refine Below.drew ?_ | (refine bl_tr ?_ (by assumption))))) hs hk HK.out (by rfl) (by rfl)); clear hs hk)
                go_roundw
                case rel => exact ⟨kp, by first | with_reducible rfl | rw [ek1], Lib.hid (by rw [KP.out]; exact LQ.out), by rw [KP.out, NX.out]; exact WY.out⟩
                case measure => ((try rw [ek1]); exact meas_c KP.out LQ.out)
            · have q2 : ¬ (q : Int) < (c.gs.length : Int) := by omega
              have RS := Lib.hid (show (glC c.gs at_).foldl f ((wlC c at_ x).foldl f s) = (glC (c.gs.take q) at_).foldl f s2 by rw [List.take_of_length_le (by omega), S2.out, S1.out]; unfold wlC; rw [List.foldl_append])
              clear hlt
              go_wp2
              go_end0
              exact ⟨rfl, by rw [RS.out]; exact WX.out.st, WX.out.kp⟩
end
end Go.Proofs.Ytcmpgohpncnagaa
