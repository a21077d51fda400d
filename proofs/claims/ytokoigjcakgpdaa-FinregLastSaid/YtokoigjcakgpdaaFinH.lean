/- Registries: Add. -/
import Derived.Test.YtokoigjcakgpdaaFinB
import Derived.Test.YtokoigjcakgpdaaFinD
import Derived.Test.YtokoigjcakgpdaaIt
namespace Go.Proofs.Ytokoigjcakgpdaa
set_option linter.all false
open Go.RowKit Go.Sort Go.Deep

theorem lit_valsB {W : World} {l : List Val} {o : Array Value} {k B : Nat} (hB : B = W.heap.size) (hk : l.length = k) (ho : o.toList = flat Val.cs l) (hm : k ≤ 10) : IsV (W.alloc (.cells o 34)) (.slice (some ⟨B, 0, none⟩) k k) l := by
  subst hk hB
  refine ownsRow_slOf (base := 0) (e := 34) (fun _ => rfl) ?_
  rw [← ho]
  exact World.ownsRow_lit W o l.length (Nat.zero_le _) (by unfold maxLen; omega) (by rw [← Array.length_toList, ho, flat_len cs_len])
abbrev numV (n : Int) : Val := ⟨3, n, ⟨#[]⟩⟩
abbrev valB (v : Val) : Obj := .cells #[.int .i64 v.k, .int .i64 v.n, .string v.s] 34
/-- an append to a row of the call's own -/
theorem wpList_appW {ops : Array Oper} {rest : List Oper} {o : Oper} {a : Act} {w : World} {Q : Exit → Act → World → Prop} (hgd : o.guard = none) (lo : Nat) (s x : Operand)
    (hop : o.op = Op.call { callee := Callee.builtin Builtin.append, args := #[s, x], argTypes := #[22, 22] })
    (ys xs : List Val) {yv sv : Value} (hs : a.eval s = yv) (hx : a.eval x = sv) (hlo : lo ≤ w.heap.size) (hown : OwnV w lo yv ys) (hsv : IsV w sv xs) (hf : fitV (ys ++ xs))
    (hK : ∀ A n w', OwnV w' lo (.slice A (ys ++ xs).length n) (ys ++ xs) → Touch (fun k => yv.ownBlock = some k) w w' → wpList Try.prog ops Q rest (a.put o.dst (.slice A (ys ++ xs).length n)) w') : wpList Try.prog ops Q (o :: rest) a w := by
  refine wpList_plain hgd fun K hK' => ?_
  obtain ⟨A, n, w', hr, h2, h3⟩ := run_appV (ty := o.type) hown hlo hsv hf
  have hb : Touch (fun k => yv.ownBlock = some k) w w' := ⟨h3.os, h3.tape, h3.output, h3.size, fun k hk hn => h3.block k hk fun e => hn e.symm⟩
  unfold Oper.wp
  simp [execOp, hop, resolve, invoke, builtin, hs, hx, hr, Result.andThen]
  have := hK' _ _ (hK A n w' h2 hb)
  rw [List.length_append] at this
  exact this
theorem heap5 (w : World) (a b c d e : Obj) : (((((w.alloc a).alloc b).alloc c).alloc d).alloc e).heap[w.heap.size]? = some a ∧ (((((w.alloc a).alloc b).alloc c).alloc d).alloc e).heap[w.heap.size + 1]? = some b ∧ (((((w.alloc a).alloc b).alloc c).alloc d).alloc e).heap[w.heap.size + 1 + 1]? = some c ∧
    (((((w.alloc a).alloc b).alloc c).alloc d).alloc e).heap[w.heap.size + 1 + 1 + 1]? = some d ∧ (((((w.alloc a).alloc b).alloc c).alloc d).alloc e).heap[w.heap.size + 1 + 1 + 1 + 1]? = some e ∧ Below w.heap.size w (((((w.alloc a).alloc b).alloc c).alloc d).alloc e) := by
  obtain ⟨h1, h2, h3, h4, hs, hb⟩ := heap4 w a b c d
  refine ⟨(heap_alloc_old _ _ (by omega)).trans h1, (heap_alloc_old _ _ (by omega)).trans h2, (heap_alloc_old _ _ (by omega)).trans h3, (heap_alloc_old _ _ (by omega)).trans h4, ?_, bl_al hb _⟩
  have := heap_alloc_new ((((w.alloc a).alloc b).alloc c).alloc d) e
  rw [hs] at this
  exact this

set_option maxRecDepth 100000 in
set_option maxHeartbeats 8000000 in
theorem add_ok (sv mv : Value) (c : CellD) (t h k : Val) (s : Int) (hc : c.ok) (ht : t.ok) (hh : h.ok) (hk : k.ok) (hf : c.fit) (hm : c.mo.length ≤ 1000) (w : World) (h1 : IsV w sv c.sl) (h2 : IsV w mv c.mo) (hb : isB c = true)
    (a1 : (t.k != 7) = false) (a2 : (k.k != 7) = false ∨ (k.k != 7) = true ∧ (k.k != 0) = false) (a3 : [t, h, k].all mayB = true) (a4 : (h.k == 8) = false) (a5 : (h.k == 9) = false) (a6 : ¬ s < 0) (a7 : ¬ 9007199254740992 < s) :
    Calls Try.prog 14 #[cellV c.k c.sh c.fl c.ag sv mv, t.agg, h.agg, k.agg, .int .i64 s] w fun e w' => ∃ A1 n1 A2 n2, e = .returned (.tuple #[cellV c.k c.sh c.fl c.ag (.slice A1 c.sl.length n1) (.slice A2 (c.mo ++ [t, h, k, numV s]).length n2), .int .i64 0]) ∧ OwnV w' w.heap.size (.slice A1 c.sl.length n1) c.sl ∧ OwnV w' w.heap.size (.slice A2 (c.mo ++ [t, h, k, numV s]).length n2) (c.mo ++ [t, h, k, numV s]) ∧ Below w.heap.size w w' := by
  obtain ⟨A0, n0, rfl, _, _⟩ := h1.form
  obtain ⟨A2, n2, rfl, _, _⟩ := h2.form
  have H1 := Lib.hid h1
  have H2 := Lib.hid h2
  have F := Lib.hid hf
  have OV := Lib.hid (show ∀ x ∈ [t, h, k], x.ok by intro x hx; simp at hx; rcases hx with rfl | rfl | rfl <;> assumption)
  have IS := Lib.hid (fun W a b => by have := is_any _ _ c hc W a b; rw [hb] at this; exact this : ∀ (W : World), IsV W (.slice A0 c.sl.length n0) c.sl → IsV W (.slice A2 c.mo.length n2) c.mo → Calls Try.prog 25 #[cellV c.k c.sh c.fl c.ag (.slice A0 c.sl.length n0) (.slice A2 c.mo.length n2)] W fun e w' => e = .returned (.bool true) ∧ Below W.heap.size W w')
  have MY := Lib.hid (fun W v hv => by have := fmay_any v [t, h, k] OV.out (by simp) W hv; rw [a3] at this; exact this : ∀ (W : World) (v : Value), IsV W v [t, h, k] → Calls Try.prog 31 #[v] W fun e w' => e = .returned (.bool true) ∧ Below W.heap.size W w')
  have a6' : decide (s < 0) = false := decide_eq_false a6
  have a7' : decide (9007199254740992 < s) = false := decide_eq_false a7
  have hfull : decide ((1048576 : Int) < (c.mo.length : Int) + 4) = false := decide_eq_false (by omega)
  have hwr : wrap64 ((c.mo.length : Int) + 4) = (c.mo.length : Int) + 4 := by simp only [wrap64]; omega
  have hfull2 : ¬ (1048576 : Int) < (c.mo.length : Int) + 4 := by omega
  have HMM := Lib.hid hm
  clear h1 h2 hf hb hc ht hh hk a3 a6 a7 hm
  go_enter Try.func14, Try.ntmps14
  go_upto_region 1 with fail
  refine wp_world (fun W => W.heap[w.heap.size]? = some (cellO c.k c.sh c.fl c.ag (.slice A0 c.sl.length n0) (.slice A2 c.mo.length n2)) ∧ W.heap[w.heap.size + 1]? = some (valB t) ∧ W.heap[w.heap.size + 1 + 1]? = some (valB h) ∧ W.heap[w.heap.size + 1 + 1 + 1]? = some (valB k) ∧ W.heap[w.heap.size + 1 + 1 + 1 + 1]? = some (cellO 0 0 0 0 (.slice none 0 0) (.slice none 0 0)) ∧ Below w.heap.size w W) (heap5 w _ _ _ _ _) ?_
  rintro W ⟨j0, j1, j2, j3, j4, jb⟩
  have JJ := Lib.hid (And.intro j0 (And.intro j4 jb))
  have l0 : w.heap.size < W.heap.size := (Array.getElem?_eq_some_iff.1 j0).1
  have l1 : w.heap.size + 1 < W.heap.size := (Array.getElem?_eq_some_iff.1 j1).1
  have l2 : w.heap.size + 1 + 1 < W.heap.size := (Array.getElem?_eq_some_iff.1 j2).1
  have l3 : w.heap.size + 1 + 1 + 1 < W.heap.size := (Array.getElem?_eq_some_iff.1 j3).1
  have l4 : w.heap.size + 1 + 1 + 1 + 1 < W.heap.size := (Array.getElem?_eq_some_iff.1 j4).1
  obtain ⟨⟨b0, b1, b2, b3, b4, b5⟩, f0, f1, f2, f3, f4, f5⟩ := cells6 j0
  obtain ⟨t0, t1, t2⟩ := cells3 j1
  obtain ⟨h0, h1, h2⟩ := cells3 j2
  obtain ⟨k0, k1, k2⟩ := cells3 j3
  have JT := Lib.hid (And.intro j1 (And.intro j2 j3))
  clear j0 j1 j2 j3 j4 jb
  rcases a2 with a2 | ⟨a2, a8⟩
  all_goals
    go_upto_region 5 with (first
      | (go_at_call 25; refine (callGr (IS.out _ (H1.out.below (JJ.out.2.2.trans (by (repeat (with_reducible first | exact Below.refl _ _ | (refine bl_set ?_ (by first | omega | (simp; done) | (simp; omega)) _) | refine bl_gr ?_ _ | refine bl_al ?_ _ | refine below_setRow ?_ (by first | omega | (simp; done) | (simp; omega)) _ | refine bl_drewN ?_ _ | refine Below.drew ?_ | (refine bl_tr ?_ (by assumption))))))) (H2.out.below (JJ.out.2.2.trans (by (repeat (with_reducible first | exact Below.refl _ _ | (refine bl_set ?_ (by first | omega | (simp; done) | (simp; omega)) _) | refine bl_gr ?_ _ | refine bl_al ?_ _ | refine below_setRow ?_ (by first | omega | (simp; done) | (simp; omega)) _ | refine bl_drewN ?_ _ | refine Below.drew ?_ | (refine bl_tr ?_ (by assumption))))))))).mono ?_; rintro e w' ⟨pp, rfl, rfl⟩)
      | (go_at_call 31; refine (callGr (MY.out _ _ (lit_valsB (l := [t, h, k]) (k := 3) ?_ rfl rfl (by omega)))).mono ?_; (next => simp [gr_size]); rintro e w' ⟨pp, rfl, rfl⟩))
    refine wp_world (fun X => Below W.heap.size W X) (by (repeat (with_reducible first | exact Below.refl _ _ | (refine bl_set ?_ (by first | omega | (simp; done) | (simp; omega)) _) | refine bl_gr ?_ _ | refine bl_al ?_ _ | refine below_setRow ?_ (by first | omega | (simp; done) | (simp; omega)) _ | refine bl_drewN ?_ _ | refine Below.drew ?_ | (refine bl_tr ?_ (by assumption))))) ?_
    intro X hX
    clear b0 b1 b2 b3 b4 b5 f0 f1 f2 f3 f4 f5 t0 t1 t2 h0 h1 h2 k0 k1 k2
    obtain ⟨⟨b0, b1, b2, b3, b4, b5⟩, _⟩ := cells6 ((hX.block _ l0).trans JJ.out.1)
    obtain ⟨h0, h1, h2⟩ := cells3 ((hX.block _ l2).trans JT.out.2.1)
    have XB := Lib.hid (JJ.out.2.2.trans (hX.mono JJ.out.2.2.size))
    have HX := Lib.hid hX
    clear hX
    go_upto_region 10 with (go_at_call 32; refine (copy_any _ _ c _ (H1.out.below XB.out) (H2.out.below XB.out) F.out).mono ?_; rintro e w3 ⟨A5, n5, A6, n6, rfl, o1, o2, od, hb⟩; obtain ⟨⟨d0, d1, d2, d3, d4, d5⟩, g0, g1, g2, g3, g4, g5⟩ := cells6 ((hb.block _ (Nat.lt_of_lt_of_le l0 HX.out.size)).trans ((HX.out.block _ l0).trans JJ.out.1)); have OO := Lib.hid (And.intro o1 (And.intro o2 (And.intro od hb))); clear o1 o2 od hb)
    refine wp_world (fun Y => Y.heap[w.heap.size]? = some (cellO c.k c.sh c.fl c.ag (.slice A5 c.sl.length n5) (.slice A6 c.mo.length n6)) ∧ Touch (fun b => b = w.heap.size) w3 Y)
      ⟨heap_setCell_same _ _ _ _ _ _ (heap_setCell_same _ _ _ _ _ _ (heap_setCell_same _ _ _ _ _ _ (heap_setCell_same _ _ _ _ _ _ (heap_setCell_same _ _ _ _ _ _ (heap_setCell_same _ _ _ _ _ _ ((OO.out.2.2.2.block _ (Nat.lt_of_lt_of_le l0 HX.out.size)).trans ((HX.out.block _ l0).trans JJ.out.1))))))), ((((((Touch.refl _ _).set1 _ _).set1 _ _).set1 _ _).set1 _ _).set1 _ _).set1 _ _⟩ ?_
    rintro Y ⟨y0, yT⟩
    have hb := OO.out.2.2.2
    have sX := HX.out.size
    have s3 := hb.size
    have sY := yT.size
    have far : ∀ {n : Nat} {o : Obj}, n < W.heap.size → n ≠ w.heap.size → W.heap[n]? = some o → Y.heap[n]? = some o := fun hn hne e => (yT.block _ (by omega) hne).trans ((hb.block _ (by omega)).trans ((HX.out.block _ hn).trans e))
    obtain ⟨t0, t1, t2⟩ := cells3 (far l1 (by omega) JT.out.1)
    obtain ⟨v0, v1, v2⟩ := cells3 (far l2 (by omega) JT.out.2.1)
    obtain ⟨k0, k1, k2⟩ := cells3 (far l3 (by omega) JT.out.2.2)
    have y4 := far l4 (by omega) JJ.out.2.1
    have o1 : OwnV Y X.heap.size (.slice A5 c.sl.length n5) c.sl := ownsRow_touch OO.out.1 yT (fun g hg e => by have := (OO.out.1.lt _ hg).1; omega)
    have o2 : OwnV Y X.heap.size (.slice A6 c.mo.length n6) c.mo := ownsRow_touch OO.out.2.1 yT (fun g hg e => by have := (OO.out.2.1.lt _ hg).1; omega)
    have bY : Below w.heap.size w Y := (XB.out.trans (hb.mono XB.out.size)).trans (yT.below (by have := XB.out.size; omega) (fun k e => by omega))
    clear b0 b1 b2 b3 b4 b5 d0 d1 d2 d3 d4 d5 g0 g1 g2 g3 g4 g5 h0 h1 h2 far
    obtain ⟨⟨b0, b1, b2, b3, b4, b5⟩, _⟩ := cells6 y0
    have KK := Lib.hid (And.intro y0 (And.intro y4 (And.intro o1 (And.intro o2 bY))))
    have OD := Lib.hid OO.out.2.2.1
    have SZ := Lib.hid (And.intro l0 (And.intro l4 (And.intro sX (And.intro s3 sY))))
    have m0 : w.heap.size < Y.heap.size := by omega
    have m1 : w.heap.size + 1 + 1 + 1 + 1 < Y.heap.size := by omega
    clear y0 y4 o1 o2 bY hb yT OO JJ JT XB HX H1 H2 sX s3 sY l0 l1 l2 l3 l4
    go_upto_region 11 with (at_builtin; refine wpList_appW rfl X.heap.size _ _ rfl c.mo [t, h, k, numV s] rfl rfl ?_ (KK.out.2.2.2.1.alloc _) (lit_valsB (l := [t, h, k, numV s]) (k := 4) rfl rfl rfl (by omega)) ?_ ?_; (next => (have := SZ.out; rw [World.size_alloc]; omega)); (next => (have := HMM.out; unfold fitV; rw [List.length_append]; simp; omega)); intro A9 n9 w9 o9 t9; have T9 : Touch (fun g => Value.ownBlock (.slice A6 c.mo.length n6) = some g) Y w9 := ((Touch.refl _ Y).alloc _).trans t9 (fun _ _ h => h); have y9 := (T9.block _ m0 (fun e => by have := (KK.out.2.2.2.1.lt _ e).1; have := SZ.out; omega)).trans KK.out.1; obtain ⟨_, x0, x1, x2, x3, x4, x5⟩ := cells6 y9; have R := Lib.hid (And.intro o9 (And.intro T9 y9)); clear o9 t9 T9 y9)
    refine wp_world (fun Z => Z.heap[w.heap.size]? = some (cellO c.k c.sh c.fl c.ag (.slice A5 c.sl.length n5) (.slice A9 (c.mo.length + 4) n9)) ∧ Touch (fun b => b = w.heap.size) w9 Z) ⟨heap_setCell_same w9 w.heap.size 5 _ _ _ R.out.2.2, (Touch.refl _ _).set1 5 _⟩ ?_
    rintro Z ⟨zz0, zT⟩
    have T9 := R.out.2.1
    have s9 := T9.size
    have sZ := zT.size
    have e4 : (c.mo ++ [t, h, k, numV s]).length = c.mo.length + 4 := by simp
    have zz4 : Z.heap[w.heap.size + 1 + 1 + 1 + 1]? = some (cellO 0 0 0 0 (.slice none 0 0) (.slice none 0 0)) := (zT.block _ (by omega) (by omega)).trans ((T9.block _ m1 (fun e => by have := (KK.out.2.2.2.1.lt _ e).1; have := SZ.out; omega)).trans KK.out.2.1)
    have o1 : OwnV Z X.heap.size (.slice A5 c.sl.length n5) c.sl := ownsRow_touch (ownsRow_touch KK.out.2.2.1 T9 (fun g hg e => OD.out g hg e)) zT (fun g hg e => by have := (KK.out.2.2.1.lt _ hg).1; have := SZ.out; omega)
    have o2 := R.out.1
    rw [e4] at o2
    have o3 : OwnV Z X.heap.size (.slice A9 (c.mo.length + 4) n9) (c.mo ++ [t, h, k, numV s]) := ownsRow_touch o2 zT (fun g hg e => by have := (o2.lt _ hg).1; have := SZ.out; omega)
    have bZ : Below w.heap.size w Z := (KK.out.2.2.2.2.trans (T9.below (by omega) (fun g e => by have := (KK.out.2.2.2.1.lt _ e).1; have := SZ.out; omega))).trans (zT.below (by omega) (fun g e => by omega))
    clear b0 b1 b2 b3 b4 b5 x0 x1 x2 x3 x4 x5
    obtain ⟨⟨b0, b1, b2, b3, b4, b5⟩, _⟩ := cells6 zz0
    obtain ⟨⟨x0, x1, x2, x3, x4, x5⟩, y0, y1, y2, y3, y4, y5⟩ := cells6 zz4
    have FF := Lib.hid (And.intro o1 (And.intro o3 (And.intro bZ zz4)))
    have q0 : w.heap.size < Z.heap.size := by omega
    have q1 : w.heap.size + 1 + 1 + 1 + 1 < Z.heap.size := by omega
    clear o1 o2 o3 bZ zz0 zz4 T9 zT R KK s9 sZ m0 m1
    go_wp2
    obtain ⟨w6, hw6⟩ : ∃ w6, w6 = ((((((Z.setCell ⟨w.heap.size + 1 + 1 + 1 + 1, 0, none⟩ (.int .i64 c.k)).setCell ⟨w.heap.size + 1 + 1 + 1 + 1, 1, none⟩ (.int .i64 c.sh)).setCell ⟨w.heap.size + 1 + 1 + 1 + 1, 2, none⟩ (.int .i64 c.fl)).setCell ⟨w.heap.size + 1 + 1 + 1 + 1, 3, none⟩ (.int .i64 c.ag)).setCell ⟨w.heap.size + 1 + 1 + 1 + 1, 4, none⟩ (.slice A5 c.sl.length n5)).setCell ⟨w.heap.size + 1 + 1 + 1 + 1, 5, none⟩ (.slice A9 (c.mo.length + 4) n9)) := ⟨_, rfl⟩
    rw [← hw6]
    have jt : Touch (fun b => b = w.heap.size + 1 + 1 + 1 + 1) Z w6 := by
      rw [hw6]
      exact (((((((Touch.refl _ _).set1 _ _).set1 _ _).set1 _ _).set1 _ _).set1 _ _).set1 _ _)
    have j1 : OwnV w6 w.heap.size (.slice A5 c.sl.length n5) c.sl := ownsRow_low (ownsRow_touch FF.out.1 jt (fun g hg e => by have := (FF.out.1.lt _ hg).1; have := SZ.out; omega)) (by have := SZ.out; omega)
    have j2 : OwnV w6 w.heap.size (.slice A9 (c.mo ++ [t, h, k, numV s]).length n9) (c.mo ++ [t, h, k, numV s]) := by
      rw [e4]
      exact ownsRow_low (ownsRow_touch FF.out.2.1 jt (fun g hg e => by have := (FF.out.2.1.lt _ hg).1; have := SZ.out; omega)) (by have := SZ.out; omega)
    have j3 : w6.heap[w.heap.size + 1 + 1 + 1 + 1]? = some (cellO c.k c.sh c.fl c.ag (.slice A5 c.sl.length n5) (.slice A9 (c.mo.length + 4) n9)) := by
      rw [hw6]
      exact heap_setCell_same _ _ _ _ _ _ (heap_setCell_same _ _ _ _ _ _ (heap_setCell_same _ _ _ _ _ _ (heap_setCell_same _ _ _ _ _ _ (heap_setCell_same _ _ _ _ _ _ (heap_setCell_same _ _ _ _ _ _ FF.out.2.2.2)))))
    have jb : Below w.heap.size w w6 := FF.out.2.2.1.trans (jt.below (by omega) (fun g e => by omega))
    clear hw6 b0 b1 b2 b3 b4 b5 x0 x1 x2 x3 x4 x5 y0 y1 y2 y3 y4 y5 jt
    obtain ⟨⟨b0, b1, b2, b3, b4, b5⟩, _⟩ := cells6 j3
    refine bodyPost_ret (v := .tuple #[cellV c.k c.sh c.fl c.ag (.slice A5 c.sl.length n5) (.slice A9 (c.mo.length + 4) n9), .int .i64 0]) (by clear j1 j2 j3 jb; simp [results, Try.results14, go_sem, *]) rfl ⟨A5, n5, A9, n9, by rw [e4], j1, j2, jb⟩
end Go.Proofs.Ytokoigjcakgpdaa
