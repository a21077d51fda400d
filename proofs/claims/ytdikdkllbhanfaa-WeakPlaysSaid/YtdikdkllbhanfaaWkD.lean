/- Weak maps: kept, walked. -/
import Derived.Test.YtdikdkllbhanfaaWkC
import Derived.Test.YtdikdkllbhanfaaInReg
namespace Go.Proofs.Ytdikdkllbhanfaa
set_option linter.all false
open Go.RowKit Go.Sort Go.Deep Go.Shelf
attribute [local go_sem] Oper.semAt_some

abbrev valB (v : Val) : Obj := .cells #[.int .i64 v.k, .int .i64 v.n, .string v.s] 34
/-- what is kept of the first entries -/
def keptE (p : Val → Bool) (mo : List Val) (k : Nat) : List Val := bif p (vAt mo (2 * k)) then [vAt mo (2 * k), vAt mo (2 * k + 1)] else []
def keptW (p : Val → Bool) (mo : List Val) {m : Nat} (l : List (Fin m)) : List Val := l.flatMap fun x => keptE p mo x.val
theorem keptW_snoc (p : Val → Bool) (mo : List Val) {m : Nat} (l : List (Fin m)) (x : Fin m) : keptW p mo (l ++ [x]) = keptW p mo l ++ keptE p mo x.val := by simp [keptW]
theorem keptW_len (p : Val → Bool) (mo : List Val) {m : Nat} (l : List (Fin m)) : (keptW p mo l).length ≤ 2 * l.length := by
  induction l with
  | nil => simp [keptW]
  | cons x l ih =>
    simp only [keptW, List.flatMap_cons, List.length_append, List.length_cons] at ih ⊢
    have : (keptE p mo x.val).length ≤ 2 := by unfold keptE; cases p (vAt mo (2 * x.val)) <;> simp
    omega
theorem heap3 (w : World) (a b c : Obj) : (((w.alloc a).alloc b).alloc c).heap[w.heap.size]? = some a ∧ (((w.alloc a).alloc b).alloc c).heap[w.heap.size + 1]? = some b ∧ (((w.alloc a).alloc b).alloc c).heap[w.heap.size + 1 + 1]? = some c ∧ Below w.heap.size w (((w.alloc a).alloc b).alloc c) :=
  ⟨hq_0 w a b c, hq_1 w a b c, hq_2 w a b c, bl_al (bl_al (bl_al (Below.refl _ _) _) _) _⟩
theorem own_ne {W : World} {lo g B : Nat} {v : Value} {xs : List Val} {cs : Array Value} {T : TypeId} (h : OwnV W lo v xs) (hg : v.ownBlock = some g) (hB : W.heap[B]? = some (.cells cs T)) (hT : T ≠ 34) : g ≠ B := by
  rintro rfl
  rcases h.2 with ⟨rfl, _⟩ | ⟨g', cap, cur, rfl, _, hgg, _⟩
  · simp [Value.ownBlock] at hg
  · simp only [Value.ownBlock, Option.some.injEq] at hg
    subst hg
    rw [hB] at hgg
    cases hgg
    exact hT rfl
theorem wpIn_world {F : Fence} {n : Nat} {P : Program} {c : Code} {Q : Exit → Act → World → Prop} {a : Act} {w : World} (C : World → Prop) (hC : C w) (h : ∀ w', C w' → c.wpIn F n P Q a w') : c.wpIn F n P Q a w := h w hC
theorem post_world {F : Fence} {n : Nat} {P : Program} {fn : Func} {R : Ending → World → Prop} {e : Exit} {a : Act} {w : World} (C : World → Prop) (hC : C w) (h : ∀ w', C w' → bodyPostM F n P fn R e a w') : bodyPostM F n P fn R e a w := h w hC
theorem vAt_mem {l : List Val} {k : Nat} (h : k < l.length) : vAt l k ∈ l := by
  unfold vAt; rw [List.getElem?_eq_getElem h]; exact List.getElem_mem h
/-- an append as one operation of a round; the row is the call's own -/
theorem wpListIn_appW {F : Fence} {n : Nat} {ops : Array Oper} {rest : List Oper} {o : Oper} {a : Act} {w : World} {Q : Exit → Act → World → Prop} (hgd : o.guard = none) (lo : Nat) (s x : Operand)
    (hop : o.op = Op.call { callee := Callee.builtin Builtin.append, args := #[s, x], argTypes := #[22, 22] })
    (ys xs : List Val) (h0 : 0 < xs.length) {yv sv : Value} (hs : a.eval s = yv) (hx : a.eval x = sv) (hlo : lo ≤ w.heap.size) (hown : OwnV w lo yv ys) (hsv : IsV w sv xs) (hf : fitV (ys ++ xs))
    (hK : ∀ g n' w', OwnV w' lo (.slice (some ⟨g, 0, none⟩) (ys ++ xs).length n') (ys ++ xs) → Touch (fun k => yv.ownBlock = some k) w w' → (yv.ownBlock = some g ∨ w.heap.size ≤ g) → wpListIn F n Try.prog ops Q rest (a.put o.dst (.slice (some ⟨g, 0, none⟩) (ys ++ xs).length n')) w') : wpListIn F n Try.prog ops Q (o :: rest) a w := by
  refine wpListIn_plain hgd fun K hK' => ?_
  obtain ⟨i, hi, hz, hsz, hby⟩ := val_info
  have hle := hf.le
  unfold fitV at hf
  rw [List.length_append] at hle hf
  obtain ⟨ad, c, rfl, hsrc⟩ := hsv.src cs_len h0
  have hlen := flat_len cs_len xs
  obtain ⟨g, cap, w', hr, h2, h3, h4, _⟩ := run_append_lies (P := Try.prog) (w := w) 22 o.type lo 34 i (.agg zval) 3 32 Try.underlying22 hi hz hsz hby rfl (by omega) yv ys.length (flat Val.cs ys) hown ad xs.length c (flat Val.cs xs) hlen hsrc one_cs h0 (by unfold maxLen; omega) (by omega) hlo w.heap.size rfl
  have hb : Touch (fun k => yv.ownBlock = some k) w w' := ⟨h3.os, h3.tape, h3.output, h3.size, fun k hk hn => h3.block k hk fun e => hn e.symm⟩
  have h5 : OwnV w' lo (.slice (some ⟨g, 0, none⟩) (ys ++ xs).length cap) (ys ++ xs) := by
    have e : flat Val.cs (ys ++ xs) = flat Val.cs ys ++ flat Val.cs xs := by unfold flat; rw [List.flatMap_append]
    unfold OwnV
    rw [e, List.length_append]
    exact h2
  unfold Oper.wpIn
  refine ⟨?_, ?_⟩
  · simp [Oper.about, hop, resolve, Target.leads, Sem.run_pure]
  · rw [Oper.semAt_plain F _ _ (by rw [hop]; intro c hc'; cases hc')]
    simp [execOp, hop, resolve, invoke, builtin, hs, hx, hr, Result.andThen]
    have := hK' _ _ (hK g cap w' h5 hb (h4.imp id (fun e => Nat.le_of_eq e.symm)))
    rw [List.length_append] at this
    exact this

set_option maxRecDepth 100000 in
set_option maxHeartbeats 8000000 in
theorem kept_any (sv mv : Value) (c : CellD) (F : FuncId) (hF : ∀ (args : Array Value) (Z : World), (callFunc F args).run Try.prog Z = .ok (.enter F args) Z) (B : Nat) (p : Val → Bool) (hf : c.fit) (m : Nat) (hm : c.mo.length = 2 * m) (w : World) (h1 : IsV w sv c.sl) (h2 : IsV w mv c.mo)
    (hP : ∀ Z, Below w.heap.size w Z → ∀ v : Val, v ∈ c.mo → Calls Try.prog F #[v.agg, .pointer (some ⟨B, 0, none⟩)] Z fun e w' => e = .returned (.bool (p v)) ∧ Below Z.heap.size Z w') :
    Calls Try.prog 27 #[cellV c.k c.sh c.fl c.ag sv mv, .func (.func F) #[] #[.pointer (some ⟨B, 0, none⟩)]] w fun e w' => ∃ s mm, e = .returned (cellV c.k c.sh c.fl c.ag s mm) ∧ IsV w' s c.sl ∧ IsV w' mm (keptW p c.mo (List.finRange m)) ∧ Below w.heap.size w w' := by
  obtain ⟨A0, n0, rfl, _, _⟩ := h1.form
  obtain ⟨A2, n2, rfl, hc2, _⟩ := h2.form
  have H1 := Lib.hid h1
  have H2 := Lib.hid h2
  have HF := Lib.hid hf
  have HP := Lib.hid hP
  have HM := Lib.hid hm
  clear h1 h2 hf hm hP
  refine callsIn_wide.1 (callsIn_of_wp_marks (n := 9) Try.func27 rfl trivial ?_ rfl)
  refine wpIn_wide.2 ?_
  simp only [Try.ntmps27, List.size_toArray, List.length_cons, List.length_nil, Nat.reduceAdd, Nat.reduceSub, Array.replicate_succ, Array.replicate_zero, List.push_toArray, List.append_toArray, List.nil_append, List.cons_append]
  go_upto_region 1 with fail
  refine wp_world (fun W => W.heap[w.heap.size]? = some (cellO c.k c.sh c.fl c.ag (.slice A0 c.sl.length n0) (.slice A2 c.mo.length n2)) ∧ W.heap[w.heap.size + 1]? = some (.cells #[.func (.func F) #[] #[.pointer (some ⟨B, 0, none⟩)]] 49) ∧ W.heap[w.heap.size + 1 + 1]? = some (cellO 0 0 0 0 (.slice none 0 0) (.slice none 0 0)) ∧ Below w.heap.size w W) (heap3 w _ _ _) ?_
  rintro W ⟨j1, j2, j3, jb⟩
  have l0 : w.heap.size < W.heap.size := (Array.getElem?_eq_some_iff.1 j1).1
  have l1 : w.heap.size + 1 < W.heap.size := (Array.getElem?_eq_some_iff.1 j2).1
  have l2 : w.heap.size + 1 + 1 < W.heap.size := (Array.getElem?_eq_some_iff.1 j3).1
  have KK := Lib.hid (show ∀ X, Below W.heap.size W X → X.heap[w.heap.size]? = some (cellO c.k c.sh c.fl c.ag (.slice A0 c.sl.length n0) (.slice A2 c.mo.length n2)) ∧ X.heap[w.heap.size + 1]? = some (.cells #[.func (.func F) #[] #[.pointer (some ⟨B, 0, none⟩)]] 49) ∧ X.heap[w.heap.size + 1 + 1]? = some (cellO 0 0 0 0 (.slice none 0 0) (.slice none 0 0)) from fun X h => ⟨(h.block _ l0).trans j1, (h.block _ l1).trans j2, (h.block _ l2).trans j3⟩)
  have BW := Lib.hid jb
  have I1 := Lib.hid (H1.out.below jb)
  have I2 := Lib.hid (H2.out.below jb)
  obtain ⟨⟨a0, a1, a2, a3, a4, a5⟩, _⟩ := cells6 j1
  clear j1 j2 j3 jb H1 H2
  go_upto_region 2 with (go_at_call 36; refine (copy_any _ _ c _ (I1.out.below (by (repeat (with_reducible first | exact Below.refl _ _ | (refine bl_set ?_ (by first | omega | (simp; done) | (simp; omega)) _) | refine bl_gr ?_ _ | refine bl_al ?_ _ | refine below_setRow ?_ (by first | omega | (simp; done) | (simp; omega)) _ | refine bl_drewN ?_ _ | refine Below.drew ?_ | (refine bl_tr ?_ (by assumption)))))) (I2.out.below (by (repeat (with_reducible first | exact Below.refl _ _ | (refine bl_set ?_ (by first | omega | (simp; done) | (simp; omega)) _) | refine bl_gr ?_ _ | refine bl_al ?_ _ | refine below_setRow ?_ (by first | omega | (simp; done) | (simp; omega)) _ | refine bl_drewN ?_ _ | refine Below.drew ?_ | (refine bl_tr ?_ (by assumption)))))) HF.out).mono ?_; rintro e w3 ⟨A5, n5, A6, n6, rfl, o1, o2, od, hb⟩; have OO := Lib.hid (And.intro o1 hb); clear o1 o2 od hb)
  refine wp_world (fun X => X.heap[w3.heap.size]? = some (cellO c.k c.sh c.fl c.ag (.slice A5 c.sl.length n5) (.slice A6 c.mo.length n6)) ∧ Below w3.heap.size w3 X) ⟨heap_alloc_new _ _, bl_al (Below.refl _ _) _⟩ ?_
  rintro X1 ⟨z0, zb⟩
  have lO : w3.heap.size < X1.heap.size := (Array.getElem?_eq_some_iff.1 z0).1
  have sO := OO.out.2.size
  clear a0 a1 a2 a3 a4 a5
  obtain ⟨⟨a0, a1, a2, a3, a4, a5⟩, f0, f1, f2, f3, f4, f5⟩ := cells6 z0
  have Z0 := Lib.hid (And.intro z0 zb)
  clear z0 zb
  go_upto_region 3 with fail
  refine wp_world (fun X => X.heap[w3.heap.size]? = some (cellO c.k c.sh c.fl c.ag (.slice A5 c.sl.length n5) (.slice none 0 0)) ∧ OwnV X W.heap.size (.slice A5 c.sl.length n5) c.sl ∧ Below W.heap.size W X ∧ w3.heap.size < X.heap.size) ⟨heap_setCell_same _ _ _ _ _ _ Z0.out.1, ?_, ?_, by simpa using lO⟩ ?_
  · refine ownsRow_touch (ownsRow_low (ownsRow_below OO.out.1 Z0.out.2) (Nat.le_refl _)) ((Touch.refl (fun b => b = w3.heap.size) X1).set1 5 _) (fun g hg e => ?_)
    have := (OO.out.1.lt _ hg).2
    omega
  · exact bl_set (bl_tr OO.out.2 Z0.out.2) sO _
  rintro X2 ⟨z0, zo, zb, lX⟩
  clear a0 a1 a2 a3 a4 a5 f0 f1 f2 f3 f4 f5 Z0 OO lO
  obtain ⟨⟨a0, a1, a2, a3, a4, a5⟩, _⟩ := cells6 (KK.out X2 zb).1
  have Z2 := Lib.hid (And.intro z0 (And.intro zo zb))
  have sX := zb.size
  have lX0 : w.heap.size < X2.heap.size := by omega
  clear z0 zo zb
  go_upto_region 4 with (go_at_call 30; refine (entries_any _ _ _ _ _ _ _ _ _ _ _).mono ?_; rintro e w4 ⟨rfl, hw4⟩; have W4 := Lib.hid hw4; clear hw4)
  have hsz : w4.heap.size = X2.heap.size + 1 := by rw [W4.out]; simp
  have qE : w4.heap[X2.heap.size]? = some (cellO c.k c.sh c.fl c.ag (.slice A0 c.sl.length n0) (.slice A2 c.mo.length n2)) := by rw [W4.out]; exact heap_alloc_new _ _
  have hb34 : Below X2.heap.size X2 w4 := by rw [W4.out]; exact bl_al (Below.refl _ _) _
  have hbr : Below W.heap.size W w4 := bl_tr Z2.out.2.2 hb34
  have QQ := Lib.hid (And.intro ((hb34.block _ lX).trans Z2.out.1) (And.intro (ownsRow_below Z2.out.2.1 hb34) (And.intro qE hbr)))
  have hs1 := Nat.le_of_eq hsz
  have hs2 := Nat.le_of_eq hsz.symm
  clear W4 hb34 a0 a1 a2 a3 a4 a5 hsz Z2
  refine (wpIn_wide (n := 9)).1 ?_
  refine wpIn_rangeFunc_ownH rfl (by omega) (gf := 45) (lb := #[.pointer (some ⟨X2.heap.size, 0, none⟩)]) rfl trivial (enters_of Try.func45 (by kernel_rfl) rfl)
    (entries_stops m c.k c.sh c.fl c.ag (.slice A0 c.sl.length n0) (.slice A2 c.mo.length n2) c.mo HM.out _ W w4 hbr qE I2.out) KpB.trans (KpB.put (by omega) (by omega)) (Below.refl _ _) (fun _ => rfl)
    (fun pre Y => ∃ A9 n9, Y.heap[w3.heap.size]? = some (cellO c.k c.sh c.fl c.ag (.slice A5 c.sl.length n5) (.slice A9 (keptW p c.mo pre).length n9)) ∧ OwnV Y W.heap.size (.slice A9 (keptW p c.mo pre).length n9) (keptW p c.mo pre) ∧
      OwnV Y W.heap.size (.slice A5 c.sl.length n5) c.sl ∧ (∀ b, Value.ownBlock (.slice A5 c.sl.length n5) = some b → Value.ownBlock (.slice A9 (keptW p c.mo pre).length n9) ≠ some b) ∧
      Below W.heap.size W Y ∧ w4.heap.size ≤ Y.heap.size ∧ Y.heap[X2.heap.size]? = some (cellO c.k c.sh c.fl c.ag (.slice A0 c.sl.length n0) (.slice A2 c.mo.length n2)))
    (fun _ _ _ => False)
    (ownFrom_of fun s Y Y' ⟨A9, n9, q1, q2, q4, q5, q6, q7, qe⟩ hs => ⟨A9, n9, hs.heap q1, hs.owns q2, hs.owns q4, q5, hs.below (by omega) q6 (Nat.le_refl _), Nat.le_trans q7 hs.size, hs.heap qe⟩)
    (fun _ => ownFrom_of fun _ _ _ h _ => h)
    ⟨none, 0, QQ.out.1, World.ownsRow_nil _ _ _ _, QQ.out.2.1, (fun b e h => (by simp [Value.ownBlock] at h)), hbr, Nat.le_refl _, qE⟩
    (fun x a' Y => ∃ B6 B7, w4.heap.size ≤ B6 ∧ w4.heap.size ≤ B7 ∧ Y.heap[B6]? = some (valB (vAt c.mo (2 * x.val))) ∧ Y.heap[B7]? = some (valB (vAt c.mo (2 * x.val + 1))) ∧
      a' = { tmps := #[cellV c.k c.sh c.fl c.ag (.slice A0 c.sl.length n0) (.slice A2 c.mo.length n2), .func (.func F) #[] #[.pointer (some ⟨B, 0, none⟩)], .pointer (some ⟨w.heap.size, 0, none⟩), .pointer (some ⟨w.heap.size + 1, 0, none⟩), .pointer (some ⟨w.heap.size + 1 + 1, 0, none⟩), .pointer (some ⟨w3.heap.size, 0, none⟩), .pointer (some ⟨B6, 0, none⟩), .pointer (some ⟨B7, 0, none⟩), cellV c.k c.sh c.fl c.ag (.slice A0 c.sl.length n0) (.slice A2 c.mo.length n2), cellV c.k c.sh c.fl c.ag (.slice A5 c.sl.length n5) (.slice A6 c.mo.length n6), .pointer (some ⟨w3.heap.size, 5, none⟩), cellV c.k c.sh c.fl c.ag (.slice A0 c.sl.length n0) (.slice A2 c.mo.length n2), .func (.func 45) #[] #[.pointer (some ⟨X2.heap.size, 0, none⟩)], (vAt c.mo (2 * x.val)).agg, (vAt c.mo (2 * x.val + 1)).agg, undef, undef, undef, undef, undef, undef, undef, undef, undef, undef, undef], defers := [] })
    (fun x a' => ownFrom_of fun _ Y Y' ⟨B6, B7, g1, g2, g3, g4, g5⟩ hs => ⟨B6, B7, g1, g2, hs.heap g3, hs.heap g4, g5⟩) ?assign ?body ?done ?stop
  case assign =>
    rintro l pre x Y K ⟨A9, n9, q1, q2, q4, q5, q6, q7, qe⟩ hK
    have ll := (Array.getElem?_eq_some_iff.1 qe).1
    gi_wp2
    refine hK _ _ (((KeepsOthers.alloc _ _).from _).trans ((KeepsOthers.alloc _ _).from _)) ((KpB.alloc q6.size (by omega) _).trans (KpB.alloc (by simp; omega) (by simp; omega) _)) ?_ ?_
    · have hb := bl_al (bl_al (Below.refl Y.heap.size Y) (valB (vAt c.mo (2 * x.val)))) (valB (vAt c.mo (2 * x.val + 1)))
      exact ⟨A9, n9, (hb.block _ (by omega)).trans q1, ownsRow_below q2 hb, ownsRow_below q4 hb, q5, q6.trans (hb.mono q6.size), Nat.le_trans q7 hb.size, (hb.block _ ll).trans qe⟩
    · exact ⟨Y.heap.size, Y.heap.size + 1, q7, by omega, (heap_alloc_old _ _ (by simp)).trans (heap_alloc_new _ _), by have := heap_alloc_new (Y.alloc (valB (vAt c.mo (2 * x.val)))) (valB (vAt c.mo (2 * x.val + 1))); simpa using this, rfl⟩
  case stop =>
    rintro D c pre W _ _ h _
    exact h.elim
  case done =>
    rintro D ys Y hD rfl ⟨A9, n9, q1, q2, q4, q5, q6, q7, qe⟩ hK
    have k4 := (KK.out Y q6).2.2
    have lB := q6.size
    obtain ⟨⟨d0, d1, d2, d3, d4, d5⟩, _⟩ := cells6 q1
    obtain ⟨⟨x0, x1, x2, x3, x4, x5⟩, y0, y1, y2, y3, y4, y5⟩ := cells6 k4
    have BY := Lib.hid (And.intro (BW.out.trans (q6.mono BW.out.size)) (And.intro k4 (And.intro q1 (And.intro q2 q4))))
    have HD := Lib.hid (And.intro (And.intro hD hK) q7)
    clear q1 q2 q4 q5 q6 q7 qe k4 hD hK
    go_wp2
    refine post_world (fun W6 => W6.heap[w.heap.size + 1 + 1]? = some (cellO c.k c.sh c.fl c.ag (.slice A5 c.sl.length n5) (.slice A9 (keptW p c.mo (List.finRange m)).length n9)) ∧ Touch (fun b => b = w.heap.size + 1 + 1) Y W6)
      ?_ ?_
    · have hk := BY.out.2.1
      clear d0 d1 d2 d3 d4 d5 x0 x1 x2 x3 x4 x5 y0 y1 y2 y3 y4 y5
      refine ⟨?_, ((((((Touch.refl _ _).set1 _ _).set1 _ _).set1 _ _).set1 _ _).set1 _ _ |>.set1 _ _)⟩
      exact heap_setCell_same _ _ _ _ _ _ (heap_setCell_same _ _ _ _ _ _ (heap_setCell_same _ _ _ _ _ _ (heap_setCell_same _ _ _ _ _ _ (heap_setCell_same _ _ _ _ _ _ (heap_setCell_same _ _ _ _ _ _ hk)))))
    rintro W6 ⟨r1, rt⟩
    have nD : D ≠ w.heap.size + 1 + 1 := fun e => by have := HD.out.1.2; rw [e, BY.out.2.1] at this; cases this
    have lD := (Array.getElem?_eq_some_iff.1 HD.out.1.2).1
    have rD := (rt.block D lD nD).trans HD.out.1.2
    have r1' : (W6.putObj D (.deferred none)).heap[w.heap.size + 1 + 1]? = some (cellO c.k c.sh c.fl c.ag (.slice A5 c.sl.length n5) (.slice A9 (keptW p c.mo (List.finRange m)).length n9)) := (heap_put _ (Ne.symm nD)).trans r1
    have pD : ∀ {v : Value} {xs : List Val}, OwnV Y W.heap.size v xs → IsV (W6.putObj D (.deferred none)) v xs := by
      intro v xs h
      refine OwnV.isV (lo := W.heap.size) (ownsRow_touch (F := fun b => b = D) (ownsRow_touch h rt (fun g hg e => ?_)) (Touch.put _ _ _) (fun g hg e => ?_))
      · exact own_ne h hg BY.out.2.1 (by decide) e
      · obtain ⟨cs, t, hh⟩ := owns_cells h hg
        rw [e, HD.out.1.2] at hh
        cases hh
    have f1 := pD BY.out.2.2.2.1
    have f3 := pD BY.out.2.2.2.2
    have f4 : Below w.heap.size w (W6.putObj D (.deferred none)) := below_put (BY.out.1.trans (rt.below BY.out.1.size (fun k e => by omega))) (by have := HD.out.1.1; omega) _
    have FF := Lib.hid (And.intro f3 (And.intro f1 f4))
    clear f1 f3 f4 pD
    obtain ⟨⟨e0, e1, e2, e3, e4, e5⟩, _⟩ := cells6 r1'
    refine marks_ret1 rD (v := cellV c.k c.sh c.fl c.ag (.slice A5 c.sl.length n5) (.slice A9 (keptW p c.mo (List.finRange m)).length n9)) ?_ rfl ⟨_, _, rfl, FF.out.1, FF.out.2.1, FF.out.2.2⟩
    clear r1 rt rD r1' nD lD
    simp [results, Try.results27, go_sem, *]
  case body =>
    rintro l pre x a' Y hl hr ⟨A9, n9, q1, q2, q4, q5, q6, q7, qe⟩ ⟨B6, B7, g1, g2, g3, g4, rfl⟩ hlt
    have hx := x.isLt
    have lB := q6.size
    have hmo := HM.out
    have k3 := (KK.out Y q6).2.1
    obtain ⟨z0, _⟩ := cells1 k3
    have lT := (Array.getElem?_eq_some_iff.1 k3).1
    have l6 := (Array.getElem?_eq_some_iff.1 g3).1
    have l7 := (Array.getElem?_eq_some_iff.1 g4).1
    have lE := (Array.getElem?_eq_some_iff.1 qe).1
    obtain ⟨u0, u1, u2⟩ := cells3 g3
    have l9 : w3.heap.size < Y.heap.size := by omega
    have KD := Lib.hid (keptW_snoc p c.mo pre x)
    have KL := keptW_len p c.mo pre
    have PC := Lib.hid (show ∀ Z, Below Y.heap.size Y Z → Calls Try.prog F #[(vAt c.mo (2 * x.val)).agg, .pointer (some ⟨B, 0, none⟩)] Z fun e w' => e = .returned (.bool (p (vAt c.mo (2 * x.val)))) ∧ Below Z.heap.size Z w' from
      fun Z hZ => HP.out Z (bl_tr BW.out (bl_tr q6 hZ)) _ (vAt_mem (by omega)))
    have INV := Lib.hid (And.intro q1 (And.intro q2 (And.intro q4 (And.intro q5 (And.intro q6 (And.intro q7 qe))))))
    have G4 := Lib.hid g4
    have INV6 := Lib.hid g3
    have fM := HF.out.2
    unfold fitV at fM
    clear q1 q2 q4 q5 q6 q7 qe k3 hl hr g3 g4
    unfold keptE at KD
    generalize vAt c.mo (2 * x.val) = u at *
    generalize vAt c.mo (2 * x.val + 1) = v at *
    have hpl : pre.length ≤ m := by omega
    have hkl : (keptW p c.mo pre).length + 2 ≤ 2 * m + 2 := by omega
    generalize hks : keptW p c.mo pre = ks at *
    have HKS := Lib.hid hks
    clear hks
    cases hp : p u
    · rw [hp] at PC KD
      simp only [cond_false, List.append_nil] at KD
      clear hp
      gi_wp2_with (first | (refine ⟨trivial, ?_⟩; with_reducible refine (calls_wide l (callGr (PC.out _ (by (repeat (with_reducible first | exact Below.refl _ _ | (refine bl_set ?_ (by first | omega | (simp; done) | (simp; omega)) _) | refine bl_gr ?_ _ | refine bl_al ?_ _ | refine below_setRow ?_ (by first | omega | (simp; done) | (simp; omega)) _ | refine bl_drewN ?_ _ | refine Below.drew ?_ | (refine bl_tr ?_ (by assumption)))))))).mono ?_; rintro e w' ⟨pp, rfl, rfl⟩) | (refine ⟨trivial, ?_⟩))
      have hb := below_gr Y pp
      obtain ⟨q1, q2, q4, q5, q6, q7, qe⟩ := INV.out
      refine ⟨keeps_gr _ _ _, KpB.touch (F := fun _ => False) (Touch.of_below hb) (by omega) (fun _ h => h.elim) lE, ?_⟩
      dsimp only
      rw [KD.out]
      exact ⟨A9, n9, (hb.block _ (by omega)).trans q1, ownsRow_below q2 hb, ownsRow_below q4 hb, q5, q6.trans (hb.mono q6.size), Nat.le_trans q7 hb.size, (hb.block _ lE).trans qe⟩
    · rw [hp] at PC KD
      simp only [cond_true] at KD
      clear hp
      gi_upto_region 7 with (first | (refine ⟨trivial, ?_⟩; with_reducible refine (calls_wide l (callGr (PC.out _ (by (repeat (with_reducible first | exact Below.refl _ _ | (refine bl_set ?_ (by first | omega | (simp; done) | (simp; omega)) _) | refine bl_gr ?_ _ | refine bl_al ?_ _ | refine below_setRow ?_ (by first | omega | (simp; done) | (simp; omega)) _ | refine bl_drewN ?_ _ | refine Below.drew ?_ | (refine bl_tr ?_ (by assumption)))))))).mono ?_; rintro e w' ⟨pp, rfl, rfl⟩) | (refine ⟨trivial, ?_⟩))
      refine wpIn_world (fun Z => Below Y.heap.size Y Z) (below_gr Y pp) ?_
      intro Z hZ
      have BZ := Lib.hid hZ
      obtain ⟨u0, u1, u2⟩ := cells3 ((hZ.block _ l6).trans INV6.out)
      obtain ⟨v0, v1, v2⟩ := cells3 ((hZ.block _ l7).trans G4.out)
      obtain ⟨⟨_, _, _, _, _, d5⟩, _, _, _, _, _, f5⟩ := cells6 ((hZ.block _ l9).trans INV.out.1)
      have m9 : w3.heap.size < Z.heap.size := Nat.lt_of_lt_of_le l9 hZ.size
      have sZ := hZ.size
      clear hZ
      have TO := Lib.hid (show ∀ (Z1 : World) (g7 n7 : Nat) (w7 : World), Below Y.heap.size Y Z1 → OwnV w7 W.heap.size (.slice (some ⟨g7, 0, none⟩) (ks ++ [u, v]).length n7) (ks ++ [u, v]) → Touch (fun k => Value.ownBlock (.slice A9 ks.length n9) = some k) Z1 w7 → (Value.ownBlock (.slice A9 ks.length n9) = some g7 ∨ Z1.heap.size ≤ g7) →
          ∀ Y', Y' = w7.setCell ⟨w3.heap.size, 5, none⟩ (.slice (some ⟨g7, 0, none⟩) (ks ++ [u, v]).length n7) →
          KeepsFrom w4.heap.size Y Y' ∧ KpB W.heap.size X2.heap.size Y Y' ∧ ∃ A9 n9, Y'.heap[w3.heap.size]? = some (cellO c.k c.sh c.fl c.ag (.slice A5 c.sl.length n5) (.slice A9 (keptW p c.mo (pre ++ [x])).length n9)) ∧ OwnV Y' W.heap.size (.slice A9 (keptW p c.mo (pre ++ [x])).length n9) (keptW p c.mo (pre ++ [x])) ∧
            OwnV Y' W.heap.size (.slice A5 c.sl.length n5) c.sl ∧ (∀ b, Value.ownBlock (.slice A5 c.sl.length n5) = some b → Value.ownBlock (.slice A9 (keptW p c.mo (pre ++ [x])).length n9) ≠ some b) ∧
            Below W.heap.size W Y' ∧ w4.heap.size ≤ Y'.heap.size ∧ Y'.heap[X2.heap.size]? = some (cellO c.k c.sh c.fl c.ag (.slice A0 c.sl.length n0) (.slice A2 c.mo.length n2)) by
        rintro Z1 g7 n7 w7 hZ1 o7 t6 gg Y' rfl
        obtain ⟨q1, q2, q4, q5, q6, q7, qe⟩ := INV.out
        have t7 : Touch (fun k => Value.ownBlock (.slice A9 ks.length n9) = some k) Y w7 := (Touch.of_below hZ1).trans t6 (fun _ _ h => h)
        have k9 := (t7.block _ l9 (fun e => own_ne q2 e q1 (by decide) rfl)).trans q1
        have T8 : Touch (fun k => Value.ownBlock (.slice A9 ks.length n9) = some k ∨ k = w3.heap.size) Y (w7.setCell ⟨w3.heap.size, 5, none⟩ (.slice (some ⟨g7, 0, none⟩) (ks ++ [u, v]).length n7)) := Touch.set (p := ⟨w3.heap.size, 5, none⟩) (t7.mono (fun i _ h => .inl h)) (.inl (.inr rfl)) _
        have F1 : ∀ k, (Value.ownBlock (.slice A9 ks.length n9) = some k ∨ k = w3.heap.size) → W.heap.size ≤ k := fun k h => by
          rcases h with h | h
          · exact (q2.lt _ h).1
          · omega
        have n11 : ∀ k, (Value.ownBlock (.slice A9 ks.length n9) = some k ∨ k = w3.heap.size) → k ≠ X2.heap.size := fun k h => by
          rcases h with h | h
          · exact own_ne q2 h qe (by decide)
          · omega
        rw [KD.out]
        refine ⟨keeps_touch T8 (fun k hk => ?_), KpB.touch T8 (by omega) (fun k hk => ⟨F1 k hk, n11 k hk⟩) lE, some ⟨g7, 0, none⟩, n7, heap_setCell_same _ _ _ _ _ _ k9, ownsRow_touch o7 ((Touch.refl (fun b => b = w3.heap.size) w7).set1 5 _) (fun g hg e => own_ne o7 hg k9 (by decide) e), ownsRow_touch q4 T8 (fun g hg e => ?_), ?_, q6.trans (T8.below q6.size F1), Nat.le_trans q7 T8.size, (T8.block _ lE (fun e => n11 _ e rfl)).trans qe⟩
        · rcases hk with hk | rfl
          · exact owns_cells q2 hk
          · exact ⟨_, _, q1⟩
        · rcases e with e | e
          · exact q5 g hg e
          · exact own_ne q4 hg q1 (by decide) e
        · intro b hb1 hb2
          simp only [Value.ownBlock, Option.some.injEq] at hb2
          subst hb2
          rcases gg with h | h
          · exact q5 _ hb1 h
          · have := (q4.lt _ hb1).2; have := hZ1.size; omega)
      have fB := Lib.hid (show fitV (ks ++ [u, v]) by unfold fitV; rw [List.length_append]; simp; omega)
      have e8 := Lib.hid (show (ks ++ [u, v]).length = ks.length + 2 by simp)
      have sW := INV.out.2.2.2.2.1.size
      gi_wp2_with (gi_at_builtin; refine wpListIn_appW rfl W.heap.size _ _ rfl ks [u, v] (yv := .slice A9 ks.length n9) (sv := .slice (some ⟨Z.heap.size, 0, none⟩) 2 2) (by simp) rfl rfl ?_ ?_ ?_ fB.out ?_; (next => (rw [World.size_alloc]; omega)); (next => exact ownsRow_below INV.out.2.1 (bl_al BZ.out _)); (next => exact lit_valsB (l := [u, v]) rfl rfl rfl (by omega)); intro g7 n7 w7 o7 t7 gg; have k9 := (t7.block _ (by rw [World.size_alloc]; omega) (fun e => own_ne INV.out.2.1 e INV.out.1 (by decide) rfl)).trans (((bl_al BZ.out _).block _ l9).trans INV.out.1); obtain ⟨⟨_, _, _, _, _, s5⟩, _, _, _, _, _, s6⟩ := cells6 k9; have FIN := Lib.hid (TO.out _ g7 n7 w7 (bl_al BZ.out _) o7 t7 gg); clear o7 t7 gg k9)
      exact FIN.out _ (by rw [e8.out])
end Go.Proofs.Ytdikdkllbhanfaa
