/- Registries: Remove, walked. -/
import Derived.Test.YtokoigjcakgpdaaFinG
import Derived.Test.YtokoigjcakgpdaaFinM
namespace Go.Proofs.Ytokoigjcakgpdaa
set_option linter.all false
open Go.RowKit Go.Sort Go.Deep Go.Shelf
attribute [local go_sem] Oper.semAt_some

/-- what Remove keeps of entry k -/
def dropB (tk : Val) (mo : List Val) (k : Nat) : Bool := tk.k == 7 && (vAt mo (1 + 4 * k + 2)).eq tk
def remE (tk : Val) (mo : List Val) (k : Nat) : List Val := bif dropB tk mo k then [] else [vAt mo (1 + 4 * k), vAt mo (1 + 4 * k + 1), vAt mo (1 + 4 * k + 2), vAt mo (1 + 4 * k + 3)]
def remD (tk : Val) (mo : List Val) {m : Nat} (l : List (Fin m)) : List Val := [vAt mo 0] ++ l.flatMap fun x => remE tk mo x.val
def goneD (tk : Val) (mo : List Val) {m : Nat} (l : List (Fin m)) : Bool := l.any fun x => dropB tk mo x.val
theorem remD_snoc (tk : Val) (mo : List Val) {m : Nat} (l : List (Fin m)) (x : Fin m) : remD tk mo (l ++ [x]) = remD tk mo l ++ remE tk mo x.val := by simp [remD]
theorem goneD_snoc (tk : Val) (mo : List Val) {m : Nat} (l : List (Fin m)) (x : Fin m) : goneD tk mo (l ++ [x]) = (goneD tk mo l || dropB tk mo x.val) := by simp [goneD]
theorem remD_len (tk : Val) (mo : List Val) {m : Nat} (l : List (Fin m)) : (remD tk mo l).length ≤ 1 + 4 * l.length ∧ 1 ≤ (remD tk mo l).length := by
  have := flat_le (f := fun x : Fin m => remE tk mo x.val) (n := 4) (fun x => by unfold remE; cases dropB tk mo x.val <;> simp) l
  unfold remD
  simp only [List.length_append, List.length_cons, List.length_nil]
  omega
/-- an append as one operation of a round; the row is the call's own -/
theorem wpListIn_appW {F : Fence} {n : Nat} {ops : Array Oper} {rest : List Oper} {o : Oper} {a : Act} {w : World} {Q : Exit → Act → World → Prop} (hgd : o.guard = none) (lo : Nat) (s x : Operand)
    (hop : o.op = Op.call { callee := Callee.builtin Builtin.append, args := #[s, x], argTypes := #[22, 22] })
    (ys xs : List Val) (h0 : 0 < xs.length) {yv sv : Value} (hs : a.eval s = yv) (hx : a.eval x = sv) (hlo : lo ≤ w.heap.size) (hown : OwnV w lo yv ys) (hsv : IsV w sv xs) (hf : fitV (ys ++ xs))
    (hK : ∀ g n' w', OwnV w' lo (.slice (some ⟨g, 0, none⟩) (ys ++ xs).length n') (ys ++ xs) → Touch (fun k => yv.ownBlock = some k) w w' → (yv.ownBlock = some g ∨ w.heap.size ≤ g) → wpListIn F n Try.prog ops Q rest (a.put o.dst (.slice (some ⟨g, 0, none⟩) (ys ++ xs).length n')) w') : wpListIn F n Try.prog ops Q (o :: rest) a w := by
  refine wpListIn_plain hgd fun K hK' => ?_
  obtain ⟨i, hi, hz, hsz, hby⟩ := val_info
  have hle := hf.le
  unfold fitV at hf
  rw [List.length_append] at hle hf
  obtain ⟨ad, c, rfl, hsrc⟩ := hsv.src cs_len h0
  have hlen := flat_len cs_len xs
  obtain ⟨g, cap, w', hr, h2, h3, h4, _⟩ := run_append_lies (P := Try.prog) (w := w) 22 o.type lo 34 i (.agg zval) 3 32 Try.underlying22 hi hz hsz hby rfl (by omega) yv ys.length (flat Val.cs ys) hown ad xs.length c (flat Val.cs xs) hlen hsrc one_cs h0 (by unfold maxLen; omega) (by omega) hlo w.heap.size rfl
  have hb : Touch (fun k => yv.ownBlock = some k) w w' := ⟨h3.os, h3.tape, h3.output, h3.size, fun k hk hn => h3.block k hk fun e => hn e.symm⟩
  have h5 : OwnV w' lo (.slice (some ⟨g, 0, none⟩) (ys ++ xs).length cap) (ys ++ xs) := by
    have e : flat Val.cs (ys ++ xs) = flat Val.cs ys ++ flat Val.cs xs := by unfold flat; rw [List.flatMap_append]
    unfold OwnV
    rw [e, List.length_append]
    exact h2
  unfold Oper.wpIn
  refine ⟨?_, ?_⟩
  · simp [Oper.about, hop, resolve, Target.leads, Sem.run_pure]
  · rw [Oper.semAt_plain F _ _ (by rw [hop]; intro c hc'; cases hc')]
    simp [execOp, hop, resolve, invoke, builtin, hs, hx, hr, Result.andThen]
    have := hK' _ _ (hK g cap w' h5 hb (h4.imp id (fun e => Nat.le_of_eq e.symm)))
    rw [List.length_append] at this
    exact this
theorem heap3 (w : World) (a b c : Obj) : (((w.alloc a).alloc b).alloc c).heap[w.heap.size]? = some a ∧ (((w.alloc a).alloc b).alloc c).heap[w.heap.size + 1]? = some b ∧ (((w.alloc a).alloc b).alloc c).heap[w.heap.size + 1 + 1]? = some c ∧ Below w.heap.size w (((w.alloc a).alloc b).alloc c) :=
  ⟨hq_0 w a b c, hq_1 w a b c, hq_2 w a b c, bl_al (bl_al (bl_al (Below.refl _ _) _) _) _⟩
/-- four values in a row out of a list in memory -/
theorem isV_four {w : World} {b off cap q : Nat} {l : List Val} (h : IsV w (.slice (some ⟨b, off, none⟩) l.length cap) l) (hq : q + 4 ≤ l.length) : IsV w (.slice (some ⟨b, off + q * 3, none⟩) 4 4) [vAt l q, vAt l (q + 1), vAt l (q + 2), vAt l (q + 3)] := by
  refine ⟨by unfold maxLen; simp, some ⟨b, off + q * 3, none⟩, 4, by simp, by simp, fun _ => ⟨b, off + q * 3, rfl, (h.v3 q (by omega)).1, ?_⟩⟩
  intro i x hi j u hj
  have hil : i < 4 := by have := (List.getElem?_eq_some_iff.1 hi).1; simpa using this
  have hx : x = vAt l (q + i) := by
    rcases (show i = 0 ∨ i = 1 ∨ i = 2 ∨ i = 3 by omega) with rfl | rfl | rfl | rfl <;> simp at hi <;> exact hi.symm
  subst hx
  obtain ⟨_, e0, e1, e2⟩ := h.v3 (q + i) (by omega)
  have e : off + q * 3 + i * 3 = off + (q + i) * 3 := by rw [Nat.add_mul]; omega
  rw [e]
  rcases j with _ | _ | _ | j
  · cases hj; exact e0
  · cases hj; exact e1
  · cases hj; exact e2
  · simp [Val.cs] at hj

set_option maxRecDepth 100000 in
set_option maxHeartbeats 8000000 in
theorem rem_yes (sv mv : Value) (c : CellD) (tk : Val) (hc : c.ok) (hf : c.fit) (m : Nat) (hm : c.mo.length = 1 + 4 * m) (hm2 : m ≤ 1000) (w : World) (h1 : IsV w sv c.sl) (h2 : IsV w mv c.mo) (hb : isB c = true) :
    Calls Try.prog 21 #[cellV c.k c.sh c.fl c.ag sv mv, tk.agg] w fun e w' => ∃ s mm, e = .returned (.tuple #[cellV c.k c.sh c.fl c.ag s mm, .bool (goneD tk c.mo (List.finRange m))]) ∧ IsV w' s c.sl ∧ IsV w' mm (remD tk c.mo (List.finRange m)) ∧ Below w.heap.size w w' := by
  obtain ⟨A0, n0, rfl, _, _⟩ := h1.form
  obtain ⟨A2, n2, rfl, hc2, _⟩ := h2.form
  obtain ⟨b, off, rfl⟩ := isV_addr h2 (by omega)
  have H1 := Lib.hid h1
  have H2 := Lib.hid h2
  have F := Lib.hid hf
  have OK := Lib.hid hc
  have IS := Lib.hid (fun W a b => by have := is_any _ _ c hc W a b; rw [hb] at this; exact this : ∀ (W : World), IsV W (.slice A0 c.sl.length n0) c.sl → IsV W (.slice (some ⟨b, off, none⟩) c.mo.length n2) c.mo → Calls Try.prog 25 #[cellV c.k c.sh c.fl c.ag (.slice A0 c.sl.length n0) (.slice (some ⟨b, off, none⟩) c.mo.length n2)] W fun e w' => e = .returned (.bool true) ∧ Below W.heap.size W w')
  have HM := Lib.hid hm
  have hml : c.mo.length ≤ 4001 := by omega
  clear h1 h2 hf hc hb hm
  refine callsIn_wide.1 (callsIn_of_wp_marks (n := 9) Try.func21 rfl trivial ?_ rfl)
  refine wpIn_wide.2 ?_
  simp only [Try.ntmps21, List.size_toArray, List.length_cons, List.length_nil, Nat.reduceAdd, Nat.reduceSub, Array.replicate_succ, Array.replicate_zero, List.push_toArray, List.append_toArray, List.nil_append, List.cons_append]
  go_upto_region 1 with fail
  refine wp_world (fun W => W.heap[w.heap.size]? = some (cellO c.k c.sh c.fl c.ag (.slice A0 c.sl.length n0) (.slice (some ⟨b, off, none⟩) c.mo.length n2)) ∧ W.heap[w.heap.size + 1]? = some (valB tk) ∧ W.heap[w.heap.size + 1 + 1]? = some (cellO 0 0 0 0 (.slice none 0 0) (.slice none 0 0)) ∧ Below w.heap.size w W) (heap3 w _ _ _) ?_
  rintro W ⟨j1, j2, j3, jb⟩
  have l0 : w.heap.size < W.heap.size := (Array.getElem?_eq_some_iff.1 j1).1
  have l1 : w.heap.size + 1 < W.heap.size := (Array.getElem?_eq_some_iff.1 j2).1
  have l2 : w.heap.size + 1 + 1 < W.heap.size := (Array.getElem?_eq_some_iff.1 j3).1
  have KK := Lib.hid (show ∀ X, Below W.heap.size W X → X.heap[w.heap.size]? = some (cellO c.k c.sh c.fl c.ag (.slice A0 c.sl.length n0) (.slice (some ⟨b, off, none⟩) c.mo.length n2)) ∧ X.heap[w.heap.size + 1]? = some (valB tk) ∧ X.heap[w.heap.size + 1 + 1]? = some (cellO 0 0 0 0 (.slice none 0 0) (.slice none 0 0)) from fun X h => ⟨(h.block _ l0).trans j1, (h.block _ l1).trans j2, (h.block _ l2).trans j3⟩)
  have BW := Lib.hid jb
  have I1 := Lib.hid (H1.out.below jb)
  have I2 := Lib.hid (H2.out.below jb)
  obtain ⟨⟨a0, a1, a2, a3, a4, a5⟩, _⟩ := cells6 j1
  clear j1 j2 j3 jb H1 H2
  go_upto_region 5 with (first
    | (go_at_call 25; refine (callGr (IS.out _ (I1.out.below (by (repeat (with_reducible first | exact Below.refl _ _ | (refine bl_set ?_ (by first | omega | (simp; done) | (simp; omega)) _) | refine bl_gr ?_ _ | refine bl_al ?_ _ | refine below_setRow ?_ (by first | omega | (simp; done) | (simp; omega)) _ | refine bl_drewN ?_ _ | refine Below.drew ?_ | (refine bl_tr ?_ (by assumption)))))) (I2.out.below (by (repeat (with_reducible first | exact Below.refl _ _ | (refine bl_set ?_ (by first | omega | (simp; done) | (simp; omega)) _) | refine bl_gr ?_ _ | refine bl_al ?_ _ | refine below_setRow ?_ (by first | omega | (simp; done) | (simp; omega)) _ | refine bl_drewN ?_ _ | refine Below.drew ?_ | (refine bl_tr ?_ (by assumption)))))))).mono ?_; rintro e w' ⟨pp, rfl, rfl⟩)
    | (go_at_call 26; refine (bare_any _ _ c _ (I1.out.below (by (repeat (with_reducible first | exact Below.refl _ _ | (refine bl_set ?_ (by first | omega | (simp; done) | (simp; omega)) _) | refine bl_gr ?_ _ | refine bl_al ?_ _ | refine below_setRow ?_ (by first | omega | (simp; done) | (simp; omega)) _ | refine bl_drewN ?_ _ | refine Below.drew ?_ | (refine bl_tr ?_ (by assumption)))))) (I2.out.below (by (repeat (with_reducible first | exact Below.refl _ _ | (refine bl_set ?_ (by first | omega | (simp; done) | (simp; omega)) _) | refine bl_gr ?_ _ | refine bl_al ?_ _ | refine below_setRow ?_ (by first | omega | (simp; done) | (simp; omega)) _ | refine bl_drewN ?_ _ | refine Below.drew ?_ | (refine bl_tr ?_ (by assumption)))))) F.out (by have := HM.out; omega)).mono ?_; rintro e w3 ⟨A5, n5, g, rfl, o1, o2, od, hb⟩; have OO := Lib.hid (And.intro o1 (And.intro o2 (And.intro od (bl_tr (show Below W.heap.size W _ by (repeat (with_reducible first | exact Below.refl _ _ | (refine bl_set ?_ (by first | omega | (simp; done) | (simp; omega)) _) | refine bl_gr ?_ _ | refine bl_al ?_ _ | refine below_setRow ?_ (by first | omega | (simp; done) | (simp; omega)) _ | refine bl_drewN ?_ _ | refine Below.drew ?_ | (refine bl_tr ?_ (by assumption))))) hb)))); obtain ⟨⟨d0, d1, d2, d3, d4, d5⟩, _⟩ := cells6 (KK.out w3 OO.out.2.2.2).1; have l3 : w.heap.size < w3.heap.size := Nat.lt_of_lt_of_le l0 OO.out.2.2.2.size; have S3 := Lib.hid hb.size; clear o1 o2 od hb)
    | (go_at_call 27; refine (entries_any _ _ _ _ _ _ _ _ _ _ _).mono ?_; rintro e w4 ⟨rfl, hw4⟩; have W4 := Lib.hid hw4; clear hw4))
  have hsz : w4.heap.size = w3.heap.size + 3 := by rw [W4.out]; simp
  have q9 : w4.heap[w3.heap.size]? = some (cellO c.k c.sh c.fl c.ag (.slice A5 c.sl.length n5) (.slice (some ⟨g, 0, none⟩) 1 1)) := by rw [W4.out]; exact hq_0 _ _ _ _
  have q10 : w4.heap[w3.heap.size + 1]? = some (.cells #[.bool false] 4) := by rw [W4.out]; exact hq_1 _ _ _ _
  have qE : w4.heap[w3.heap.size + 1 + 1]? = some (cellO c.k c.sh c.fl c.ag (.slice A0 c.sl.length n0) (.slice (some ⟨b, off, none⟩) c.mo.length n2)) := by rw [W4.out]; exact hq_2 _ _ _ _
  have hb34 : Below w3.heap.size w3 w4 := by rw [W4.out]; exact bl_al (bl_al (bl_al (Below.refl _ _) _) _) _
  have hbr : Below W.heap.size W w4 := bl_tr OO.out.2.2.2 hb34
  have s3 := OO.out.2.2.2.size
  have sG : W.heap.size ≤ (gr W pp).heap.size := (below_gr W pp).size
  have oA := ownsRow_low (ownsRow_below OO.out.1 hb34) sG
  have oG := ownsRow_low (ownsRow_below OO.out.2.1 hb34) sG
  have odG := OO.out.2.2.1
  have QQ := Lib.hid (And.intro q9 (And.intro q10 (And.intro qE (And.intro hbr (And.intro oA (And.intro oG odG))))))
  have hs1 := Nat.le_of_eq hsz
  have hs2 := Nat.le_of_eq hsz.symm
  clear W4 q9 q10 hb34 oA oG odG OO a0 a1 a2 a3 a4 a5 d0 d1 d2 d3 d4 d5 hsz sG
  refine (wpIn_wide (n := 9)).1 ?_
  refine wpIn_rangeFunc_ownH rfl (by omega) (gf := 40) (lb := #[.pointer (some ⟨w3.heap.size + 1 + 1, 0, none⟩)]) rfl trivial (enters_of Try.func40 (by kernel_rfl) rfl)
    (entries_stops m b off n2 c.k c.sh c.fl c.ag (.slice A0 c.sl.length n0) (by rw [← HM.out]; exact hc2) (by omega) _ W w4 hbr (by rw [← HM.out]; exact qE)) KpB.trans (KpB.put (by omega) (by omega)) (Below.refl _ _) (fun _ => rfl)
    (fun pre Y => ∃ A9 n9, Y.heap[w3.heap.size]? = some (cellO c.k c.sh c.fl c.ag (.slice A5 c.sl.length n5) (.slice A9 (remD tk c.mo pre).length n9)) ∧ OwnV Y W.heap.size (.slice A9 (remD tk c.mo pre).length n9) (remD tk c.mo pre) ∧
      Y.heap[w3.heap.size + 1]? = some (.cells #[.bool (goneD tk c.mo pre)] 4) ∧ OwnV Y W.heap.size (.slice A5 c.sl.length n5) c.sl ∧ (∀ b, Value.ownBlock (.slice A5 c.sl.length n5) = some b → Value.ownBlock (.slice A9 (remD tk c.mo pre).length n9) ≠ some b) ∧
      Below W.heap.size W Y ∧ w4.heap.size ≤ Y.heap.size ∧ Y.heap[w3.heap.size + 1 + 1]? = some (cellO c.k c.sh c.fl c.ag (.slice A0 c.sl.length n0) (.slice (some ⟨b, off, none⟩) c.mo.length n2)))
    (fun _ _ _ => False)
    (ownFrom_of fun s Y Y' ⟨A9, n9, q1, q2, q3, q4, q5, q6, q7, qe⟩ hs => ⟨A9, n9, hs.heap q1, hs.owns q2, hs.heap q3, hs.owns q4, q5, hs.below (by omega) q6 (Nat.le_refl _), Nat.le_trans q7 hs.size, hs.heap qe⟩)
    (fun _ => ownFrom_of fun _ _ _ h _ => h)
    ⟨some ⟨g, 0, none⟩, 1, QQ.out.1, QQ.out.2.2.2.2.2.1, QQ.out.2.1, QQ.out.2.2.2.2.1, (fun b e h => (by simp [Value.ownBlock] at h; exact QQ.out.2.2.2.2.2.2 b e h.symm)), hbr, Nat.le_refl _, QQ.out.2.2.1⟩
    (fun x a' _ => a' = { tmps := #[cellV c.k c.sh c.fl c.ag (.slice A0 c.sl.length n0) (.slice (some ⟨b, off, none⟩) c.mo.length n2), tk.agg, .pointer (some ⟨w.heap.size, 0, none⟩), .pointer (some ⟨w.heap.size + 1, 0, none⟩), .pointer (some ⟨w.heap.size + 1 + 1, 0, none⟩), .bool false, .pointer (some ⟨w3.heap.size, 0, none⟩), .pointer (some ⟨w3.heap.size + 1, 0, none⟩), undef, .slice (some ⟨b, off + (1 + 4 * x.val) * 3, none⟩) 4 4, cellV c.k c.sh c.fl c.ag (.slice A0 c.sl.length n0) (.slice (some ⟨b, off, none⟩) c.mo.length n2), .bool true, .bool false, undef, cellV c.k c.sh c.fl c.ag (.slice A0 c.sl.length n0) (.slice (some ⟨b, off, none⟩) c.mo.length n2), cellV c.k c.sh c.fl c.ag (.slice A5 c.sl.length n5) (.slice (some ⟨g, 0, none⟩) 1 1), cellV c.k c.sh c.fl c.ag (.slice A0 c.sl.length n0) (.slice (some ⟨b, off, none⟩) c.mo.length n2), .func (.func 40) #[] #[.pointer (some ⟨w3.heap.size + 1 + 1, 0, none⟩)], .int .i64 ((1 + 4 * x.val : Nat) : Int), .slice (some ⟨b, off + (1 + 4 * x.val) * 3, none⟩) 4 4, undef, undef, undef, undef, undef, undef, undef, undef, undef, undef, undef, undef, undef, undef, undef, undef, undef], defers := [] })
    (fun x a' => ownFrom_of fun _ W W' h _ => h) ?assign ?body ?done ?stop
  case assign =>
    rintro l pre x Y K hJ hK
    gi_wp2
    exact hK _ _ (KeepsFrom.refl _ _) (KpB.refl _ _ _) hJ rfl
  case stop =>
    rintro D c pre W _ _ h _
    exact h.elim
  case done =>
    rintro D ys Y hD rfl ⟨A9, n9, q1, q2, q3, q4, q5, q6, q7, qe⟩ hK
    have k4 := (KK.out Y q6).2.2
    have lB := q6.size
    obtain ⟨⟨d0, d1, d2, d3, d4, d5⟩, _⟩ := cells6 q1
    obtain ⟨z0, _⟩ := cells1 q3
    obtain ⟨⟨x0, x1, x2, x3, x4, x5⟩, y0, y1, y2, y3, y4, y5⟩ := cells6 k4
    have BY := Lib.hid (And.intro (BW.out.trans (q6.mono BW.out.size)) (And.intro k4 (And.intro q1 (And.intro q2 (And.intro q3 q4)))))
    have HD := Lib.hid (And.intro (And.intro hD hK) q7)
    clear q1 q2 q3 q4 q5 q6 q7 qe k4 hD hK
    go_upto_region 9 with fail
    go_region
    all_goals go_simp
    all_goals go_wp2
    all_goals
      refine post_world (fun W6 => W6.heap[w.heap.size + 1 + 1]? = some (cellO c.k c.sh c.fl c.ag (.slice A5 c.sl.length n5) (.slice A9 (remD tk c.mo (List.finRange m)).length n9)) ∧ Touch (fun b => b = w.heap.size + 1 + 1) Y W6)
        ?_ ?_
      · have hk := BY.out.2.1
        clear d0 d1 d2 d3 d4 d5 x0 x1 x2 x3 x4 x5 y0 y1 y2 y3 y4 y5
        refine ⟨?_, Touch.drew ((((((Touch.refl _ _).set1 _ _).set1 _ _).set1 _ _).set1 _ _).set1 _ _ |>.set1 _ _)⟩
        rw [show ∀ X : World, X.drew.heap = X.heap from fun _ => rfl]
        exact heap_setCell_same _ _ _ _ _ _ (heap_setCell_same _ _ _ _ _ _ (heap_setCell_same _ _ _ _ _ _ (heap_setCell_same _ _ _ _ _ _ (heap_setCell_same _ _ _ _ _ _ (heap_setCell_same _ _ _ _ _ _ hk)))))
      rintro W6 ⟨r1, rt⟩
      have nD : D ≠ w.heap.size + 1 + 1 := fun e => by have := HD.out.1.2; rw [e, BY.out.2.1] at this; cases this
      have lD := (Array.getElem?_eq_some_iff.1 HD.out.1.2).1
      have rD := (rt.block D lD nD).trans HD.out.1.2
      have r1' : (W6.putObj D (.deferred none)).heap[w.heap.size + 1 + 1]? = some (cellO c.k c.sh c.fl c.ag (.slice A5 c.sl.length n5) (.slice A9 (remD tk c.mo (List.finRange m)).length n9)) := (heap_put _ (Ne.symm nD)).trans r1
      have pD : ∀ {v : Value} {xs : List Val}, OwnV Y W.heap.size v xs → IsV (W6.putObj D (.deferred none)) v xs := by
        intro v xs h
        refine OwnV.isV (lo := W.heap.size) (ownsRow_touch (F := fun b => b = D) (ownsRow_touch h rt (fun g hg e => ?_)) (Touch.put _ _ _) (fun g hg e => ?_))
        · exact own_ne h hg BY.out.2.1 (by decide) e
        · obtain ⟨cs, t, hh⟩ := owns_cells h hg
          rw [e, HD.out.1.2] at hh
          cases hh
      have f1 := pD BY.out.2.2.2.1
      have f3 := pD BY.out.2.2.2.2.2
      have f4 : Below w.heap.size w (W6.putObj D (.deferred none)) := below_put (BY.out.1.trans (rt.below BY.out.1.size (fun k e => by omega))) (by have := HD.out.1.1; omega) _
      have FF := Lib.hid (And.intro f3 (And.intro f1 f4))
      clear f1 f3 f4 pD
      obtain ⟨⟨e0, e1, e2, e3, e4, e5⟩, _⟩ := cells6 r1'
      refine marks_ret1 rD (v := .tuple #[cellV c.k c.sh c.fl c.ag (.slice A5 c.sl.length n5) (.slice A9 (remD tk c.mo (List.finRange m)).length n9), .bool (goneD tk c.mo (List.finRange m))]) ?_ rfl ⟨_, _, rfl, FF.out.1, FF.out.2.1, FF.out.2.2⟩
      clear r1 rt rD r1' nD lD
      simp [results, Try.results21, go_sem, *]
  case body =>
    rintro l pre x a' Y hl hr ⟨A9, n9, q1, q2, q3, q4, q5, q6, q7, qe⟩ rfl hlt
    have hx := x.isLt
    have lB := q6.size
    have hmo := HM.out
    have k3 := (KK.out Y q6).2.1
    have HV := I2.out.below q6
    obtain ⟨t0, t1, t2⟩ := cells3 k3
    have lT := (Array.getElem?_eq_some_iff.1 k3).1
    obtain ⟨hb, c20, c21, c22⟩ := HV.v3 (1 + 4 * x.val + 2) (by omega)
    rw [Nat.add_mul (1 + 4 * x.val), ← Nat.add_assoc] at c20 c21 c22
    simp only [Nat.reduceMul] at c20 c21 c22
    have I4 := Lib.hid (isV_four (q := 1 + 4 * x.val) HV (by omega))
    obtain ⟨z0, z1⟩ := cells1 q3
    obtain ⟨⟨_, _, _, _, _, d5⟩, _, _, _, _, _, f5⟩ := cells6 q1
    have l9 : w3.heap.size < Y.heap.size := by omega
    have l10 : w3.heap.size + 1 < Y.heap.size := by omega
    have KD := Lib.hid (remD_snoc tk c.mo pre x)
    have GD := Lib.hid (goneD_snoc tk c.mo pre x)
    have KL := (remD_len tk c.mo pre).1
    have INV := Lib.hid (And.intro q1 (And.intro q2 (And.intro q3 (And.intro q4 (And.intro q5 (And.intro q6 (And.intro q7 qe)))))))
    clear q1 q2 q3 q4 q5 q6 q7 qe k3 HV hl hr
    unfold remE dropB at KD
    unfold dropB at GD
    generalize hq : 1 + 4 * x.val = q at *
    generalize vAt c.mo q = x0 at *
    generalize vAt c.mo (q + 1) = x1 at *
    generalize vAt c.mo (q + 2) = x2 at *
    generalize vAt c.mo (q + 3) = x3 at *
    have q6 : q ≤ 4001 := by omega
    have hpre : pre.length ≤ 1000 := by omega
    clear hq hmo hx
    generalize hks : remD tk c.mo pre = ks at *
    have HKS := Lib.hid hks
    clear hks
    gi_upto_region 6 with fail
    have kp : (tk.k == 7 && x2.eq tk) = true ∨ ((tk.k == 7) = false) ∨ ((tk.k == 7) = true ∧ x2.eq tk = false) := by
      cases tk.k == 7 <;> cases x2.eq tk <;> simp
    rcases kp with kp | kp
    · obtain ⟨e7, e2⟩ : (tk.k == 7) = true ∧ x2.eq tk = true := by simpa using kp
      rw [kp] at KD GD
      simp only [cond_true, List.append_nil, Bool.or_true] at KD GD
      have TO := Lib.hid (show ∀ Y', Touch (fun k => k = w3.heap.size + 1) Y Y' → Y'.heap[w3.heap.size + 1]? = some (.cells #[.bool true] 4) →
          KeepsFrom w4.heap.size Y Y' ∧ KpB W.heap.size (w3.heap.size + 1 + 1) Y Y' ∧ ∃ A9 n9, Y'.heap[w3.heap.size]? = some (cellO c.k c.sh c.fl c.ag (.slice A5 c.sl.length n5) (.slice A9 (remD tk c.mo (pre ++ [x])).length n9)) ∧ OwnV Y' W.heap.size (.slice A9 (remD tk c.mo (pre ++ [x])).length n9) (remD tk c.mo (pre ++ [x])) ∧
            Y'.heap[w3.heap.size + 1]? = some (.cells #[.bool (goneD tk c.mo (pre ++ [x]))] 4) ∧ OwnV Y' W.heap.size (.slice A5 c.sl.length n5) c.sl ∧ (∀ b, Value.ownBlock (.slice A5 c.sl.length n5) = some b → Value.ownBlock (.slice A9 (remD tk c.mo (pre ++ [x])).length n9) ≠ some b) ∧
            Below W.heap.size W Y' ∧ w4.heap.size ≤ Y'.heap.size ∧ Y'.heap[w3.heap.size + 1 + 1]? = some (cellO c.k c.sh c.fl c.ag (.slice A0 c.sl.length n0) (.slice (some ⟨b, off, none⟩) c.mo.length n2)) by
        intro Y' T h10
        obtain ⟨q1, q2, q3, q4, q5, q6, q7, qe⟩ := INV.out
        rw [KD.out, GD.out]
        refine ⟨keeps_touch T (fun k hk => by subst hk; exact ⟨_, _, q3⟩), KpB.touch T (by have := q6.size; omega) (fun k hk => by omega) (by omega), A9, n9, (T.block _ l9 (by omega)).trans q1, ownsRow_touch q2 T (fun g hg e => own_ne q2 hg q3 (by decide) e), h10, ownsRow_touch q4 T (fun g hg e => own_ne q4 hg q3 (by decide) e), q5, q6.trans (T.below q6.size (fun k hk => by omega)), Nat.le_trans q7 T.size, (T.block _ (by omega) (by omega)).trans qe⟩)
      have E2 := Lib.hid e2
      have q3' := Lib.hid INV.out.2.2.1
      have e2' : (Val.mk x2.k x2.n x2.s).eq ⟨tk.k, tk.n, tk.s⟩ = true := e2
      clear kp
      (refine wpIn_region_held (fun Z : World => Z.cell? ⟨w.heap.size + 1, 0, none⟩ = some (.int .i64 tk.k) ∧ Z.cell? ⟨w.heap.size + 1, 1, none⟩ = some (.int .i64 tk.n) ∧ Z.cell? ⟨w.heap.size + 1, 2, none⟩ = some (.string tk.s) ∧ Z.cell? ⟨b, off + q * 3 + 6, none⟩ = some (.int .i64 x2.k) ∧ Z.cell? ⟨b, off + q * 3 + 6 + 1, none⟩ = some (.int .i64 x2.n) ∧ Z.cell? ⟨b, off + q * 3 + 6 + 2, none⟩ = some (.string x2.s)) _ Try.mixed (by simp) (by exact ⟨t0, t1, t2, c20, c21, c22⟩) (fun hS => ?_) (fun _ _ h => h); (refine wpAnyH_take (i := 0) (v := ?_) rfl (by kernel_rfl) (by kernel_rfl) (by kernel_rfl) (fun _ _ _ h => (by cases h.1)) ?_ (by assumption) ?_; rotate_left; (next => (refine Or.inl ⟨by kernel_rfl, ?_⟩; ((intro w hSw; (try dsimp only at hSw); go_simp) <;> with_reducible rfl))); (try simp only [Act.put, List.setIfInBounds_toArray, List.set_cons_zero, List.set_cons_succ])); (refine wpAnyH_take (i := 1) (v := ?_) rfl (by kernel_rfl) (by kernel_rfl) (by kernel_rfl) (fun _ _ _ h => (by cases h.1)) ?_ (by assumption) ?_; rotate_left; (next => (refine Or.inl ⟨by kernel_rfl, ?_⟩; ((intro w hSw; (try dsimp only at hSw); go_simp) <;> with_reducible rfl))); (try simp only [Act.put, List.setIfInBounds_toArray, List.set_cons_zero, List.set_cons_succ])); (refine wpAnyH_take (i := 2) (v := ?_) rfl (by kernel_rfl) (by kernel_rfl) (by kernel_rfl) (fun _ _ _ h => (by cases h.1)) ?_ (by assumption) ?_; rotate_left; (next => (refine Or.inl ⟨by kernel_rfl, ?_⟩; ((intro w hSw; (try dsimp only at hSw); go_simp) <;> with_reducible rfl))); (try simp only [Act.put, List.setIfInBounds_toArray, List.set_cons_zero, List.set_cons_succ])); (refine wpAnyH_take (i := 3) (v := ?_) rfl (by kernel_rfl) (by kernel_rfl) (by kernel_rfl) (fun _ _ _ h => (by cases h.1)) ?_ (by assumption) ?_; rotate_left; (next => (refine Or.inl ⟨by kernel_rfl, ?_⟩; ((intro w hSw; (try dsimp only at hSw); go_simp) <;> with_reducible rfl))); (try simp only [Act.put, List.setIfInBounds_toArray, List.set_cons_zero, List.set_cons_succ])); (refine wpAnyH_take (i := 4) (v := ?_) rfl (by kernel_rfl) (by kernel_rfl) (by kernel_rfl) (fun _ _ _ h => (by cases h.1)) ?_ (by assumption) ?_; rotate_left; (next => (refine Or.inl ⟨by kernel_rfl, ?_⟩; ((intro w hSw; (try dsimp only at hSw); go_simp) <;> with_reducible rfl))); (try simp only [Act.put, List.setIfInBounds_toArray, List.set_cons_zero, List.set_cons_succ])); (refine wpAnyH_take (i := 5) (v := ?_) rfl (by kernel_rfl) (by kernel_rfl) (by kernel_rfl) (fun _ _ _ h => (by cases h.1)) ?_ (by assumption) ?_; rotate_left; (next => (refine Or.inl ⟨by kernel_rfl, ?_⟩; ((intro w hSw; (try dsimp only at hSw); go_simp) <;> with_reducible rfl))); (try simp only [Act.put, List.setIfInBounds_toArray, List.set_cons_zero, List.set_cons_succ])); (refine wpAnyH_take (i := 6) (v := ?_) rfl (by kernel_rfl) (by kernel_rfl) (by kernel_rfl) (fun _ _ _ h => (by cases h.1)) ?_ (by assumption) ?_; rotate_left; (next => (refine Or.inl ⟨by kernel_rfl, ?_⟩; ((intro w hSw; (try dsimp only at hSw); go_simp) <;> with_reducible rfl))); (try simp only [Act.put, List.setIfInBounds_toArray, List.set_cons_zero, List.set_cons_succ])); (refine wpAnyH_take (i := 7) (v := ?_) rfl (by kernel_rfl) (by kernel_rfl) (by kernel_rfl) (fun _ _ _ h => (by cases h.1)) ?_ (by assumption) ?_; rotate_left; (next => (refine Or.inl ⟨by kernel_rfl, ?_⟩; ((intro w hSw; (try dsimp only at hSw); go_simp) <;> with_reducible rfl))); (try simp only [Act.put, List.setIfInBounds_toArray, List.set_cons_zero, List.set_cons_succ])); (refine wpAnyH_take (i := 8) (v := ?_) rfl (by kernel_rfl) (by kernel_rfl) (by kernel_rfl) (fun _ _ _ h => (by cases h.1)) ?_ (by assumption) ?_; rotate_left; (next => (refine Or.inl ⟨by kernel_rfl, ?_⟩; ((intro w hSw; (try dsimp only at hSw); go_simp) <;> with_reducible rfl))); (try simp only [Act.put, List.setIfInBounds_toArray, List.set_cons_zero, List.set_cons_succ])); (refine wpAnyH_take (i := 9) (v := ?_) rfl (by kernel_rfl) (by kernel_rfl) (by kernel_rfl) (fun _ _ _ h => (by cases h.1)) ?_ (by assumption) ?_; rotate_left; (next => (refine Or.inl ⟨by kernel_rfl, ?_⟩; ((intro w hSw; (try dsimp only at hSw); go_simp) <;> with_reducible rfl))); (try simp only [Act.put, List.setIfInBounds_toArray, List.set_cons_zero, List.set_cons_succ])); refine wpAnyH_done (by kernel_rfl) ⟨rfl, ?_⟩ _)
      go_simp
      gi_wp2
      refine TO.out _ ?_ ?_
      · first | exact ((Touch.refl _ _).drew).set1 _ _ | exact ((Touch.refl _ _).set1 _ _).drew
      · exact heap_setCell_same _ _ _ _ _ _ q3'.out
    · have hB : (tk.k == 7 && x2.eq tk) = false := by rcases kp with e | ⟨e, e'⟩ <;> simp [*]
      rw [hB] at KD GD
      simp only [cond_false, Bool.or_false] at KD GD
      have TO := Lib.hid (show ∀ (g7 n7 : Nat) (w7 : World), OwnV w7 W.heap.size (.slice (some ⟨g7, 0, none⟩) (ks ++ [x0, x1, x2, x3]).length n7) (ks ++ [x0, x1, x2, x3]) → Touch (fun k => Value.ownBlock (.slice A9 ks.length n9) = some k) Y w7 → (Value.ownBlock (.slice A9 ks.length n9) = some g7 ∨ Y.heap.size ≤ g7) →
          ∀ Y', Y' = w7.setCell ⟨w3.heap.size, 5, none⟩ (.slice (some ⟨g7, 0, none⟩) (ks ++ [x0, x1, x2, x3]).length n7) →
          KeepsFrom w4.heap.size Y Y' ∧ KpB W.heap.size (w3.heap.size + 1 + 1) Y Y' ∧ ∃ A9 n9, Y'.heap[w3.heap.size]? = some (cellO c.k c.sh c.fl c.ag (.slice A5 c.sl.length n5) (.slice A9 (remD tk c.mo (pre ++ [x])).length n9)) ∧ OwnV Y' W.heap.size (.slice A9 (remD tk c.mo (pre ++ [x])).length n9) (remD tk c.mo (pre ++ [x])) ∧
            Y'.heap[w3.heap.size + 1]? = some (.cells #[.bool (goneD tk c.mo (pre ++ [x]))] 4) ∧ OwnV Y' W.heap.size (.slice A5 c.sl.length n5) c.sl ∧ (∀ b, Value.ownBlock (.slice A5 c.sl.length n5) = some b → Value.ownBlock (.slice A9 (remD tk c.mo (pre ++ [x])).length n9) ≠ some b) ∧
            Below W.heap.size W Y' ∧ w4.heap.size ≤ Y'.heap.size ∧ Y'.heap[w3.heap.size + 1 + 1]? = some (cellO c.k c.sh c.fl c.ag (.slice A0 c.sl.length n0) (.slice (some ⟨b, off, none⟩) c.mo.length n2)) by
        rintro g7 n7 w7 o7 t7 gg Y' rfl
        obtain ⟨q1, q2, q3, q4, q5, q6, q7, qe⟩ := INV.out
        have k9 := (t7.block _ l9 (fun e => own_ne q2 e q1 (by decide) rfl)).trans q1
        have T8 : Touch (fun k => Value.ownBlock (.slice A9 ks.length n9) = some k ∨ k = w3.heap.size) Y (w7.setCell ⟨w3.heap.size, 5, none⟩ (.slice (some ⟨g7, 0, none⟩) (ks ++ [x0, x1, x2, x3]).length n7)) := Touch.set (p := ⟨w3.heap.size, 5, none⟩) (t7.mono (fun i _ h => .inl h)) (.inl (.inr rfl)) _
        have F1 : ∀ k, (Value.ownBlock (.slice A9 ks.length n9) = some k ∨ k = w3.heap.size) → W.heap.size ≤ k := fun k h => by
          rcases h with h | h
          · exact (q2.lt _ h).1
          · omega
        have n10 : ∀ k, (Value.ownBlock (.slice A9 ks.length n9) = some k ∨ k = w3.heap.size) → k ≠ w3.heap.size + 1 := fun k h => by
          rcases h with h | h
          · exact own_ne q2 h q3 (by decide)
          · omega
        have n11 : ∀ k, (Value.ownBlock (.slice A9 ks.length n9) = some k ∨ k = w3.heap.size) → k ≠ w3.heap.size + 1 + 1 := fun k h => by
          rcases h with h | h
          · exact own_ne q2 h qe (by decide)
          · omega
        rw [KD.out, GD.out]
        refine ⟨keeps_touch T8 (fun k hk => ?_), KpB.touch T8 (by have := q6.size; omega) (fun k hk => ⟨F1 k hk, n11 k hk⟩) (by omega), some ⟨g7, 0, none⟩, n7, heap_setCell_same _ _ _ _ _ _ k9, ownsRow_touch o7 ((Touch.refl (fun b => b = w3.heap.size) w7).set1 5 _) (fun g hg e => own_ne o7 hg k9 (by decide) e), (T8.block _ l10 (fun e => n10 _ e rfl)).trans q3, ownsRow_touch q4 T8 (fun g hg e => ?_), ?_, q6.trans (T8.below q6.size F1), Nat.le_trans q7 T8.size, (T8.block _ (by omega) (fun e => n11 _ e rfl)).trans qe⟩
        · rcases hk with hk | rfl
          · exact owns_cells q2 hk
          · exact ⟨_, _, q1⟩
        · rcases e with e | e
          · exact q5 g hg e
          · exact own_ne q4 hg q1 (by decide) e
        · intro b hb1 hb2
          simp only [Value.ownBlock, Option.some.injEq] at hb2
          subst hb2
          rcases gg with h | h
          · exact q5 _ hb1 h
          · have := (q4.lt _ hb1).2; omega)
      have fB := Lib.hid (show fitV (ks ++ [x0, x1, x2, x3]) by unfold fitV; rw [List.length_append]; simp; omega)
      have e8 := Lib.hid (show (ks ++ [x0, x1, x2, x3]).length = ks.length + 4 by simp)
      have sW := INV.out.2.2.2.2.2.1.size
      clear hB
      rcases kp with e7 | ⟨e7, e2⟩
      · (refine wpIn_region_held (fun Z : World => Z.cell? ⟨w.heap.size + 1, 0, none⟩ = some (.int .i64 tk.k)) _ Try.mixed (by simp) (by exact t0) (fun hS => ?_) (fun _ _ h => h); (refine wpAnyH_take (i := 0) (v := ?_) rfl (by kernel_rfl) (by kernel_rfl) (by kernel_rfl) (fun _ _ _ h => (by cases h.1)) ?_ (by assumption) ?_; rotate_left; (next => (refine Or.inl ⟨by kernel_rfl, ?_⟩; ((intro w hSw; (try dsimp only at hSw); go_simp) <;> with_reducible rfl))); (try simp only [Act.put, List.setIfInBounds_toArray, List.set_cons_zero, List.set_cons_succ])); (refine wpAnyH_take (i := 1) (v := ?_) rfl (by kernel_rfl) (by kernel_rfl) (by kernel_rfl) (fun _ _ _ h => (by cases h.1)) ?_ (by assumption) ?_; rotate_left; (next => (refine Or.inl ⟨by kernel_rfl, ?_⟩; ((intro w hSw; (try dsimp only at hSw); go_simp) <;> with_reducible rfl))); (try simp only [Act.put, List.setIfInBounds_toArray, List.set_cons_zero, List.set_cons_succ])); (refine wpAnyH_take (i := 2) (v := ?_) rfl (by kernel_rfl) (by kernel_rfl) (by kernel_rfl) (fun _ _ _ h => (by cases h.1)) ?_ (by assumption) ?_; rotate_left; (next => (refine Or.inl ⟨by kernel_rfl, ?_⟩; ((intro w hSw; (try dsimp only at hSw); go_simp) <;> with_reducible rfl))); (try simp only [Act.put, List.setIfInBounds_toArray, List.set_cons_zero, List.set_cons_succ])); (refine wpAnyH_take (i := 3) (v := ?_) rfl (by kernel_rfl) (by kernel_rfl) (by kernel_rfl) (fun _ _ _ h => (by cases h.1)) ?_ (by assumption) ?_; rotate_left; (next => (refine Or.inl ⟨by kernel_rfl, ?_⟩; ((intro w hSw; (try dsimp only at hSw); go_simp) <;> with_reducible rfl))); (try simp only [Act.put, List.setIfInBounds_toArray, List.set_cons_zero, List.set_cons_succ])); (refine wpAnyH_take (i := 4) (v := ?_) rfl (by kernel_rfl) (by kernel_rfl) (by kernel_rfl) (fun _ _ _ h => (by cases h.1)) ?_ (by assumption) ?_; rotate_left; (next => (refine Or.inr ⟨by kernel_rfl, ?_⟩; with_reducible rfl)); (try simp only [Act.put, List.setIfInBounds_toArray, List.set_cons_zero, List.set_cons_succ])); (refine wpAnyH_take (i := 5) (v := ?_) rfl (by kernel_rfl) (by kernel_rfl) (by kernel_rfl) (fun _ _ _ h => (by cases h.1)) ?_ (by assumption) ?_; rotate_left; (next => (refine Or.inr ⟨by kernel_rfl, ?_⟩; with_reducible rfl)); (try simp only [Act.put, List.setIfInBounds_toArray, List.set_cons_zero, List.set_cons_succ])); (refine wpAnyH_take (i := 6) (v := ?_) rfl (by kernel_rfl) (by kernel_rfl) (by kernel_rfl) (fun _ _ _ h => (by cases h.1)) ?_ (by assumption) ?_; rotate_left; (next => (refine Or.inr ⟨by kernel_rfl, ?_⟩; with_reducible rfl)); (try simp only [Act.put, List.setIfInBounds_toArray, List.set_cons_zero, List.set_cons_succ])); (refine wpAnyH_take (i := 7) (v := ?_) rfl (by kernel_rfl) (by kernel_rfl) (by kernel_rfl) (fun _ _ _ h => (by cases h.1)) ?_ (by assumption) ?_; rotate_left; (next => (refine Or.inr ⟨by kernel_rfl, ?_⟩; with_reducible rfl)); (try simp only [Act.put, List.setIfInBounds_toArray, List.set_cons_zero, List.set_cons_succ])); (refine wpAnyH_take (i := 8) (v := ?_) rfl (by kernel_rfl) (by kernel_rfl) (by kernel_rfl) (fun _ _ _ h => (by cases h.1)) ?_ (by assumption) ?_; rotate_left; (next => (refine Or.inr ⟨by kernel_rfl, ?_⟩; with_reducible rfl)); (try simp only [Act.put, List.setIfInBounds_toArray, List.set_cons_zero, List.set_cons_succ])); (refine wpAnyH_take (i := 9) (v := ?_) rfl (by kernel_rfl) (by kernel_rfl) (by kernel_rfl) (fun _ _ _ h => (by cases h.1)) ?_ (by assumption) ?_; rotate_left; (next => (refine Or.inl ⟨by kernel_rfl, ?_⟩; ((intro w hSw; (try dsimp only at hSw); go_simp) <;> with_reducible rfl))); (try simp only [Act.put, List.setIfInBounds_toArray, List.set_cons_zero, List.set_cons_succ])); refine wpAnyH_done (by kernel_rfl) ⟨rfl, ?_⟩ _)
        go_simp
        gi_upto_region 8 with fail
        gi_wp2_with (gi_at_builtin; refine wpListIn_appW rfl W.heap.size _ _ rfl ks [x0, x1, x2, x3] (yv := .slice A9 ks.length n9) (sv := .slice (some ⟨b, off + q * 3, none⟩) 4 4) (by simp) rfl rfl ?_ ?_ ?_ fB.out ?_; (next => exact sW); (next => exact INV.out.2.1); (next => exact I4.out); intro g7 n7 w7 o7 t7 gg; have k9 := (t7.block _ l9 (fun e => own_ne INV.out.2.1 e INV.out.1 (by decide) rfl)).trans INV.out.1; obtain ⟨⟨_, _, _, _, _, s5⟩, _, _, _, _, _, s6⟩ := cells6 k9; have FIN := Lib.hid (TO.out g7 n7 w7 o7 ((Touch.refl _ Y).drew.trans t7 (fun _ _ h => h)) gg); clear o7 t7 gg k9)
        exact FIN.out _ (by rw [e8.out])
      · have e2' : (Val.mk x2.k x2.n x2.s).eq ⟨tk.k, tk.n, tk.s⟩ = false := e2
        (refine wpIn_region_held (fun Z : World => Z.cell? ⟨w.heap.size + 1, 0, none⟩ = some (.int .i64 tk.k) ∧ Z.cell? ⟨w.heap.size + 1, 1, none⟩ = some (.int .i64 tk.n) ∧ Z.cell? ⟨w.heap.size + 1, 2, none⟩ = some (.string tk.s) ∧ Z.cell? ⟨b, off + q * 3 + 6, none⟩ = some (.int .i64 x2.k) ∧ Z.cell? ⟨b, off + q * 3 + 6 + 1, none⟩ = some (.int .i64 x2.n) ∧ Z.cell? ⟨b, off + q * 3 + 6 + 2, none⟩ = some (.string x2.s)) _ Try.mixed (by simp) (by exact ⟨t0, t1, t2, c20, c21, c22⟩) (fun hS => ?_) (fun _ _ h => h); (refine wpAnyH_take (i := 0) (v := ?_) rfl (by kernel_rfl) (by kernel_rfl) (by kernel_rfl) (fun _ _ _ h => (by cases h.1)) ?_ (by assumption) ?_; rotate_left; (next => (refine Or.inl ⟨by kernel_rfl, ?_⟩; ((intro w hSw; (try dsimp only at hSw); go_simp) <;> with_reducible rfl))); (try simp only [Act.put, List.setIfInBounds_toArray, List.set_cons_zero, List.set_cons_succ])); (refine wpAnyH_take (i := 1) (v := ?_) rfl (by kernel_rfl) (by kernel_rfl) (by kernel_rfl) (fun _ _ _ h => (by cases h.1)) ?_ (by assumption) ?_; rotate_left; (next => (refine Or.inl ⟨by kernel_rfl, ?_⟩; ((intro w hSw; (try dsimp only at hSw); go_simp) <;> with_reducible rfl))); (try simp only [Act.put, List.setIfInBounds_toArray, List.set_cons_zero, List.set_cons_succ])); (refine wpAnyH_take (i := 2) (v := ?_) rfl (by kernel_rfl) (by kernel_rfl) (by kernel_rfl) (fun _ _ _ h => (by cases h.1)) ?_ (by assumption) ?_; rotate_left; (next => (refine Or.inl ⟨by kernel_rfl, ?_⟩; ((intro w hSw; (try dsimp only at hSw); go_simp) <;> with_reducible rfl))); (try simp only [Act.put, List.setIfInBounds_toArray, List.set_cons_zero, List.set_cons_succ])); (refine wpAnyH_take (i := 3) (v := ?_) rfl (by kernel_rfl) (by kernel_rfl) (by kernel_rfl) (fun _ _ _ h => (by cases h.1)) ?_ (by assumption) ?_; rotate_left; (next => (refine Or.inl ⟨by kernel_rfl, ?_⟩; ((intro w hSw; (try dsimp only at hSw); go_simp) <;> with_reducible rfl))); (try simp only [Act.put, List.setIfInBounds_toArray, List.set_cons_zero, List.set_cons_succ])); (refine wpAnyH_take (i := 4) (v := ?_) rfl (by kernel_rfl) (by kernel_rfl) (by kernel_rfl) (fun _ _ _ h => (by cases h.1)) ?_ (by assumption) ?_; rotate_left; (next => (refine Or.inl ⟨by kernel_rfl, ?_⟩; ((intro w hSw; (try dsimp only at hSw); go_simp) <;> with_reducible rfl))); (try simp only [Act.put, List.setIfInBounds_toArray, List.set_cons_zero, List.set_cons_succ])); (refine wpAnyH_take (i := 5) (v := ?_) rfl (by kernel_rfl) (by kernel_rfl) (by kernel_rfl) (fun _ _ _ h => (by cases h.1)) ?_ (by assumption) ?_; rotate_left; (next => (refine Or.inl ⟨by kernel_rfl, ?_⟩; ((intro w hSw; (try dsimp only at hSw); go_simp) <;> with_reducible rfl))); (try simp only [Act.put, List.setIfInBounds_toArray, List.set_cons_zero, List.set_cons_succ])); (refine wpAnyH_take (i := 6) (v := ?_) rfl (by kernel_rfl) (by kernel_rfl) (by kernel_rfl) (fun _ _ _ h => (by cases h.1)) ?_ (by assumption) ?_; rotate_left; (next => (refine Or.inl ⟨by kernel_rfl, ?_⟩; ((intro w hSw; (try dsimp only at hSw); go_simp) <;> with_reducible rfl))); (try simp only [Act.put, List.setIfInBounds_toArray, List.set_cons_zero, List.set_cons_succ])); (refine wpAnyH_take (i := 7) (v := ?_) rfl (by kernel_rfl) (by kernel_rfl) (by kernel_rfl) (fun _ _ _ h => (by cases h.1)) ?_ (by assumption) ?_; rotate_left; (next => (refine Or.inl ⟨by kernel_rfl, ?_⟩; ((intro w hSw; (try dsimp only at hSw); go_simp) <;> with_reducible rfl))); (try simp only [Act.put, List.setIfInBounds_toArray, List.set_cons_zero, List.set_cons_succ])); (refine wpAnyH_take (i := 8) (v := ?_) rfl (by kernel_rfl) (by kernel_rfl) (by kernel_rfl) (fun _ _ _ h => (by cases h.1)) ?_ (by assumption) ?_; rotate_left; (next => (refine Or.inl ⟨by kernel_rfl, ?_⟩; ((intro w hSw; (try dsimp only at hSw); go_simp) <;> with_reducible rfl))); (try simp only [Act.put, List.setIfInBounds_toArray, List.set_cons_zero, List.set_cons_succ])); (refine wpAnyH_take (i := 9) (v := ?_) rfl (by kernel_rfl) (by kernel_rfl) (by kernel_rfl) (fun _ _ _ h => (by cases h.1)) ?_ (by assumption) ?_; rotate_left; (next => (refine Or.inl ⟨by kernel_rfl, ?_⟩; ((intro w hSw; (try dsimp only at hSw); go_simp) <;> with_reducible rfl))); (try simp only [Act.put, List.setIfInBounds_toArray, List.set_cons_zero, List.set_cons_succ])); refine wpAnyH_done (by kernel_rfl) ⟨rfl, ?_⟩ _)
        go_simp
        gi_upto_region 8 with fail
        gi_wp2_with (gi_at_builtin; refine wpListIn_appW rfl W.heap.size _ _ rfl ks [x0, x1, x2, x3] (yv := .slice A9 ks.length n9) (sv := .slice (some ⟨b, off + q * 3, none⟩) 4 4) (by simp) rfl rfl ?_ ?_ ?_ fB.out ?_; (next => exact sW); (next => exact INV.out.2.1); (next => exact I4.out); intro g7 n7 w7 o7 t7 gg; have k9 := (t7.block _ l9 (fun e => own_ne INV.out.2.1 e INV.out.1 (by decide) rfl)).trans INV.out.1; obtain ⟨⟨_, _, _, _, _, s5⟩, _, _, _, _, _, s6⟩ := cells6 k9; have FIN := Lib.hid (TO.out g7 n7 w7 o7 ((Touch.refl _ Y).drew.trans t7 (fun _ _ h => h)) gg); clear o7 t7 gg k9)
        exact FIN.out _ (by rw [e8.out])
end Go.Proofs.Ytokoigjcakgpdaa
