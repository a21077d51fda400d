/- Weak maps: Opens, by the program. -/
import Derived.Test.YtdikdkllbhanfaaWkG
namespace Go.Proofs.Ytdikdkllbhanfaa
set_option linter.all false
open Go.RowKit Go.Sort Go.Deep Go.Shelf
attribute [local go_sem] Oper.semAt_some

/-- the addresses that are opened -/
def opE (live : List Int) (mo : List Val) (k : Nat) : List Int := bif leadsB (vAt mo (2 * k + 1)) && inB live (vAt mo (2 * k)).n then [(vAt mo (2 * k + 1)).n] else []
def opL (live : List Int) (mo : List Val) {m : Nat} (l : List (Fin m)) : List Int := l.flatMap fun x => opE live mo x.val
theorem opL_snoc (live : List Int) (mo : List Val) {m : Nat} (l : List (Fin m)) (x : Fin m) : opL live mo (l ++ [x]) = opL live mo l ++ opE live mo x.val := by simp [opL]
theorem opL_len (live : List Int) (mo : List Val) {m : Nat} (l : List (Fin m)) : (opL live mo l).length ≤ l.length := by
  induction l with
  | nil => simp [opL]
  | cons x l ih =>
    simp only [opL, List.flatMap_cons, List.length_append, List.length_cons] at ih ⊢
    have : (opE live mo x.val).length ≤ 1 := by unfold opE; cases leadsB (vAt mo (2 * x.val + 1)) && inB live (vAt mo (2 * x.val)).n <;> simp
    omega
theorem news_al {W : World} {o : Array Value} {t : TypeId} : ∀ j u, o.toList[j]? = some u → (W.alloc (.cells o t)).cell? ((⟨W.heap.size, 0, none⟩ : Addr).add j) = some u := by
  intro j u hu
  rw [add_off, cell_of_row _ _ _ _ _ _ (heap_alloc_new _ _)]
  simpa using hu
theorem heap2 (w : World) (a b : Obj) : ((w.alloc a).alloc b).heap[w.heap.size]? = some a ∧ ((w.alloc a).alloc b).heap[w.heap.size + 1]? = some b ∧ Below w.heap.size w ((w.alloc a).alloc b) := by
  refine ⟨(heap_alloc_old _ _ (by simp)).trans (heap_alloc_new _ _), ?_, bl_al (bl_al (Below.refl _ _) _) _⟩
  have := heap_alloc_new (w.alloc a) b
  simpa using this
theorem own_neI {W : World} {lo g B : Nat} {v : Value} {xs : List Int} {cs : Array Value} {T : TypeId} (h : OwnI W lo v xs) (hg : v.ownBlock = some g) (hB : W.heap[B]? = some (.cells cs T)) (hT : T ≠ 3) : g ≠ B := by
  rintro rfl
  rcases h.2 with ⟨rfl, _⟩ | ⟨g', cap, cur, rfl, _, hgg, _⟩
  · simp [Value.ownBlock] at hg
  · simp only [Value.ownBlock, Option.some.injEq] at hg
    subst hg
    rw [hB] at hgg
    cases hgg
    exact hT rfl

set_option maxRecDepth 100000 in
set_option maxHeartbeats 8000000 in
theorem opens_yes (sv mv lv : Value) (c : CellD) (live : List Int) (hc : c.ok) (m : Nat) (hm : c.mo.length = 2 * m) (hmx : c.mo.length ≤ 1048576) (w : World) (h1 : IsV w sv c.sl) (h2 : IsV w mv c.mo) (h3 : IsI w lv live) (hb : isW c = true) :
    Calls Try.prog 11 #[cellV c.k c.sh c.fl c.ag sv mv, lv] w fun e w' => ∃ v, e = .returned v ∧ OwnI w' w.heap.size v (opL live c.mo (List.finRange m)) ∧ Below w.heap.size w w' := by
  obtain ⟨A0, n0, rfl, _, _⟩ := h1.form
  obtain ⟨A2, n2, rfl, _, _⟩ := h2.form
  obtain ⟨A3, n3, rfl, _, _⟩ := h3.form
  have H1 := Lib.hid h1
  have H2 := Lib.hid h2
  have H3 := Lib.hid h3
  have HM := Lib.hid (And.intro hm hmx)
  have IS := Lib.hid (fun W a b => by have := is_any _ _ c hc W a b; rw [hb] at this; exact this : ∀ (W : World), IsV W (.slice A0 c.sl.length n0) c.sl → IsV W (.slice A2 c.mo.length n2) c.mo → Calls Try.prog 26 #[cellV c.k c.sh c.fl c.ag (.slice A0 c.sl.length n0) (.slice A2 c.mo.length n2)] W fun e w' => e = .returned (.bool true) ∧ Below W.heap.size W w')
  clear h1 h2 h3 hm hmx hc hb
  refine callsIn_wide.1 (callsIn_of_wp_marks (n := 9) Try.func11 rfl trivial ?_ rfl)
  refine wpIn_wide.2 ?_
  simp only [Try.ntmps11, List.size_toArray, List.length_cons, List.length_nil, Nat.reduceAdd, Nat.reduceSub, Array.replicate_succ, Array.replicate_zero, List.push_toArray, List.append_toArray, List.nil_append, List.cons_append]
  go_upto_region 1 with fail
  refine wp_world (fun W => W.heap[w.heap.size]? = some (cellO c.k c.sh c.fl c.ag (.slice A0 c.sl.length n0) (.slice A2 c.mo.length n2)) ∧ W.heap[w.heap.size + 1]? = some (.cells #[.slice A3 live.length n3] 25) ∧ Below w.heap.size w W) (heap2 w _ _) ?_
  rintro W ⟨j1, j2, jb⟩
  have l0 : w.heap.size < W.heap.size := (Array.getElem?_eq_some_iff.1 j1).1
  have l1 : w.heap.size + 1 < W.heap.size := (Array.getElem?_eq_some_iff.1 j2).1
  have KK := Lib.hid (show ∀ X, Below W.heap.size W X → X.heap[w.heap.size]? = some (cellO c.k c.sh c.fl c.ag (.slice A0 c.sl.length n0) (.slice A2 c.mo.length n2)) ∧ X.heap[w.heap.size + 1]? = some (.cells #[.slice A3 live.length n3] 25) from fun X h => ⟨(h.block _ l0).trans j1, (h.block _ l1).trans j2⟩)
  have BW := Lib.hid jb
  have I1 := Lib.hid (H1.out.below jb)
  have I2 := Lib.hid (H2.out.below jb)
  have I3 := Lib.hid (H3.out.below jb)
  obtain ⟨⟨a0, a1, a2, a3, a4, a5⟩, _⟩ := cells6 j1
  clear j1 j2 jb H1 H2 H3
  go_upto_region 4 with (go_at_call 26; refine (callGr (IS.out _ (I1.out.below (by (repeat (with_reducible first | exact Below.refl _ _ | (refine bl_set ?_ (by first | omega | (simp; done) | (simp; omega)) _) | refine bl_gr ?_ _ | refine bl_al ?_ _ | refine below_setRow ?_ (by first | omega | (simp; done) | (simp; omega)) _ | refine bl_drewN ?_ _ | refine Below.drew ?_ | (refine bl_tr ?_ (by assumption)))))) (I2.out.below (by (repeat (with_reducible first | exact Below.refl _ _ | (refine bl_set ?_ (by first | omega | (simp; done) | (simp; omega)) _) | refine bl_gr ?_ _ | refine bl_al ?_ _ | refine below_setRow ?_ (by first | omega | (simp; done) | (simp; omega)) _ | refine bl_drewN ?_ _ | refine Below.drew ?_ | (refine bl_tr ?_ (by assumption)))))))).mono ?_; rintro e w' ⟨pp, rfl, rfl⟩)
  obtain ⟨O, hO⟩ : ∃ O, O = W.heap.size + pp.os.size := ⟨_, rfl⟩
  rw [← hO]
  refine wp_world (fun X => X.heap[O]? = some (.cells #[.slice none 0 0] 25) ∧ Below W.heap.size W X) ⟨by rw [hO, ← gr_size]; exact heap_alloc_new _ _, by (repeat (with_reducible first | exact Below.refl _ _ | (refine bl_set ?_ (by first | omega | (simp; done) | (simp; omega)) _) | refine bl_gr ?_ _ | refine bl_al ?_ _ | refine below_setRow ?_ (by first | omega | (simp; done) | (simp; omega)) _ | refine bl_drewN ?_ _ | refine Below.drew ?_ | (refine bl_tr ?_ (by assumption))))⟩ ?_
  rintro X ⟨x0, xb⟩
  have lO : W.heap.size ≤ O := by omega
  have lX : O < X.heap.size := (Array.getElem?_eq_some_iff.1 x0).1
  clear a0 a1 a2 a3 a4 a5 hO
  obtain ⟨⟨a0, a1, a2, a3, a4, a5⟩, _⟩ := cells6 (KK.out X xb).1
  have XX := Lib.hid (And.intro x0 xb)
  have l0X : w.heap.size < X.heap.size := by omega
  clear x0 xb
  go_upto_region 5 with (go_at_call 30; refine (entries_any _ _ _ _ _ _ _ _ _ _ _).mono ?_; rintro e w4 ⟨rfl, hw4⟩; have W4 := Lib.hid hw4; clear hw4)
  have hsz : w4.heap.size = X.heap.size + 1 := by rw [W4.out]; simp
  have qE : w4.heap[X.heap.size]? = some (cellO c.k c.sh c.fl c.ag (.slice A0 c.sl.length n0) (.slice A2 c.mo.length n2)) := by rw [W4.out]; exact heap_alloc_new _ _
  have hb34 : Below X.heap.size X w4 := by rw [W4.out]; exact bl_al (Below.refl _ _) _
  have hbr : Below W.heap.size W w4 := bl_tr XX.out.2 hb34
  have qO := (hb34.block _ lX).trans XX.out.1
  have hs1 := Nat.le_of_eq hsz
  have hs2 := Nat.le_of_eq hsz.symm
  have sX := XX.out.2.size
  clear W4 hb34 a0 a1 a2 a3 a4 a5 hsz
  refine (wpIn_wide (n := 9)).1 ?_
  refine wpIn_rangeFunc_ownH rfl (by omega) (gf := 45) (lb := #[.pointer (some ⟨X.heap.size, 0, none⟩)]) rfl trivial (enters_of Try.func45 (by kernel_rfl) rfl)
    (entries_stops m c.k c.sh c.fl c.ag (.slice A0 c.sl.length n0) (.slice A2 c.mo.length n2) c.mo HM.out.1 _ W w4 hbr qE I2.out) KpB.trans (KpB.put (by omega) (by omega)) (Below.refl _ _) (fun _ => rfl)
    (fun pre Y => (∃ A9 n9, Y.heap[O]? = some (.cells #[.slice A9 (opL live c.mo pre).length n9] 25) ∧ OwnI Y W.heap.size (.slice A9 (opL live c.mo pre).length n9) (opL live c.mo pre)) ∧
      Below W.heap.size W Y ∧ w4.heap.size ≤ Y.heap.size ∧ Y.heap[X.heap.size]? = some (cellO c.k c.sh c.fl c.ag (.slice A0 c.sl.length n0) (.slice A2 c.mo.length n2)))
    (fun _ _ _ => False)
    (ownFrom_of fun s Y Y' ⟨⟨A9, n9, q1, q2⟩, q6, q7, qe⟩ hs => ⟨⟨A9, n9, hs.heap q1, hs.owns q2⟩, hs.below (by omega) q6 (Nat.le_refl _), Nat.le_trans q7 hs.size, hs.heap qe⟩)
    (fun _ => ownFrom_of fun _ _ _ h _ => h)
    ⟨⟨none, 0, qO, World.ownsRow_nil _ _ _ _⟩, hbr, Nat.le_refl _, qE⟩
    (fun x a' Y => ∃ B6 B7, w4.heap.size ≤ B6 ∧ w4.heap.size ≤ B7 ∧ Y.heap[B6]? = some (valB (vAt c.mo (2 * x.val))) ∧ Y.heap[B7]? = some (valB (vAt c.mo (2 * x.val + 1))) ∧
      a' = { tmps := #[cellV c.k c.sh c.fl c.ag (.slice A0 c.sl.length n0) (.slice A2 c.mo.length n2), .slice A3 live.length n3, .pointer (some ⟨w.heap.size, 0, none⟩), .pointer (some ⟨w.heap.size + 1, 0, none⟩), .slice none 0 0, .pointer (some ⟨O, 0, none⟩), .pointer (some ⟨B6, 0, none⟩), .pointer (some ⟨B7, 0, none⟩), cellV c.k c.sh c.fl c.ag (.slice A0 c.sl.length n0) (.slice A2 c.mo.length n2), .bool true, .bool false, cellV c.k c.sh c.fl c.ag (.slice A0 c.sl.length n0) (.slice A2 c.mo.length n2), .func (.func 45) #[] #[.pointer (some ⟨X.heap.size, 0, none⟩)], (vAt c.mo (2 * x.val)).agg, (vAt c.mo (2 * x.val + 1)).agg, undef, undef, undef, undef, undef, undef, undef, undef, undef, undef, undef, undef, undef, undef, undef, undef, undef, undef, undef, undef], defers := [] })
    (fun x a' => ownFrom_of fun _ Y Y' ⟨B6, B7, g1, g2, g3, g4, g5⟩ hs => ⟨B6, B7, g1, g2, hs.heap g3, hs.heap g4, g5⟩) ?assign ?body ?done ?stop
  case assign =>
    rintro l pre x Y K ⟨⟨A9, n9, q1, q2⟩, q6, q7, qe⟩ hK
    have ll := (Array.getElem?_eq_some_iff.1 qe).1
    gi_wp2
    refine hK _ _ (((KeepsOthers.alloc _ _).from _).trans ((KeepsOthers.alloc _ _).from _)) ((KpB.alloc q6.size (by omega) _).trans (KpB.alloc (by simp; omega) (by simp; omega) _)) ?_ ?_
    · have hb := bl_al (bl_al (Below.refl Y.heap.size Y) (valB (vAt c.mo (2 * x.val)))) (valB (vAt c.mo (2 * x.val + 1)))
      exact ⟨⟨A9, n9, (hb.block _ (by omega)).trans q1, ownsRow_below q2 hb⟩, q6.trans (hb.mono q6.size), Nat.le_trans q7 hb.size, (hb.block _ ll).trans qe⟩
    · exact ⟨Y.heap.size, Y.heap.size + 1, q7, by omega, (heap_alloc_old _ _ (by simp)).trans (heap_alloc_new _ _), by have := heap_alloc_new (Y.alloc (valB (vAt c.mo (2 * x.val)))) (valB (vAt c.mo (2 * x.val + 1))); simpa using this, rfl⟩
  case stop =>
    rintro D c pre W _ _ h _
    exact h.elim
  case done =>
    rintro D ys Y hD rfl ⟨⟨A9, n9, hb, ho⟩, hB, hz, _⟩ hK
    obtain ⟨z0, z1⟩ := cells1 hb
    have INV := Lib.hid (And.intro ho (bl_tr BW.out hB))
    have HD := Lib.hid (And.intro hD hK)
    have sB := hB.size
    clear hb ho hB hz hD hK
    go_wp2
    refine marks_ret1 HD.out.2 (results_tmp rfl _ _ _) rfl ⟨_, rfl, ?_, ?_⟩
    · exact ownsRow_low (ownsRow_touch (F := fun b => b = D) INV.out.1 (Touch.put _ _ _) (fun g hg e => by obtain ⟨cs, t, h⟩ := owns_cells INV.out.1 hg; rw [e, HD.out.2] at h; cases h)) (by omega)
    · exact below_put INV.out.2 (by have := HD.out.1; omega) _
  case body =>
    rintro l pre x a' Y hl hr ⟨⟨A9, n9, q1, q2⟩, q6, q7, qe⟩ ⟨B6, B7, g1, g2, g3, g4, rfl⟩ hlt
    have hx := x.isLt
    have sY := q6.size
    obtain ⟨t0, _⟩ := cells1 (KK.out Y q6).2
    obtain ⟨u0, u1, u2⟩ := cells3 g3
    obtain ⟨v0, v1, v2⟩ := cells3 g4
    obtain ⟨z0, z1⟩ := cells1 q1
    have l6 := (Array.getElem?_eq_some_iff.1 g3).1
    have l7 := (Array.getElem?_eq_some_iff.1 g4).1
    have lE := (Array.getElem?_eq_some_iff.1 qe).1
    have lO' : O < Y.heap.size := by omega
    have lK : w.heap.size + 1 < Y.heap.size := by omega
    have KD := Lib.hid (opL_snoc live c.mo pre x)
    have KL := opL_len live c.mo pre
    have hml := HM.out
    have CT := Lib.hid (show ∀ Z, Below Y.heap.size Y Z → ∀ n, Calls Try.prog 29 #[.slice A3 live.length n3, .int .i64 n] Z fun e w' => e = .returned (.bool (inB live n)) ∧ Z = w' from
      fun Z hZ n => contains_any _ live n Z (I3.out.below (bl_tr q6 hZ)))
    have INV := Lib.hid (And.intro q1 (And.intro q2 (And.intro q6 (And.intro q7 qe))))
    clear q1 q2 q6 q7 qe hl hr g3 g4
    unfold opE at KD
    generalize vAt c.mo (2 * x.val) = u at *
    generalize vAt c.mo (2 * x.val + 1) = v at *
    have hpl : pre.length ≤ m := by omega
    generalize hks : opL live c.mo pre = ks at *
    have HKS := Lib.hid hks
    clear hks
    have NO := Lib.hid (show opL live c.mo (pre ++ [x]) = ks → ∀ Y', Y' = Y ∨ Y' = Y → KeepsFrom w4.heap.size Y Y' ∧ KpB W.heap.size X.heap.size Y Y' ∧ (∃ A9 n9, Y'.heap[O]? = some (.cells #[.slice A9 (opL live c.mo (pre ++ [x])).length n9] 25) ∧ OwnI Y' W.heap.size (.slice A9 (opL live c.mo (pre ++ [x])).length n9) (opL live c.mo (pre ++ [x]))) ∧
      Below W.heap.size W Y' ∧ w4.heap.size ≤ Y'.heap.size ∧ Y'.heap[X.heap.size]? = some (cellO c.k c.sh c.fl c.ag (.slice A0 c.sl.length n0) (.slice A2 c.mo.length n2)) by
      rintro e Y' h
      obtain rfl : Y' = Y := by rcases h with h | h <;> exact h
      rw [e]
      obtain ⟨q1, q2, q6, q7, qe⟩ := INV.out
      exact ⟨KeepsFrom.refl _ _, KpB.refl _ _ _, ⟨A9, n9, q1, q2⟩, q6, q7, qe⟩)
    have kp : (leadsB v = false ∧ (v.k == 7) = false ∧ (v.k == 9) = false) ∨ (leadsB v = true ∧ ((v.k == 7) = true ∨ (v.k == 7) = false ∧ (v.k == 9) = true)) := by
      unfold leadsB
      cases v.k == 7 <;> cases v.k == 9 <;> simp
    rcases kp with ⟨e1, e2, e3⟩ | ⟨e1, e2⟩
    · rw [e1, Bool.false_and] at KD
      simp only [cond_false, List.append_nil] at KD
      clear e1
      gi_wp2_with (refine ⟨trivial, ?_⟩)
      exact NO.out KD.out _ (.inl rfl)
    cases hi : inB live u.n
    · rw [e1, hi] at KD
      simp only [Bool.and_false, cond_false, List.append_nil] at KD
      have CF := Lib.hid (show ∀ Z, Below Y.heap.size Y Z → Calls Try.prog 29 #[.slice A3 live.length n3, .int .i64 u.n] Z fun e w' => e = .returned (.bool false) ∧ Z = w' from fun Z hZ => by have := CT.out Z hZ u.n; rw [hi] at this; exact this)
      clear e1 hi
      rcases e2 with e2 | ⟨e2, e3⟩
      all_goals
        gi_wp2_with (first | (refine ⟨trivial, ?_⟩; gi_at_call 29; refine (calls_wide l (CF.out _ (by (repeat (with_reducible first | exact Below.refl _ _ | (refine bl_set ?_ (by first | omega | (simp; done) | (simp; omega)) _) | refine bl_gr ?_ _ | refine bl_al ?_ _ | refine below_setRow ?_ (by first | omega | (simp; done) | (simp; omega)) _ | refine bl_drewN ?_ _ | refine Below.drew ?_ | (refine bl_tr ?_ (by assumption))))))).mono ?_; rintro e w' ⟨rfl, rfl⟩) | (refine ⟨trivial, ?_⟩))
        exact NO.out KD.out _ (.inl rfl)
    · rw [e1, hi] at KD
      simp only [Bool.and_true, cond_true] at KD
      have CF := Lib.hid (show ∀ Z, Below Y.heap.size Y Z → Calls Try.prog 29 #[.slice A3 live.length n3, .int .i64 u.n] Z fun e w' => e = .returned (.bool true) ∧ Z = w' from fun Z hZ => by have := CT.out Z hZ u.n; rw [hi] at this; exact this)
      clear e1 hi
      obtain ⟨i0, hi, hz0, hz1, hz2⟩ := info_parts int_info
      have II := Lib.hid (And.intro hi (And.intro hz0 (And.intro hz1 hz2)))
      clear hi hz0 hz1 hz2
      have TO := Lib.hid (show ∀ (A5 : Option Addr) (n5 : Nat) (w5 : World), OwnI w5 W.heap.size (.slice A5 (ks ++ [v.n]).length n5) (ks ++ [v.n]) → Touch (fun k => Value.ownBlock (.slice A9 ks.length n9) = some k) Y w5 → ∀ Y', Y' = w5.setCell ⟨O, 0, none⟩ (.slice A5 (ks ++ [v.n]).length n5) →
          KeepsFrom w4.heap.size Y Y' ∧ KpB W.heap.size X.heap.size Y Y' ∧ (∃ A9 n9, Y'.heap[O]? = some (.cells #[.slice A9 (opL live c.mo (pre ++ [x])).length n9] 25) ∧ OwnI Y' W.heap.size (.slice A9 (opL live c.mo (pre ++ [x])).length n9) (opL live c.mo (pre ++ [x]))) ∧
            Below W.heap.size W Y' ∧ w4.heap.size ≤ Y'.heap.size ∧ Y'.heap[X.heap.size]? = some (cellO c.k c.sh c.fl c.ag (.slice A0 c.sl.length n0) (.slice A2 c.mo.length n2)) by
        rintro A5 n5 w5 o5 t5 Y' rfl
        obtain ⟨q1, q2, q6, q7, qe⟩ := INV.out
        have k9 := (t5.block _ lO' (fun e => own_neI q2 e q1 (by decide) rfl)).trans q1
        have T8 : Touch (fun k => Value.ownBlock (.slice A9 ks.length n9) = some k ∨ k = O) Y (w5.setCell ⟨O, 0, none⟩ (.slice A5 (ks ++ [v.n]).length n5)) := Touch.set (p := ⟨O, 0, none⟩) (t5.mono (fun i _ h => .inl h)) (.inl (.inr rfl)) _
        have F1 : ∀ k, (Value.ownBlock (.slice A9 ks.length n9) = some k ∨ k = O) → W.heap.size ≤ k := fun k h => by
          rcases h with h | h
          · exact (q2.lt _ h).1
          · omega
        have n11 : ∀ k, (Value.ownBlock (.slice A9 ks.length n9) = some k ∨ k = O) → k ≠ X.heap.size := fun k h => by
          rcases h with h | h
          · exact own_neI q2 h qe (by decide)
          · omega
        rw [KD.out]
        refine ⟨keeps_touch T8 (fun k hk => ?_), KpB.touch T8 (by omega) (fun k hk => ⟨F1 k hk, n11 k hk⟩) lE, ⟨A5, n5, heap_setCell_same _ _ _ _ _ _ k9, ownsRow_touch o5 ((Touch.refl (fun b => b = O) w5).set1 0 _) (fun g hg e => own_neI o5 hg k9 (by decide) e)⟩, q6.trans (T8.below q6.size F1), Nat.le_trans q7 T8.size, (T8.block _ lE (fun e => n11 _ e rfl)).trans qe⟩
        rcases hk with hk | rfl
        · exact owns_cells q2 hk
        · exact ⟨_, _, q1⟩)
      rcases e2 with e2 | ⟨e2, e3⟩
      all_goals
        gi_wp2_with (first
          | (refine ⟨trivial, ?_⟩; gi_at_call 29; refine (calls_wide l (CF.out _ (by (repeat (with_reducible first | exact Below.refl _ _ | (refine bl_set ?_ (by first | omega | (simp; done) | (simp; omega)) _) | refine bl_gr ?_ _ | refine bl_al ?_ _ | refine below_setRow ?_ (by first | omega | (simp; done) | (simp; omega)) _ | refine bl_drewN ?_ _ | refine Below.drew ?_ | (refine bl_tr ?_ (by assumption))))))).mono ?_; rintro e w' ⟨rfl, rfl⟩)
          | (gi_at_builtin; refine wpListIn_append_own _ rfl _ _ 25 rfl W.heap.size 3 i0 (.int .i64 0) 1 8 Try.underlying25 II.out.1 II.out.2.1 II.out.2.2.1 II.out.2.2.2 rfl (by decide) _ _ _ rfl (INV.out.2.1.alloc _) ⟨Y.heap.size, 0, none⟩ 1 1 [.int .i64 v.n] rfl rfl ?_ ?_ ?_ ?_ ?_ ?_; (next => exact news_al); (next => intro u hu; simp at hu; subst hu; rfl); (next => unfold maxLen; omega); (next => omega); (next => simp; omega); intro v' w5 hown hgrow _; obtain ⟨A5, n5, rfl⟩ := ownsRow_form hown; have tb := ((Touch.refl (fun k => Value.ownBlock (.slice A9 ks.length n9) = some k) Y).alloc _).trans (touch_grown hgrow) (fun _ _ h => h); have q5 := (tb.block O lO' (fun e => own_neI INV.out.2.1 e INV.out.1 (by decide) rfl)).trans INV.out.1; obtain ⟨q6, q7⟩ := cells1 q5; have FIN := Lib.hid (TO.out A5 n5 w5 (by simpa [OwnI] using hown) tb); clear hown hgrow tb q5)
          | (refine ⟨trivial, ?_⟩))
        exact FIN.out _ (by simp)
end Go.Proofs.Ytdikdkllbhanfaa
