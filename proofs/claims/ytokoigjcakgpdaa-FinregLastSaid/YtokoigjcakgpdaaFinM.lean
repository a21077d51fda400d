/- Registries: the reference's Add where it adds; what Add is. -/
import Derived.Test.YtokoigjcakgpdaaFinK
import Derived.Test.YtokoigjcakgpdaaFinL
namespace Go.Proofs.Ytokoigjcakgpdaa
set_option linter.all false
open Go.RowKit Go.Sort Go.Deep

/-- an append as one step of a region that draws its order; the row is the call's own -/
theorem step_appW {ops : Array Oper} {o : Oper} {a : Act} {w : World} {K : Act → World → Prop} {Q : Exit → Act → World → Prop} {E : Prop} (lo : Nat)
    (hg : o.guard = none) (s x : Operand) (hop : o.op = Op.call { callee := Callee.builtin Builtin.append, args := #[s, x], argTypes := #[22, 22] })
    (ys xs : List Val) {yv sv : Value} (hs : a.eval s = yv) (hx : a.eval x = sv) (hlo : lo ≤ w.heap.size) (hown : OwnV w lo yv ys) (hsv : IsV w sv xs) (hf : fitV (ys ++ xs))
    (hK : ∀ A n w', OwnV w' lo (.slice A (ys ++ xs).length n) (ys ++ xs) → Touch (fun k => yv.ownBlock = some k) w w' → K (a.put o.dst (.slice A (ys ++ xs).length n)) w') :
    if Region.wanted o (yielded ops a.tmps) = true then Oper.wp Try.prog o a w K Q else E := by
  have hw : Region.wanted o (yielded ops a.tmps) = true := by simp [Region.wanted, hg]
  rw [if_pos hw]
  obtain ⟨A, n, w', hr, h2, h3⟩ := run_appV (ty := o.type) hown hlo hsv hf
  have hb : Touch (fun k => yv.ownBlock = some k) w w' := ⟨h3.os, h3.tape, h3.output, h3.size, fun k hk hn => h3.block k hk fun e => hn e.symm⟩
  unfold Oper.wp
  simp [execOp, hop, resolve, invoke, builtin, hs, hx, hr, Result.andThen]
  have := hK A n w' h2 hb
  rw [List.length_append] at this
  exact this
theorem own_T {W X w3 : World} {lo : Nat} {yv : Value} {ys : List Val} (hX : Below W.heap.size W X) (ho : OwnV X lo yv ys) (h0 : W.heap.size ≤ lo) (t3 : Touch (fun k => yv.ownBlock = some k) X w3) : Below W.heap.size W w3 :=
  hX.trans (t3.below hX.size fun k hk => Nat.le_trans h0 (ho.lt k hk).1)
theorem lit_T {X w3 : World} {yv : Value} {B4 k : Nat} {l : List Val} {o : Array Value} (t3 : Touch (fun k => yv.ownBlock = some k) X w3) (hne : yv.ownBlock ≠ some B4) (h4 : X.heap[B4]? = some (.cells o 34)) (hl : l.length = k) (ho : o = (flat Val.cs l).toArray) (hk : k ≤ 10) :
    IsV w3 (.slice (some ⟨B4, 0, none⟩) k k) l := by
  subst ho hl
  have h := (t3.block B4 (Array.getElem?_eq_some_iff.1 h4).1 hne).trans h4
  exact OwnV.isV (lo := 0) (OwnV_mk h (Nat.zero_le _) (by unfold maxLen; omega))
theorem own_made2 (X : World) (o : Obj) (T : TypeId) : ((X.alloc o).alloc (.cells #[] T)).ownsRow X.heap.size T 3 (.slice (some ⟨X.heap.size + 1, 0, none⟩) 0 0) 0 [] := by
  have h := World.ownsRow_made (X.alloc o) (e := T) (base := X.heap.size) (size := 3) #[] 0 (by rw [World.size_alloc]; omega) (Nat.zero_le _) rfl
  rw [World.size_alloc] at h
  exact h
theorem own_made0 (X : World) : OwnV (X.alloc (.cells #[] 34)) X.heap.size (.slice (some ⟨X.heap.size, 0, none⟩) 0 0) [] := World.ownsRow_made X #[] 0 (Nat.le_refl _) (Nat.zero_le _) rfl
theorem own_made1 (X : World) (o : Obj) : OwnV ((X.alloc (.cells #[] 34)).alloc o) X.heap.size (.slice (some ⟨X.heap.size, 0, none⟩) 0 0) [] := (own_made0 X).alloc o
theorem own_made3 (X : World) (o : Obj) : OwnV ((X.alloc o).alloc (.cells #[] 34)) X.heap.size (.slice (some ⟨X.heap.size + 1, 0, none⟩) 0 0) [] := own_made2 X o _
theorem valS_lit (l : List Val) (o : Array Value) (h : o.toList = flat Val.cs l) : o = (flat Val.cs l).toArray := by rw [← h]

set_option maxRecDepth 100000 in
set_option maxHeartbeats 8000000 in
theorem radd_ok (sv mv : Value) (c : CellD) (t h k : Val) (s : Int) (hc : c.ok) (ht : t.ok) (hh : h.ok) (hk : k.ok) (hf : c.fit) (hm : c.mo.length ≤ 1000) (w : World) (h1 : IsV w sv c.sl) (h2 : IsV w mv c.mo) (hb : isB c = true)
    (a1 : (t.k != 7) = false) (a2 : (k.k != 7) = false ∨ (k.k != 7) = true ∧ (k.k != 0) = false) (a3 : [t, h, k].all mayB = true) (a4 : (h.k == 8) = false) (a5 : (h.k == 9) = false) (a6 : ¬ s < 0) (a7 : ¬ 9007199254740992 < s) :
    Calls Try.prog 20 #[cellV c.k c.sh c.fl c.ag sv mv, t.agg, h.agg, k.agg, .int .i64 s] w fun e w' => ∃ A1 n1 A2 n2, e = .returned (.tuple #[cellV c.k c.sh c.fl c.ag (.slice A1 c.sl.length n1) (.slice A2 (c.mo ++ [t, h, k, numV s]).length n2), .int .i64 0]) ∧ OwnV w' w.heap.size (.slice A1 c.sl.length n1) c.sl ∧ OwnV w' w.heap.size (.slice A2 (c.mo ++ [t, h, k, numV s]).length n2) (c.mo ++ [t, h, k, numV s]) ∧ Below w.heap.size w w' := by
  obtain ⟨A0, n0, rfl, _, _⟩ := h1.form
  obtain ⟨A2, n2, rfl, _, _⟩ := h2.form
  have H1 := Lib.hid h1
  have H2 := Lib.hid h2
  have F := Lib.hid hf
  have mm : mayB t = true ∧ mayB h = true ∧ mayB k = true := by simpa using a3
  have IS := Lib.hid (fun W a b => by have := ris_any _ _ c hc W a b; rw [hb] at this; exact this : ∀ (W : World), IsV W (.slice A0 c.sl.length n0) c.sl → IsV W (.slice A2 c.mo.length n2) c.mo → Calls Try.prog 28 #[cellV c.k c.sh c.fl c.ag (.slice A0 c.sl.length n0) (.slice A2 c.mo.length n2)] W fun e w' => e = .returned (.bool true) ∧ Below W.heap.size W w')
  have YT := Lib.hid (fun W => by have := May_any t W ht.2.2; rw [mm.1] at this; exact this : ∀ (W : World), Calls Try.prog 38 #[t.agg] W fun e w' => e = .returned (.bool true) ∧ Below W.heap.size W w')
  have YH := Lib.hid (fun W => by have := May_any h W hh.2.2; rw [mm.2.1] at this; exact this : ∀ (W : World), Calls Try.prog 38 #[h.agg] W fun e w' => e = .returned (.bool true) ∧ Below W.heap.size W w')
  have YK := Lib.hid (fun W => by have := May_any k W hk.2.2; rw [mm.2.2] at this; exact this : ∀ (W : World), Calls Try.prog 38 #[k.agg] W fun e w' => e = .returned (.bool true) ∧ Below W.heap.size W w')
  have a6' : decide (s < 0) = false := decide_eq_false a6
  have a7' : decide (9007199254740992 < s) = false := decide_eq_false a7
  have hfull : decide ((1048576 : Int) < (c.mo.length : Int) + 4) = false := decide_eq_false (by omega)
  have hwr : wrap64 ((c.mo.length : Int) + 4) = (c.mo.length : Int) + 4 := by simp only [wrap64]; omega
  have hfull2 : ¬ (1048576 : Int) < (c.mo.length : Int) + 4 := by omega
  have HMM := Lib.hid hm
  clear h1 h2 hf hb hc ht hh hk a3 a6 a7 hm mm
  go_enter Try.func20, Try.ntmps20
  go_upto_region 1 with fail
  refine wp_world (fun W => W.heap[w.heap.size]? = some (cellO c.k c.sh c.fl c.ag (.slice A0 c.sl.length n0) (.slice A2 c.mo.length n2)) ∧ W.heap[w.heap.size + 1]? = some (valB t) ∧ W.heap[w.heap.size + 1 + 1]? = some (valB h) ∧ W.heap[w.heap.size + 1 + 1 + 1]? = some (valB k) ∧ W.heap[w.heap.size + 1 + 1 + 1 + 1]? = some (cellO 0 0 0 0 (.slice none 0 0) (.slice none 0 0)) ∧ Below w.heap.size w W) (heap5 w _ _ _ _ _) ?_
  rintro W ⟨j0, j1, j2, j3, j4, jb⟩
  have JJ := Lib.hid (And.intro j0 (And.intro j4 jb))
  have l0 : w.heap.size < W.heap.size := (Array.getElem?_eq_some_iff.1 j0).1
  have l1 : w.heap.size + 1 < W.heap.size := (Array.getElem?_eq_some_iff.1 j1).1
  have l2 : w.heap.size + 1 + 1 < W.heap.size := (Array.getElem?_eq_some_iff.1 j2).1
  have l3 : w.heap.size + 1 + 1 + 1 < W.heap.size := (Array.getElem?_eq_some_iff.1 j3).1
  have l4 : w.heap.size + 1 + 1 + 1 + 1 < W.heap.size := (Array.getElem?_eq_some_iff.1 j4).1
  obtain ⟨⟨b0, b1, b2, b3, b4, b5⟩, f0, f1, f2, f3, f4, f5⟩ := cells6 j0
  obtain ⟨t0, t1, t2⟩ := cells3 j1
  obtain ⟨h0, h1, h2⟩ := cells3 j2
  obtain ⟨k0, k1, k2⟩ := cells3 j3
  have JT := Lib.hid (And.intro j1 (And.intro j2 j3))
  clear j0 j1 j2 j3 j4 jb
  rcases a2 with a2 | ⟨a2, a8⟩
  all_goals
    go_upto_region 7 with (first
      | (go_at_call 28; refine (callGr (IS.out _ (H1.out.below (JJ.out.2.2.trans (by (repeat (with_reducible first | exact Below.refl _ _ | (refine bl_set ?_ (by first | omega | (simp; done) | (simp; omega)) _) | refine bl_gr ?_ _ | refine bl_al ?_ _ | refine below_setRow ?_ (by first | omega | (simp; done) | (simp; omega)) _ | refine bl_drewN ?_ _ | refine Below.drew ?_ | (refine bl_tr ?_ (by assumption))))))) (H2.out.below (JJ.out.2.2.trans (by (repeat (with_reducible first | exact Below.refl _ _ | (refine bl_set ?_ (by first | omega | (simp; done) | (simp; omega)) _) | refine bl_gr ?_ _ | refine bl_al ?_ _ | refine below_setRow ?_ (by first | omega | (simp; done) | (simp; omega)) _ | refine bl_drewN ?_ _ | refine Below.drew ?_ | (refine bl_tr ?_ (by assumption))))))))).mono ?_; rintro e w' ⟨pp, rfl, rfl⟩)
      | (go_at_call_of 38 (t.n); refine (callGr (YT.out _)).mono ?_; rintro e w' ⟨pp, rfl, rfl⟩)
      | (go_at_call_of 38 (h.n); refine (callGr (YH.out _)).mono ?_; rintro e w' ⟨pp, rfl, rfl⟩)
      | (go_at_call_of 38 (k.n); refine (callGr (YK.out _)).mono ?_; rintro e w' ⟨pp, rfl, rfl⟩))
    refine wp_world (fun X => Below W.heap.size W X) (by (repeat (with_reducible first | exact Below.refl _ _ | (refine bl_set ?_ (by first | omega | (simp; done) | (simp; omega)) _) | refine bl_gr ?_ _ | refine bl_al ?_ _ | refine below_setRow ?_ (by first | omega | (simp; done) | (simp; omega)) _ | refine bl_drewN ?_ _ | refine Below.drew ?_ | (refine bl_tr ?_ (by assumption))))) ?_
    intro X hX
    have XC := Lib.hid (show ∀ Z, Below X.heap.size X Z → Z.heap[w.heap.size]? = some (cellO c.k c.sh c.fl c.ag (.slice A0 c.sl.length n0) (.slice A2 c.mo.length n2)) ∧ Z.heap[w.heap.size + 1]? = some (valB t) ∧ Z.heap[w.heap.size + 1 + 1]? = some (valB h) ∧ Z.heap[w.heap.size + 1 + 1 + 1]? = some (valB k) ∧ Z.heap[w.heap.size + 1 + 1 + 1 + 1]? = some (cellO 0 0 0 0 (.slice none 0 0) (.slice none 0 0)) from fun Z hZ => by
      have e : ∀ {n : Nat} {o : Obj}, n < W.heap.size → W.heap[n]? = some o → Z.heap[n]? = some o := fun h1 h2 => (hZ.block _ (Nat.lt_of_lt_of_le h1 hX.size)).trans ((hX.block _ h1).trans h2)
      exact ⟨e l0 JJ.out.1, e l1 JT.out.1, e l2 JT.out.2.1, e l3 JT.out.2.2, e l4 JJ.out.2.1⟩)
    have XB := Lib.hid (JJ.out.2.2.trans (hX.mono JJ.out.2.2.size))
    have I1 := Lib.hid (H1.out.below XB.out)
    have I2 := Lib.hid (H2.out.below XB.out)
    have sX := Nat.lt_of_lt_of_le l4 hX.size
    clear b0 b1 b2 b3 b4 b5 f0 f1 f2 f3 f4 f5 t0 t1 t2 h0 h1 h2 k0 k1 k2 hX
    obtain ⟨j0, j1, j2, j3, j4⟩ := XC.out X (Below.refl _ _)
    obtain ⟨⟨b0, b1, b2, b3, b4, b5⟩, _⟩ := cells6 j0
    obtain ⟨t0, t1, t2⟩ := cells3 j1
    obtain ⟨h0, h1, h2⟩ := cells3 j2
    obtain ⟨k0, k1, k2⟩ := cells3 j3
    clear j0 j1 j2 j3 j4 l0 l1 l2 l3 l4 JJ JT H1 H2
    have SK := Lib.hid (show ∀ Z, Below X.heap.size X Z → Z.heap[w.heap.size]? = some (cellO c.k c.sh c.fl c.ag (.slice A0 c.sl.length n0) (.slice A2 c.mo.length n2)) ∧ Z.heap[w.heap.size + 1]? = some (valB t) ∧ Z.heap[w.heap.size + 1 + 1]? = some (valB h) ∧ Z.heap[w.heap.size + 1 + 1 + 1]? = some (valB k) from fun Z hZ => have q := XC.out Z hZ; ⟨q.1, q.2.1, q.2.2.1, q.2.2.2.1⟩)
    have SKT := Lib.hid (show ∀ (Z Y : World), (Z.heap[w.heap.size]? = some (cellO c.k c.sh c.fl c.ag (.slice A0 c.sl.length n0) (.slice A2 c.mo.length n2)) ∧ Z.heap[w.heap.size + 1]? = some (valB t) ∧ Z.heap[w.heap.size + 1 + 1]? = some (valB h) ∧ Z.heap[w.heap.size + 1 + 1 + 1]? = some (valB k)) → Touch (fun b => b = w.heap.size + 1 + 1 + 1 + 1) Z Y →
      Y.heap[w.heap.size]? = some (cellO c.k c.sh c.fl c.ag (.slice A0 c.sl.length n0) (.slice A2 c.mo.length n2)) ∧ Y.heap[w.heap.size + 1]? = some (valB t) ∧ Y.heap[w.heap.size + 1 + 1]? = some (valB h) ∧ Y.heap[w.heap.size + 1 + 1 + 1]? = some (valB k) from fun Z Y q T => by
      have e : ∀ {n : Nat} {o : Obj}, n ≠ w.heap.size + 1 + 1 + 1 + 1 → Z.heap[n]? = some o → Y.heap[n]? = some o := fun h1 h2 => (T.block _ (Array.getElem?_eq_some_iff.1 h2).1 h1).trans h2
      exact ⟨e (by omega) q.1, e (by omega) q.2.1, e (by omega) q.2.2.1, e (by omega) q.2.2.2⟩)
    have e4 : (c.mo ++ [t, h, k, numV s]).length = c.mo.length + 4 := by simp
    have E4 := Lib.hid e4
    have FB := Lib.hid (show fitV (c.mo ++ [t, h, k, numV s]) by have := HMM.out; unfold fitV; rw [e4]; omega)
    have HL := Lib.hid (And.intro sX XB.out.size)
    clear e4
    (refine wp_region_held_drew (S := (fun Z : World => Z.heap[w.heap.size]? = some (cellO c.k c.sh c.fl c.ag (.slice A0 c.sl.length n0) (.slice A2 c.mo.length n2)) ∧ Z.heap[w.heap.size + 1]? = some (valB t) ∧ Z.heap[w.heap.size + 1 + 1]? = some (valB h) ∧ Z.heap[w.heap.size + 1 + 1 + 1]? = some (valB k))) Try.mixed (by with_reducible (first | exact SK.out _ B3.out | exact SK.out _ (bl_al B3.out _) | exact SK.out _ (by ((repeat (with_reducible first | exact Below.refl _ _ | (refine bl_set ?_ (by first | omega | (simp; done) | (simp; omega)) _) | refine bl_gr ?_ _ | refine bl_al ?_ _ | refine below_setRow ?_ (by first | omega | (simp; done) | (simp; omega)) _ | refine bl_drewN ?_ _ | refine Below.drew ?_ | (refine bl_tr ?_ (by assumption)))); done)))) (fun hS => ?_); (refine wpAnyH_take (i := 0) (v := ?_) rfl (by kernel_rfl) (by kernel_rfl) (by kernel_rfl) (fun _ _ _ h => h) ?_ (by assumption) ?_; rotate_left; (next => (refine Or.inl ⟨by kernel_rfl, ?_⟩; ((intro w hSw; (try dsimp only at hSw); (obtain ⟨q0, q1, q2, q3⟩ := hSw; obtain ⟨⟨p0, p1, p2, p3, p4, p5⟩, _⟩ := cells6 q0; obtain ⟨u0, u1, u2⟩ := cells3 q1; obtain ⟨u3, u4, u5⟩ := cells3 q2; obtain ⟨u6, u7, u8⟩ := cells3 q3; clear q0 q1 q2 q3); go_simp) <;> with_reducible rfl))); (try simp only [Act.put, List.setIfInBounds_toArray, List.set_cons_zero, List.set_cons_succ])); (refine wpAnyH_take (i := 2) (v := ?_) rfl (by kernel_rfl) (by kernel_rfl) (by kernel_rfl) (fun _ _ _ h => h) ?_ (by assumption) ?_; rotate_left; (next => (refine Or.inl ⟨by kernel_rfl, ?_⟩; ((intro w hSw; (try dsimp only at hSw); go_simp) <;> with_reducible rfl))); (try simp only [Act.put, List.setIfInBounds_toArray, List.set_cons_zero, List.set_cons_succ])); (refine wpAnyH_take (i := 3) (v := ?_) rfl (by kernel_rfl) (by kernel_rfl) (by kernel_rfl) (fun _ _ _ h => h) ?_ (by assumption) ?_; rotate_left; (next => (refine Or.inl ⟨by kernel_rfl, ?_⟩; ((intro w hSw; (try dsimp only at hSw); (obtain ⟨q0, q1, q2, q3⟩ := hSw; obtain ⟨⟨p0, p1, p2, p3, p4, p5⟩, _⟩ := cells6 q0; obtain ⟨u0, u1, u2⟩ := cells3 q1; obtain ⟨u3, u4, u5⟩ := cells3 q2; obtain ⟨u6, u7, u8⟩ := cells3 q3; clear q0 q1 q2 q3); go_simp) <;> with_reducible rfl))); (try simp only [Act.put, List.setIfInBounds_toArray, List.set_cons_zero, List.set_cons_succ])); (refine wpAnyH_take (i := 5) (v := ?_) rfl (by kernel_rfl) (by kernel_rfl) (by kernel_rfl) (fun _ _ _ h => h) ?_ (by assumption) ?_; rotate_left; (next => (refine Or.inl ⟨by kernel_rfl, ?_⟩; ((intro w hSw; (try dsimp only at hSw); (obtain ⟨q0, q1, q2, q3⟩ := hSw; obtain ⟨⟨p0, p1, p2, p3, p4, p5⟩, _⟩ := cells6 q0; obtain ⟨u0, u1, u2⟩ := cells3 q1; obtain ⟨u3, u4, u5⟩ := cells3 q2; obtain ⟨u6, u7, u8⟩ := cells3 q3; clear q0 q1 q2 q3); go_simp) <;> with_reducible rfl))); (try simp only [Act.put, List.setIfInBounds_toArray, List.set_cons_zero, List.set_cons_succ])); (refine wpAnyH_take (i := 6) (v := ?_) rfl (by kernel_rfl) (by kernel_rfl) (by kernel_rfl) (fun _ _ _ h => h) ?_ (by assumption) ?_; rotate_left; (next => (refine Or.inl ⟨by kernel_rfl, ?_⟩; ((intro w hSw; (try dsimp only at hSw); (obtain ⟨q0, q1, q2, q3⟩ := hSw; obtain ⟨⟨p0, p1, p2, p3, p4, p5⟩, _⟩ := cells6 q0; obtain ⟨u0, u1, u2⟩ := cells3 q1; obtain ⟨u3, u4, u5⟩ := cells3 q2; obtain ⟨u6, u7, u8⟩ := cells3 q3; clear q0 q1 q2 q3); go_simp) <;> with_reducible rfl))); (try simp only [Act.put, List.setIfInBounds_toArray, List.set_cons_zero, List.set_cons_succ])); (refine wpAnyH_take (i := 7) (v := ?_) rfl (by kernel_rfl) (by kernel_rfl) (by kernel_rfl) (fun _ _ _ h => h) ?_ (by assumption) ?_; rotate_left; (next => (refine Or.inl ⟨by kernel_rfl, ?_⟩; ((intro w hSw; (try dsimp only at hSw); (obtain ⟨q0, q1, q2, q3⟩ := hSw; obtain ⟨⟨p0, p1, p2, p3, p4, p5⟩, _⟩ := cells6 q0; obtain ⟨u0, u1, u2⟩ := cells3 q1; obtain ⟨u3, u4, u5⟩ := cells3 q2; obtain ⟨u6, u7, u8⟩ := cells3 q3; clear q0 q1 q2 q3); go_simp) <;> with_reducible rfl))); (try simp only [Act.put, List.setIfInBounds_toArray, List.set_cons_zero, List.set_cons_succ])); (refine wpAnyH_take (i := 8) (v := ?_) rfl (by kernel_rfl) (by kernel_rfl) (by kernel_rfl) (fun _ _ _ h => h) ?_ (by assumption) ?_; rotate_left; (next => (refine Or.inl ⟨by kernel_rfl, ?_⟩; ((intro w hSw; (try dsimp only at hSw); go_simp) <;> with_reducible rfl))); (try simp only [Act.put, List.setIfInBounds_toArray, List.set_cons_zero, List.set_cons_succ])); (refine wpAnyH_take (i := 9) (v := ?_) rfl (by kernel_rfl) (by kernel_rfl) (by kernel_rfl) (fun _ _ _ h => h) ?_ (by assumption) ?_; rotate_left; (next => (refine Or.inl ⟨by kernel_rfl, ?_⟩; ((intro w hSw; (try dsimp only at hSw); go_simp) <;> with_reducible rfl))); (try simp only [Act.put, List.setIfInBounds_toArray, List.set_cons_zero, List.set_cons_succ])); refine wpAnyH_ready (rs := [1, 10]) (by kernel_rfl) (by simp) ?_; refine AllReadyH.cons rfl (fun K hK => ?_) (AllReadyH.cons rfl (fun K hK => ?_) AllReadyH.nil); go_simp; refine hK.out _ _ (by with_reducible (first | exact SK.out _ B3.out | exact SK.out _ (bl_al B3.out _) | exact SK.out _ (by ((repeat (with_reducible first | exact Below.refl _ _ | (refine bl_set ?_ (by first | omega | (simp; done) | (simp; omega)) _) | refine bl_gr ?_ _ | refine bl_al ?_ _ | refine below_setRow ?_ (by first | omega | (simp; done) | (simp; omega)) _ | refine bl_drewN ?_ _ | refine Below.drew ?_ | (refine bl_tr ?_ (by assumption)))); done)))) (fun hS => ?_); clear hK K; (try simp only [Act.put, List.setIfInBounds_toArray, List.set_cons_zero, List.set_cons_succ]); refine wpAnyH_ready (rs := [4, 10]) (by kernel_rfl) (by simp) ?_; refine AllReadyH.cons rfl (fun K hK => ?_) (AllReadyH.cons rfl (fun K hK => ?_) AllReadyH.nil); ((refine step_appW X.heap.size rfl (.tmp 70) (.tmp 72) rfl [] c.mo (by simp [Act.eval, Act.put]; rfl) (by simp [Act.eval, Act.put]; rfl) ?_ ?_ ?_ F.out.2 ?_; (next => (show X.heap.size ≤ _; exact (by first | exact (show Below X.heap.size X _ by (repeat (with_reducible first | exact Below.refl _ _ | (refine bl_set ?_ (by first | omega | (simp; done) | (simp; omega)) _) | refine bl_gr ?_ _ | refine bl_al ?_ _ | refine below_setRow ?_ (by first | omega | (simp; done) | (simp; omega)) _ | refine bl_drewN ?_ _ | refine Below.drew ?_ | (refine bl_tr ?_ (by assumption))))).size | simp))); (next => first | exact own_made0 X | exact own_made3 X _ | exact own_made1 X _); (next => exact I2.out.below (by (repeat (with_reducible first | exact Below.refl _ _ | (refine bl_set ?_ (by first | omega | (simp; done) | (simp; omega)) _) | refine bl_gr ?_ _ | refine bl_al ?_ _ | refine below_setRow ?_ (by first | omega | (simp; done) | (simp; omega)) _ | refine bl_drewN ?_ _ | refine Below.drew ?_ | (refine bl_tr ?_ (by assumption)))))); intro A3 n3 w3 o3 t3; (try have F4 := Lib.hid (lit_T (k := 4) (l := [t, h, k, numV s]) t3 (by simp [Value.ownBlock]) (heap2 X _ _).1 rfl (valS_lit _ _ rfl) (by omega))); (try have F4 := Lib.hid (lit_T (k := 4) (l := [t, h, k, numV s]) t3 (by simp [Value.ownBlock]) (heap2 X _ _).2.1 rfl (valS_lit _ _ rfl) (by omega))); have B3 := Lib.hid (show Below X.heap.size X w3 from own_T (lo := X.heap.size) (by (repeat (with_reducible first | exact Below.refl _ _ | (refine bl_set ?_ (by first | omega | (simp; done) | (simp; omega)) _) | refine bl_gr ?_ _ | refine bl_al ?_ _ | refine below_setRow ?_ (by first | omega | (simp; done) | (simp; omega)) _ | refine bl_drewN ?_ _ | refine Below.drew ?_ | (refine bl_tr ?_ (by assumption))))) (by first | exact own_made0 X | exact own_made3 X _ | exact own_made1 X _) (Nat.le_refl _) t3); simp only [List.nil_append] at o3 ⊢; have O3 := Lib.hid o3; clear o3 t3)); refine hK.out _ _ (by with_reducible (first | exact SK.out _ B3.out | exact SK.out _ (bl_al B3.out _) | exact SK.out _ (by ((repeat (with_reducible first | exact Below.refl _ _ | (refine bl_set ?_ (by first | omega | (simp; done) | (simp; omega)) _) | refine bl_gr ?_ _ | refine bl_al ?_ _ | refine below_setRow ?_ (by first | omega | (simp; done) | (simp; omega)) _ | refine bl_drewN ?_ _ | refine Below.drew ?_ | (refine bl_tr ?_ (by assumption)))); done)))) (fun hS => ?_); clear hK K; (try simp only [Act.put, List.setIfInBounds_toArray, List.set_cons_zero, List.set_cons_succ]); refine wpAnyH_ready (rs := [10]) (by kernel_rfl) (by simp) ?_; refine AllReadyH.cons rfl (fun K hK => ?_) AllReadyH.nil; go_simp; refine hK.out _ _ (by with_reducible (first | exact SK.out _ B3.out | exact SK.out _ (bl_al B3.out _) | exact SK.out _ (by ((repeat (with_reducible first | exact Below.refl _ _ | (refine bl_set ?_ (by first | omega | (simp; done) | (simp; omega)) _) | refine bl_gr ?_ _ | refine bl_al ?_ _ | refine below_setRow ?_ (by first | omega | (simp; done) | (simp; omega)) _ | refine bl_drewN ?_ _ | refine Below.drew ?_ | (refine bl_tr ?_ (by assumption)))); done)))) (fun hS => ?_); clear hK K; (try simp only [Act.put, List.setIfInBounds_toArray, List.set_cons_zero, List.set_cons_succ]); refine wpAnyH_ready (rs := [11]) (by kernel_rfl) (by simp) ?_; refine AllReadyH.cons rfl (fun K hK => ?_) AllReadyH.nil; ((refine step_appW X.heap.size rfl (.tmp 73) (.tmp 79) rfl c.mo [t, h, k, numV s] (yv := .slice A3 c.mo.length n3) (by simp [Act.eval, Act.put]) (by simp [Act.eval, Act.put]; rfl) ?_ ?_ ?_ FB.out ?_; (next => (first | exact B3.out.size | exact (bl_al B3.out _).size)); (next => (first | exact O3.out | exact O3.out.alloc _)); (next => (first | exact F4.out | exact lit_valsB rfl rfl rfl (by omega))); intro A9 n9 w9 o9 t9; have B9 := Lib.hid (show Below X.heap.size X w9 from own_T (lo := X.heap.size) (by first | exact B3.out | exact bl_al B3.out _) (by first | exact O3.out | exact O3.out.alloc _) (Nat.le_refl _) t9); have O9 := Lib.hid o9; rw [E4.out]; clear o9 t9)); refine hK.out _ _ (by exact SK.out _ B9.out) (fun hS => ?_); clear hK K; (try simp only [Act.put, List.setIfInBounds_toArray, List.set_cons_zero, List.set_cons_succ]); refine wpAnyH_ready (rs := [12]) (by kernel_rfl) (by simp) ?_; refine AllReadyH.cons rfl (fun K hK => ?_) AllReadyH.nil; go_simp; ((go_at_call 30; refine (with_any _ _ c _ _ _ _ (I1.out.below B9.out) F.out.1).mono ?_; rintro e w10 ⟨A5, n5, rfl, o5, b5⟩; have B10 := Lib.hid (bl_tr B9.out b5); obtain ⟨⟨x0, x1, x2, x3, x4, x5⟩, y0, y1, y2, y3, y4, y5⟩ := cells6 (XC.out _ B10.out).2.2.2.2; have O10 := Lib.hid (And.intro (ownsRow_low o5 B9.out.size) (ownsRow_below O9.out b5)); clear o5 b5)); refine hK.out _ _ (by exact SK.out _ B10.out) (fun hS => ?_); clear hK K; (try simp only [Act.put, List.setIfInBounds_toArray, List.set_cons_zero, List.set_cons_succ]); refine wpAnyH_ready (rs := [13]) (by kernel_rfl) (by simp) ?_; refine AllReadyH.cons rfl (fun K hK => ?_) AllReadyH.nil; go_simp; refine hK.out _ _ (by exact SKT.out _ _ hS (((((((Touch.refl _ _).set1 _ _).set1 _ _).set1 _ _).set1 _ _).set1 _ _).set1 _ _)) (fun hS => ?_); clear hK K; (try simp only [Act.put, List.setIfInBounds_toArray, List.set_cons_zero, List.set_cons_succ]); (refine wpAnyH_take (i := 14) (v := ?_) rfl (by kernel_rfl) (by kernel_rfl) (by kernel_rfl) (fun _ _ _ h => h) ?_ (by assumption) ?_; rotate_left; (next => (refine Or.inl ⟨by kernel_rfl, ?_⟩; ((intro w hSw; (try dsimp only at hSw); go_simp) <;> with_reducible rfl))); (try simp only [Act.put, List.setIfInBounds_toArray, List.set_cons_zero, List.set_cons_succ])); refine wpAnyH_done (by kernel_rfl) ?_ _; rotate_left 1; go_simp; refine hK.out _ _ (by with_reducible (first | exact SK.out _ B3.out | exact SK.out _ (bl_al B3.out _) | exact SK.out _ (by ((repeat (with_reducible first | exact Below.refl _ _ | (refine bl_set ?_ (by first | omega | (simp; done) | (simp; omega)) _) | refine bl_gr ?_ _ | refine bl_al ?_ _ | refine below_setRow ?_ (by first | omega | (simp; done) | (simp; omega)) _ | refine bl_drewN ?_ _ | refine Below.drew ?_ | (refine bl_tr ?_ (by assumption)))); done)))) (fun hS => ?_); clear hK K; (try simp only [Act.put, List.setIfInBounds_toArray, List.set_cons_zero, List.set_cons_succ]); refine wpAnyH_ready (rs := [4]) (by kernel_rfl) (by simp) ?_; refine AllReadyH.cons rfl (fun K hK => ?_) AllReadyH.nil; ((refine step_appW X.heap.size rfl (.tmp 70) (.tmp 72) rfl [] c.mo (by simp [Act.eval, Act.put]; rfl) (by simp [Act.eval, Act.put]; rfl) ?_ ?_ ?_ F.out.2 ?_; (next => (show X.heap.size ≤ _; exact (by first | exact (show Below X.heap.size X _ by (repeat (with_reducible first | exact Below.refl _ _ | (refine bl_set ?_ (by first | omega | (simp; done) | (simp; omega)) _) | refine bl_gr ?_ _ | refine bl_al ?_ _ | refine below_setRow ?_ (by first | omega | (simp; done) | (simp; omega)) _ | refine bl_drewN ?_ _ | refine Below.drew ?_ | (refine bl_tr ?_ (by assumption))))).size | simp))); (next => first | exact own_made0 X | exact own_made3 X _ | exact own_made1 X _); (next => exact I2.out.below (by (repeat (with_reducible first | exact Below.refl _ _ | (refine bl_set ?_ (by first | omega | (simp; done) | (simp; omega)) _) | refine bl_gr ?_ _ | refine bl_al ?_ _ | refine below_setRow ?_ (by first | omega | (simp; done) | (simp; omega)) _ | refine bl_drewN ?_ _ | refine Below.drew ?_ | (refine bl_tr ?_ (by assumption)))))); intro A3 n3 w3 o3 t3; (try have F4 := Lib.hid (lit_T (k := 4) (l := [t, h, k, numV s]) t3 (by simp [Value.ownBlock]) (heap2 X _ _).1 rfl (valS_lit _ _ rfl) (by omega))); (try have F4 := Lib.hid (lit_T (k := 4) (l := [t, h, k, numV s]) t3 (by simp [Value.ownBlock]) (heap2 X _ _).2.1 rfl (valS_lit _ _ rfl) (by omega))); have B3 := Lib.hid (show Below X.heap.size X w3 from own_T (lo := X.heap.size) (by (repeat (with_reducible first | exact Below.refl _ _ | (refine bl_set ?_ (by first | omega | (simp; done) | (simp; omega)) _) | refine bl_gr ?_ _ | refine bl_al ?_ _ | refine below_setRow ?_ (by first | omega | (simp; done) | (simp; omega)) _ | refine bl_drewN ?_ _ | refine Below.drew ?_ | (refine bl_tr ?_ (by assumption))))) (by first | exact own_made0 X | exact own_made3 X _ | exact own_made1 X _) (Nat.le_refl _) t3); simp only [List.nil_append] at o3 ⊢; have O3 := Lib.hid o3; clear o3 t3)); refine hK.out _ _ (by with_reducible (first | exact SK.out _ B3.out | exact SK.out _ (bl_al B3.out _) | exact SK.out _ (by ((repeat (with_reducible first | exact Below.refl _ _ | (refine bl_set ?_ (by first | omega | (simp; done) | (simp; omega)) _) | refine bl_gr ?_ _ | refine bl_al ?_ _ | refine below_setRow ?_ (by first | omega | (simp; done) | (simp; omega)) _ | refine bl_drewN ?_ _ | refine Below.drew ?_ | (refine bl_tr ?_ (by assumption)))); done)))) (fun hS => ?_); clear hK K; (try simp only [Act.put, List.setIfInBounds_toArray, List.set_cons_zero, List.set_cons_succ]); refine wpAnyH_ready (rs := [11]) (by kernel_rfl) (by simp) ?_; refine AllReadyH.cons rfl (fun K hK => ?_) AllReadyH.nil; ((refine step_appW X.heap.size rfl (.tmp 73) (.tmp 79) rfl c.mo [t, h, k, numV s] (yv := .slice A3 c.mo.length n3) (by simp [Act.eval, Act.put]) (by simp [Act.eval, Act.put]; rfl) ?_ ?_ ?_ FB.out ?_; (next => (first | exact B3.out.size | exact (bl_al B3.out _).size)); (next => (first | exact O3.out | exact O3.out.alloc _)); (next => (first | exact F4.out | exact lit_valsB rfl rfl rfl (by omega))); intro A9 n9 w9 o9 t9; have B9 := Lib.hid (show Below X.heap.size X w9 from own_T (lo := X.heap.size) (by first | exact B3.out | exact bl_al B3.out _) (by first | exact O3.out | exact O3.out.alloc _) (Nat.le_refl _) t9); have O9 := Lib.hid o9; rw [E4.out]; clear o9 t9)); refine hK.out _ _ (by exact SK.out _ B9.out) (fun hS => ?_); clear hK K; (try simp only [Act.put, List.setIfInBounds_toArray, List.set_cons_zero, List.set_cons_succ]); refine wpAnyH_ready (rs := [12]) (by kernel_rfl) (by simp) ?_; refine AllReadyH.cons rfl (fun K hK => ?_) AllReadyH.nil; go_simp; ((go_at_call 30; refine (with_any _ _ c _ _ _ _ (I1.out.below B9.out) F.out.1).mono ?_; rintro e w10 ⟨A5, n5, rfl, o5, b5⟩; have B10 := Lib.hid (bl_tr B9.out b5); obtain ⟨⟨x0, x1, x2, x3, x4, x5⟩, y0, y1, y2, y3, y4, y5⟩ := cells6 (XC.out _ B10.out).2.2.2.2; have O10 := Lib.hid (And.intro (ownsRow_low o5 B9.out.size) (ownsRow_below O9.out b5)); clear o5 b5)); refine hK.out _ _ (by exact SK.out _ B10.out) (fun hS => ?_); clear hK K; (try simp only [Act.put, List.setIfInBounds_toArray, List.set_cons_zero, List.set_cons_succ]); refine wpAnyH_ready (rs := [13]) (by kernel_rfl) (by simp) ?_; refine AllReadyH.cons rfl (fun K hK => ?_) AllReadyH.nil; go_simp; refine hK.out _ _ (by exact SKT.out _ _ hS (((((((Touch.refl _ _).set1 _ _).set1 _ _).set1 _ _).set1 _ _).set1 _ _).set1 _ _)) (fun hS => ?_); clear hK K; (try simp only [Act.put, List.setIfInBounds_toArray, List.set_cons_zero, List.set_cons_succ]); (refine wpAnyH_take (i := 14) (v := ?_) rfl (by kernel_rfl) (by kernel_rfl) (by kernel_rfl) (fun _ _ _ h => h) ?_ (by assumption) ?_; rotate_left; (next => (refine Or.inl ⟨by kernel_rfl, ?_⟩; ((intro w hSw; (try dsimp only at hSw); go_simp) <;> with_reducible rfl))); (try simp only [Act.put, List.setIfInBounds_toArray, List.set_cons_zero, List.set_cons_succ])); refine wpAnyH_done (by kernel_rfl) ?_ _; rotate_left 1; go_simp; refine hK.out _ _ (by with_reducible (first | exact SK.out _ B3.out | exact SK.out _ (bl_al B3.out _) | exact SK.out _ (by ((repeat (with_reducible first | exact Below.refl _ _ | (refine bl_set ?_ (by first | omega | (simp; done) | (simp; omega)) _) | refine bl_gr ?_ _ | refine bl_al ?_ _ | refine below_setRow ?_ (by first | omega | (simp; done) | (simp; omega)) _ | refine bl_drewN ?_ _ | refine Below.drew ?_ | (refine bl_tr ?_ (by assumption)))); done)))) (fun hS => ?_); clear hK K; (try simp only [Act.put, List.setIfInBounds_toArray, List.set_cons_zero, List.set_cons_succ]); refine wpAnyH_ready (rs := [1]) (by kernel_rfl) (by simp) ?_; refine AllReadyH.cons rfl (fun K hK => ?_) AllReadyH.nil; go_simp; refine hK.out _ _ (by with_reducible (first | exact SK.out _ B3.out | exact SK.out _ (bl_al B3.out _) | exact SK.out _ (by ((repeat (with_reducible first | exact Below.refl _ _ | (refine bl_set ?_ (by first | omega | (simp; done) | (simp; omega)) _) | refine bl_gr ?_ _ | refine bl_al ?_ _ | refine below_setRow ?_ (by first | omega | (simp; done) | (simp; omega)) _ | refine bl_drewN ?_ _ | refine Below.drew ?_ | (refine bl_tr ?_ (by assumption)))); done)))) (fun hS => ?_); clear hK K; (try simp only [Act.put, List.setIfInBounds_toArray, List.set_cons_zero, List.set_cons_succ]); refine wpAnyH_ready (rs := [4]) (by kernel_rfl) (by simp) ?_; refine AllReadyH.cons rfl (fun K hK => ?_) AllReadyH.nil; ((refine step_appW X.heap.size rfl (.tmp 70) (.tmp 72) rfl [] c.mo (by simp [Act.eval, Act.put]; rfl) (by simp [Act.eval, Act.put]; rfl) ?_ ?_ ?_ F.out.2 ?_; (next => (show X.heap.size ≤ _; exact (by first | exact (show Below X.heap.size X _ by (repeat (with_reducible first | exact Below.refl _ _ | (refine bl_set ?_ (by first | omega | (simp; done) | (simp; omega)) _) | refine bl_gr ?_ _ | refine bl_al ?_ _ | refine below_setRow ?_ (by first | omega | (simp; done) | (simp; omega)) _ | refine bl_drewN ?_ _ | refine Below.drew ?_ | (refine bl_tr ?_ (by assumption))))).size | simp))); (next => first | exact own_made0 X | exact own_made3 X _ | exact own_made1 X _); (next => exact I2.out.below (by (repeat (with_reducible first | exact Below.refl _ _ | (refine bl_set ?_ (by first | omega | (simp; done) | (simp; omega)) _) | refine bl_gr ?_ _ | refine bl_al ?_ _ | refine below_setRow ?_ (by first | omega | (simp; done) | (simp; omega)) _ | refine bl_drewN ?_ _ | refine Below.drew ?_ | (refine bl_tr ?_ (by assumption)))))); intro A3 n3 w3 o3 t3; (try have F4 := Lib.hid (lit_T (k := 4) (l := [t, h, k, numV s]) t3 (by simp [Value.ownBlock]) (heap2 X _ _).1 rfl (valS_lit _ _ rfl) (by omega))); (try have F4 := Lib.hid (lit_T (k := 4) (l := [t, h, k, numV s]) t3 (by simp [Value.ownBlock]) (heap2 X _ _).2.1 rfl (valS_lit _ _ rfl) (by omega))); have B3 := Lib.hid (show Below X.heap.size X w3 from own_T (lo := X.heap.size) (by (repeat (with_reducible first | exact Below.refl _ _ | (refine bl_set ?_ (by first | omega | (simp; done) | (simp; omega)) _) | refine bl_gr ?_ _ | refine bl_al ?_ _ | refine below_setRow ?_ (by first | omega | (simp; done) | (simp; omega)) _ | refine bl_drewN ?_ _ | refine Below.drew ?_ | (refine bl_tr ?_ (by assumption))))) (by first | exact own_made0 X | exact own_made3 X _ | exact own_made1 X _) (Nat.le_refl _) t3); simp only [List.nil_append] at o3 ⊢; have O3 := Lib.hid o3; clear o3 t3)); refine hK.out _ _ (by with_reducible (first | exact SK.out _ B3.out | exact SK.out _ (bl_al B3.out _) | exact SK.out _ (by ((repeat (with_reducible first | exact Below.refl _ _ | (refine bl_set ?_ (by first | omega | (simp; done) | (simp; omega)) _) | refine bl_gr ?_ _ | refine bl_al ?_ _ | refine below_setRow ?_ (by first | omega | (simp; done) | (simp; omega)) _ | refine bl_drewN ?_ _ | refine Below.drew ?_ | (refine bl_tr ?_ (by assumption)))); done)))) (fun hS => ?_); clear hK K; (try simp only [Act.put, List.setIfInBounds_toArray, List.set_cons_zero, List.set_cons_succ]); refine wpAnyH_ready (rs := [11]) (by kernel_rfl) (by simp) ?_; refine AllReadyH.cons rfl (fun K hK => ?_) AllReadyH.nil; ((refine step_appW X.heap.size rfl (.tmp 73) (.tmp 79) rfl c.mo [t, h, k, numV s] (yv := .slice A3 c.mo.length n3) (by simp [Act.eval, Act.put]) (by simp [Act.eval, Act.put]; rfl) ?_ ?_ ?_ FB.out ?_; (next => (first | exact B3.out.size | exact (bl_al B3.out _).size)); (next => (first | exact O3.out | exact O3.out.alloc _)); (next => (first | exact F4.out | exact lit_valsB rfl rfl rfl (by omega))); intro A9 n9 w9 o9 t9; have B9 := Lib.hid (show Below X.heap.size X w9 from own_T (lo := X.heap.size) (by first | exact B3.out | exact bl_al B3.out _) (by first | exact O3.out | exact O3.out.alloc _) (Nat.le_refl _) t9); have O9 := Lib.hid o9; rw [E4.out]; clear o9 t9)); refine hK.out _ _ (by exact SK.out _ B9.out) (fun hS => ?_); clear hK K; (try simp only [Act.put, List.setIfInBounds_toArray, List.set_cons_zero, List.set_cons_succ]); refine wpAnyH_ready (rs := [12]) (by kernel_rfl) (by simp) ?_; refine AllReadyH.cons rfl (fun K hK => ?_) AllReadyH.nil; go_simp; ((go_at_call 30; refine (with_any _ _ c _ _ _ _ (I1.out.below B9.out) F.out.1).mono ?_; rintro e w10 ⟨A5, n5, rfl, o5, b5⟩; have B10 := Lib.hid (bl_tr B9.out b5); obtain ⟨⟨x0, x1, x2, x3, x4, x5⟩, y0, y1, y2, y3, y4, y5⟩ := cells6 (XC.out _ B10.out).2.2.2.2; have O10 := Lib.hid (And.intro (ownsRow_low o5 B9.out.size) (ownsRow_below O9.out b5)); clear o5 b5)); refine hK.out _ _ (by exact SK.out _ B10.out) (fun hS => ?_); clear hK K; (try simp only [Act.put, List.setIfInBounds_toArray, List.set_cons_zero, List.set_cons_succ]); refine wpAnyH_ready (rs := [13]) (by kernel_rfl) (by simp) ?_; refine AllReadyH.cons rfl (fun K hK => ?_) AllReadyH.nil; go_simp; refine hK.out _ _ (by exact SKT.out _ _ hS (((((((Touch.refl _ _).set1 _ _).set1 _ _).set1 _ _).set1 _ _).set1 _ _).set1 _ _)) (fun hS => ?_); clear hK K; (try simp only [Act.put, List.setIfInBounds_toArray, List.set_cons_zero, List.set_cons_succ]); (refine wpAnyH_take (i := 14) (v := ?_) rfl (by kernel_rfl) (by kernel_rfl) (by kernel_rfl) (fun _ _ _ h => h) ?_ (by assumption) ?_; rotate_left; (next => (refine Or.inl ⟨by kernel_rfl, ?_⟩; ((intro w hSw; (try dsimp only at hSw); go_simp) <;> with_reducible rfl))); (try simp only [Act.put, List.setIfInBounds_toArray, List.set_cons_zero, List.set_cons_succ])); refine wpAnyH_done (by kernel_rfl) ?_ _)
    all_goals
      go_simp
      obtain ⟨Y, hY, hc, hT, hB⟩ := setC c.k c.sh c.fl c.ag (.slice A5 c.sl.length n5) (.slice A9 (c.mo.length + 4) n9) (XC.out _ B10.out).2.2.2.2 (XB.out.trans (B10.out.mono XB.out.size)) (by omega)
      rw [← hY]
      have o1 := ownsRow_touch O10.out.1 hT (fun g hg e => by have := (O10.out.1.lt _ hg).1; have := HL.out; omega)
      have o2 := O10.out.2
      rw [E4.out] at o2
      have o3 := ownsRow_touch o2 hT (fun g hg e => by have := (o2.lt _ hg).1; have := HL.out; omega)
      clear hY x0 x1 x2 x3 x4 x5 y0 y1 y2 y3 y4 y5 b0 b1 b2 b3 b4 b5 t0 t1 t2 h0 h1 h2 k0 k1 k2 hT hS o2
      obtain ⟨⟨b0, b1, b2, b3, b4, b5⟩, _⟩ := cells6 hc
      have OB := Lib.hid (And.intro (ownsRow_low o1 (b' := w.heap.size) HL.out.2) (And.intro (ownsRow_low o3 (b' := w.heap.size) HL.out.2) hB))
      clear o1 o3 hB hc
      go_wp2
      refine bodyPost_ret (v := .tuple #[cellV c.k c.sh c.fl c.ag (.slice A5 c.sl.length n5) (.slice A9 (c.mo.length + 4) n9), .int .i64 0]) (by simp [results, Try.results20, go_sem, *]) rfl ⟨A5, n5, A9, n9, by rw [E4.out], OB.out.1, by have q := OB.out.2.1; rw [← E4.out] at q; exact q, OB.out.2.2⟩
/-- whether Add adds -/
def okAdd (t h k : Val) (s : Int) : Bool := t.k == 7 && (k.k == 7 || k.k == 0) && [t, h, k].all mayB && !(h.k == 8) && !(h.k == 9) && decide (0 ≤ s) && decide (s ≤ 9007199254740992)
abbrev zeroC : CellD := ⟨0, 0, 0, 0, [], []⟩
def addC (c : CellD) (t h k : Val) (s : Int) : CellD := if isB c && okAdd t h k s then ⟨c.k, c.sh, c.fl, c.ag, c.sl, c.mo ++ [t, h, k, numV s]⟩ else zeroC
def addE (c : CellD) (t h k : Val) (s : Int) : Int := if isB c then (if okAdd t h k s then 0 else 1) else 51
/-- a call that returns a cell and a second value -/
def RetC (w : World) (D : CellD) (x : Value) (e : Ending) (w' : World) : Prop := ∃ s m, e = .returned (.tuple #[cellV D.k D.sh D.fl D.ag s m, x]) ∧ IsV w' s D.sl ∧ IsV w' m D.mo ∧ Below w.heap.size w w'
theorem okAdd_yes {t h k : Val} {s : Int} (q : okAdd t h k s = true) : (t.k != 7) = false ∧ ((k.k != 7) = false ∨ (k.k != 7) = true ∧ (k.k != 0) = false) ∧ [t, h, k].all mayB = true ∧ (h.k == 8) = false ∧ (h.k == 9) = false ∧ ¬ s < 0 ∧ ¬ 9007199254740992 < s := by
  unfold okAdd at q
  simp only [Bool.and_eq_true, beq_iff_eq, Bool.or_eq_true, Bool.not_eq_true', beq_eq_false_iff_ne, decide_eq_true_eq] at q
  obtain ⟨⟨⟨⟨⟨⟨q1, q2⟩, q3⟩, q4⟩, q5⟩, q6⟩, q7⟩ := q
  refine ⟨by simp [q1], ?_, q3, by simpa using q4, by simpa using q5, by omega, by omega⟩
  by_cases e : k.k = 7
  · left; simp [e]
  · right; rcases q2 with q2 | q2
    · exact absurd q2 e
    · exact ⟨by simp [e], by simp [q2]⟩
theorem okAdd_no {c : CellD} {t h k : Val} {s : Int} (q : okAdd t h k s = false) : refB c t h k s ∧ refR t h k s := by
  unfold refB refR
  by_cases q1 : t.k = 7
  · have e1 : (t.k != 7) = false := by simp [q1]
    by_cases q2 : k.k = 7 ∨ k.k = 0
    · have e2 : (k.k != 7) = false ∨ (k.k != 7) = true ∧ (k.k != 0) = false := by
        by_cases e : k.k = 7
        · left; simp [e]
        · right; rcases q2 with q2 | q2
          · exact absurd q2 e
          · exact ⟨by simp [e], by simp [q2]⟩
      have q3 : okAdd t h k s = ([t, h, k].all mayB && !(h.k == 8) && !(h.k == 9) && decide (0 ≤ s) && decide (s ≤ 9007199254740992)) := by
        have : (k.k == 7 || k.k == 0) = true := by simpa using q2
        unfold okAdd
        rw [this]
        simp [q1]
      rw [q3] at q
      refine ⟨.inr (.inr ⟨e1, e2, ?_⟩), .inr (.inr ⟨e1, e2, ?_⟩)⟩
      · cases hm : [t, h, k].all mayB
        · exact .inl rfl
        · rw [hm] at q
          refine .inr ⟨rfl, ?_⟩
          cases h8 : (h.k == 8)
          · cases h9 : (h.k == 9)
            · rw [h8, h9] at q
              refine .inr ⟨rfl, .inr ⟨rfl, ?_⟩⟩
              simp at q
              by_cases s0 : s < 0
              · exact .inl s0
              · exact .inr ⟨s0, by omega⟩
            · exact .inr ⟨rfl, .inl rfl⟩
          · exact .inl rfl
      · cases ht : mayB t
        · exact .inl rfl
        cases hh : mayB h
        · exact .inr (.inl ⟨rfl, rfl⟩)
        cases hk : mayB k
        · exact .inr (.inr (.inl ⟨rfl, rfl, rfl⟩))
        refine .inr (.inr (.inr ⟨rfl, rfl, rfl, ?_⟩))
        have hm : [t, h, k].all mayB = true := by simp [ht, hh, hk]
        rw [hm] at q
        cases h8 : (h.k == 8)
        · cases h9 : (h.k == 9)
          · rw [h8, h9] at q
            simp at q
            by_cases s0 : s < 0
            · exact .inr (.inr (.inl ⟨rfl, rfl, s0⟩))
            · exact .inr (.inr (.inr ⟨rfl, rfl, s0, by omega⟩))
          · exact .inr (.inl ⟨rfl, rfl⟩)
        · exact .inl rfl
    · have q7 : (k.k != 7) = true := by simp; omega
      have q0 : (k.k != 0) = true := by simp; omega
      exact ⟨.inr (.inl ⟨e1, q7, q0⟩), .inr (.inl ⟨e1, q7, q0⟩)⟩
  · have e1 : (t.k != 7) = true := by simp [q1]
    exact ⟨.inl e1, .inl e1⟩
theorem add_any (sv mv : Value) (c : CellD) (t h k : Val) (s : Int) (hc : c.ok) (ht : t.ok) (hh : h.ok) (hk : k.ok) (hf : c.fit) (hm : c.mo.length ≤ 1000) (w : World) (h1 : IsV w sv c.sl) (h2 : IsV w mv c.mo) :
    Calls Try.prog 14 #[cellV c.k c.sh c.fl c.ag sv mv, t.agg, h.agg, k.agg, .int .i64 s] w (RetC w (addC c t h k s) (.int .i64 (addE c t h k s))) := by
  cases hb : isB c
  · refine (add_err sv mv c t h k s 51 hc ht hh hk w h1 h2 (.inl ⟨hb, rfl⟩)).mono ?_
    rintro e w' ⟨rfl, hB⟩
    rw [show addC c t h k s = zeroC by simp [addC, hb], show addE c t h k s = 51 by simp [addE, hb]]
    exact ⟨_, _, rfl, .nil_, .nil_, hB⟩
  · cases ho : okAdd t h k s
    · refine (add_err sv mv c t h k s 1 hc ht hh hk w h1 h2 (.inr ⟨hb, rfl, (okAdd_no ho).1⟩)).mono ?_
      rintro e w' ⟨rfl, hB⟩
      rw [show addC c t h k s = zeroC by simp [addC, hb, ho], show addE c t h k s = 1 by simp [addE, hb, ho]]
      exact ⟨_, _, rfl, .nil_, .nil_, hB⟩
    · obtain ⟨q1, q2, q3, q4, q5, q6, q7⟩ := okAdd_yes ho
      refine (add_ok sv mv c t h k s hc ht hh hk hf hm w h1 h2 hb q1 q2 q3 q4 q5 q6 q7).mono ?_
      rintro e w' ⟨A1, n1, A2, n2, rfl, o1, o2, hB⟩
      rw [show addC c t h k s = ⟨c.k, c.sh, c.fl, c.ag, c.sl, c.mo ++ [t, h, k, numV s]⟩ by simp [addC, hb, ho], show addE c t h k s = 0 by simp [addE, hb, ho]]
      exact ⟨_, _, rfl, OwnV.isV o1, OwnV.isV o2, hB⟩
theorem radd_any (sv mv : Value) (c : CellD) (t h k : Val) (s : Int) (hc : c.ok) (ht : t.ok) (hh : h.ok) (hk : k.ok) (hf : c.fit) (hm : c.mo.length ≤ 1000) (w : World) (h1 : IsV w sv c.sl) (h2 : IsV w mv c.mo) :
    Calls Try.prog 20 #[cellV c.k c.sh c.fl c.ag sv mv, t.agg, h.agg, k.agg, .int .i64 s] w (RetC w (addC c t h k s) (.int .i64 (addE c t h k s))) := by
  cases hb : isB c
  · refine (radd_err sv mv c t h k s 51 hc ht hh hk w h1 h2 (.inl ⟨hb, rfl⟩)).mono ?_
    rintro e w' ⟨rfl, hB⟩
    rw [show addC c t h k s = zeroC by simp [addC, hb], show addE c t h k s = 51 by simp [addE, hb]]
    exact ⟨_, _, rfl, .nil_, .nil_, hB⟩
  · cases ho : okAdd t h k s
    · refine (radd_err sv mv c t h k s 1 hc ht hh hk w h1 h2 (.inr ⟨hb, rfl, (okAdd_no (c := c) ho).2⟩)).mono ?_
      rintro e w' ⟨rfl, hB⟩
      rw [show addC c t h k s = zeroC by simp [addC, hb, ho], show addE c t h k s = 1 by simp [addE, hb, ho]]
      exact ⟨_, _, rfl, .nil_, .nil_, hB⟩
    · obtain ⟨q1, q2, q3, q4, q5, q6, q7⟩ := okAdd_yes ho
      refine (radd_ok sv mv c t h k s hc ht hh hk hf hm w h1 h2 hb q1 q2 q3 q4 q5 q6 q7).mono ?_
      rintro e w' ⟨A1, n1, A2, n2, rfl, o1, o2, hB⟩
      rw [show addC c t h k s = ⟨c.k, c.sh, c.fl, c.ag, c.sl, c.mo ++ [t, h, k, numV s]⟩ by simp [addC, hb, ho], show addE c t h k s = 0 by simp [addE, hb, ho]]
      exact ⟨_, _, rfl, OwnV.isV o1, OwnV.isV o2, hB⟩
end Go.Proofs.Ytokoigjcakgpdaa
