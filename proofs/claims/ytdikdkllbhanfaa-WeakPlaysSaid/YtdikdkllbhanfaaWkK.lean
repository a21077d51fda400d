/- Weak maps: Set of a weak map with a fit key and value, by the program. -/
import Derived.Test.YtdikdkllbhanfaaWkJ
namespace Go.Proofs.Ytdikdkllbhanfaa
set_option linter.all false
open Go.RowKit Go.Sort Go.Deep Go.Shelf

/-- an append to a row of the call's own -/
theorem wpList_appW {ops : Array Oper} {rest : List Oper} {o : Oper} {a : Act} {w : World} {Q : Exit → Act → World → Prop} (hgd : o.guard = none) (lo : Nat) (s x : Operand)
    (hop : o.op = Op.call { callee := Callee.builtin Builtin.append, args := #[s, x], argTypes := #[22, 22] })
    (ys xs : List Val) {yv sv : Value} (hs : a.eval s = yv) (hx : a.eval x = sv) (hlo : lo ≤ w.heap.size) (hown : OwnV w lo yv ys) (hsv : IsV w sv xs) (hf : fitV (ys ++ xs))
    (hK : ∀ A n w', OwnV w' lo (.slice A (ys ++ xs).length n) (ys ++ xs) → Touch (fun k => yv.ownBlock = some k) w w' → wpList Try.prog ops Q rest (a.put o.dst (.slice A (ys ++ xs).length n)) w') : wpList Try.prog ops Q (o :: rest) a w := by
  refine wpList_plain hgd fun K hK' => ?_
  obtain ⟨A, n, w', hr, h2, h3⟩ := run_appV (ty := o.type) hown hlo hsv hf
  have hb : Touch (fun k => yv.ownBlock = some k) w w' := ⟨h3.os, h3.tape, h3.output, h3.size, fun k hk hn => h3.block k hk fun e => hn e.symm⟩
  unfold Oper.wp
  simp [execOp, hop, resolve, invoke, builtin, hs, hx, hr, Result.andThen]
  have := hK' _ _ (hK A n w' h2 hb)
  rw [List.length_append] at this
  exact this
theorem flat_set3 (r : Val) : ∀ (rs : List Val) (i : Nat), i < rs.length → (((flat Val.cs rs).set (i * 3) (.int .i64 r.k)).set (i * 3 + 1) (.int .i64 r.n)).set (i * 3 + 2) (.string r.s) = flat Val.cs (rs.set i r)
  | a :: rs, 0, _ => by simp [flat]
  | a :: rs, i + 1, h => by
    have := flat_set3 r rs i (by simpa using h)
    have e : (i + 1) * 3 = i * 3 + 3 := by omega
    simp only [flat, List.flatMap_cons, List.set_cons_succ] at this ⊢
    rw [← this, e]
    rfl
/-- a value stored into an owned row -/
theorem own_put {w : World} {lo g L n i : Nat} {xs : List Val} (hL : L = xs.length) (h : OwnV w lo (.slice (some ⟨g, 0, none⟩) L n) xs) (hi : i < xs.length) (v : Val) :
    OwnV (((w.setCell ⟨g, i * 3, none⟩ (.int .i64 v.k)).setCell ⟨g, i * 3 + 1, none⟩ (.int .i64 v.n)).setCell ⟨g, i * 3 + 2, none⟩ (.string v.s)) lo (.slice (some ⟨g, 0, none⟩) L n) (xs.set i v) := by
  subst hL
  unfold OwnV
  rw [List.length_set, ← flat_set3 v xs i hi]
  exact ownsRow_set (ownsRow_set (ownsRow_set h rfl (by omega) _) rfl (by omega) _) rfl (by omega) _
theorem getW_no {key : Val} {mo : List Val} {m k : Nat} (hk : k < m) (h : getW key mo ((List.finRange m).take k) = none) (he : (vAt mo (2 * k)).eq key = false) : getW key mo ((List.finRange m).take (k + 1)) = none := by
  rw [finRange_take m k hk]
  unfold getW at h ⊢
  rw [List.find?_append, h]
  simp [he]
theorem getW_yes {key : Val} {mo : List Val} {m k : Nat} (hk : k < m) (h : getW key mo ((List.finRange m).take k) = none) (he : (vAt mo (2 * k)).eq key = true) : getW key mo (List.finRange m) = some ⟨k, hk⟩ := by
  have e : List.finRange m = (List.finRange m).take (k + 1) ++ (List.finRange m).drop (k + 1) := (List.take_append_drop _ _).symm
  rw [e, finRange_take m k hk]
  unfold getW at h ⊢
  rw [List.find?_append, List.find?_append, h]
  simp [he]
theorem setL_some {key v : Val} {mo : List Val} {m : Nat} (hm : mo.length / 2 = m) {x : Fin m} (h : getW key mo (List.finRange m) = some x) : setL key v mo = mo.set (2 * x.val + 1) v := by
  subst hm; unfold setL; rw [h]
theorem setL_none {key v : Val} {mo : List Val} {m : Nat} (hm : mo.length / 2 = m) (h : getW key mo (List.finRange m) = none) : setL key v mo = mo ++ [key, v] := by
  subst hm; unfold setL; rw [h]
theorem own_free {w : World} {lo g L n : Nat} {xs : List Val} (h : OwnV w lo (.slice (some ⟨g, 0, none⟩) L n) xs) : ∀ o, w.frozen? ⟨g, o, none⟩ = false := fun o => by
  rcases h.2 with ⟨e, _⟩ | ⟨g', cap, cur, e, _, hg, _⟩
  · cases e
  · simp only [Value.slice.injEq, Option.some.injEq, Addr.mk.injEq] at e
    obtain ⟨⟨rfl, _⟩, _⟩ := e
    exact frozen_of_row w g _ cur _ hg
theorem own_addr {w : World} {lo n : Nat} {A : Option Addr} {xs : List Val} (h : OwnV w lo (.slice A xs.length n) xs) (h0 : 0 < xs.length) : ∃ g, A = some ⟨g, 0, none⟩ := by
  rcases h.2 with ⟨_, h1⟩ | ⟨g, cap, cur, e, _⟩
  · omega
  · simp only [Value.slice.injEq] at e
    exact ⟨g, e.1⟩

set_option maxRecDepth 100000 in
set_option maxHeartbeats 8000000 in
theorem set_yes (sv mv : Value) (c : CellD) (key v : Val) (hc : c.ok) (hf : c.fit) (hml : c.mo.length ≤ 1000) (hk : key.ok) (hv : v.ok) (w : World) (h1 : IsV w sv c.sl) (h2 : IsV w mv c.mo) (hb : isW c = true) (ho : okSet key v = true) :
    Calls Try.prog 16 #[cellV c.k c.sh c.fl c.ag sv mv, key.agg, v.agg] w (RetP w ⟨c.k, c.sh, c.fl, c.ag, c.sl, setL key v c.mo⟩ (.int .i64 0)) := by
  obtain ⟨A0, n0, rfl, _, _⟩ := h1.form
  obtain ⟨A2, n2, rfl, _, _⟩ := h2.form
  have H1 := Lib.hid h1
  have H2 := Lib.hid h2
  have HF := Lib.hid hf
  obtain ⟨m, hm, hk8, hmx⟩ := isW_len hb
  clear hk8 hmx
  have HM := Lib.hid (show c.mo.length = 2 * m ∧ c.mo.length / 2 = m ∧ c.mo.length ≤ 1000 by omega)
  have IS := Lib.hid (fun W a b => by have := is_any _ _ c hc W a b; rw [hb] at this; exact this : ∀ (W : World), IsV W (.slice A0 c.sl.length n0) c.sl → IsV W (.slice A2 c.mo.length n2) c.mo → Calls Try.prog 26 #[cellV c.k c.sh c.fl c.ag (.slice A0 c.sl.length n0) (.slice A2 c.mo.length n2)] W fun e w' => e = .returned (.bool true) ∧ Below W.heap.size W w')
  obtain ⟨_, e1, e2, e3, e4⟩ | ⟨ho', _⟩ := okSet_cases key v
  case inr => rw [ho] at ho'; cases ho'
  have K1 := Lib.hid (show ∀ W, Calls Try.prog 35 #[key.agg] W fun e w' => e = .returned (.bool true) ∧ Below W.heap.size W w' from fun W => by have := wmay_any key hk W; rw [e2] at this; exact this)
  have K2 := Lib.hid (show ∀ W, Calls Try.prog 35 #[v.agg] W fun e w' => e = .returned (.bool true) ∧ Below W.heap.size W w' from fun W => by have := wmay_any v hv W; rw [e3] at this; exact this)
  clear h1 h2 hc hb ho hk hv hf hm hml e2 e3
  go_enter Try.func16, Try.ntmps16
  go_upto_region 1 with fail
  refine wp_world (fun W => W.heap[w.heap.size]? = some (cellO c.k c.sh c.fl c.ag (.slice A0 c.sl.length n0) (.slice A2 c.mo.length n2)) ∧ W.heap[w.heap.size + 1]? = some (valB key) ∧ W.heap[w.heap.size + 1 + 1]? = some (valB v) ∧ W.heap[w.heap.size + 1 + 1 + 1]? = some (cellO 0 0 0 0 (.slice none 0 0) (.slice none 0 0)) ∧ Below w.heap.size w W) (heap4c w _ _ _ _) ?_
  rintro W ⟨j1, j2, j3, j4, jb⟩
  have l0 : w.heap.size < W.heap.size := (Array.getElem?_eq_some_iff.1 j1).1
  have l1 : w.heap.size + 1 < W.heap.size := (Array.getElem?_eq_some_iff.1 j2).1
  have l2 : w.heap.size + 1 + 1 < W.heap.size := (Array.getElem?_eq_some_iff.1 j3).1
  have l3 : w.heap.size + 1 + 1 + 1 < W.heap.size := (Array.getElem?_eq_some_iff.1 j4).1
  have KK := Lib.hid (show ∀ X, Below W.heap.size W X → X.heap[w.heap.size + 1]? = some (valB key) ∧ X.heap[w.heap.size + 1 + 1]? = some (valB v) ∧ X.heap[w.heap.size + 1 + 1 + 1]? = some (cellO 0 0 0 0 (.slice none 0 0) (.slice none 0 0)) from fun X h => ⟨(h.block _ l1).trans j2, (h.block _ l2).trans j3, (h.block _ l3).trans j4⟩)
  have BW := Lib.hid jb
  have I1 := Lib.hid (H1.out.below jb)
  have I2 := Lib.hid (H2.out.below jb)
  obtain ⟨⟨a0, a1, a2, a3, a4, a5⟩, _⟩ := cells6 j1
  obtain ⟨t0, t1, t2⟩ := cells3 j2
  obtain ⟨u0, u1, u2⟩ := cells3 j3
  clear j1 j2 j3 j4 jb H1 H2
  go_upto_region 6 with (first
    | (go_at_call 26; refine (callGr (IS.out _ (I1.out.below (by (repeat (with_reducible first | exact Below.refl _ _ | (refine bl_set ?_ (by first | omega | (simp; done) | (simp; omega)) _) | refine bl_gr ?_ _ | refine bl_al ?_ _ | refine below_setRow ?_ (by first | omega | (simp; done) | (simp; omega)) _ | refine bl_drewN ?_ _ | refine Below.drew ?_ | (refine bl_tr ?_ (by assumption)))))) (I2.out.below (by (repeat (with_reducible first | exact Below.refl _ _ | (refine bl_set ?_ (by first | omega | (simp; done) | (simp; omega)) _) | refine bl_gr ?_ _ | refine bl_al ?_ _ | refine below_setRow ?_ (by first | omega | (simp; done) | (simp; omega)) _ | refine bl_drewN ?_ _ | refine Below.drew ?_ | (refine bl_tr ?_ (by assumption)))))))).mono ?_; rintro e w' ⟨pp, rfl, rfl⟩)
    | (go_at_call_of 35 key.s; refine (callGr (K1.out _)).mono ?_; rintro e w' ⟨pp, rfl, rfl⟩)
    | (go_at_call_of 35 v.s; refine (callGr (K2.out _)).mono ?_; rintro e w' ⟨pp, rfl, rfl⟩)
    | (go_at_call 36; refine (copy_any _ _ c _ (I1.out.below (by (repeat (with_reducible first | exact Below.refl _ _ | (refine bl_set ?_ (by first | omega | (simp; done) | (simp; omega)) _) | refine bl_gr ?_ _ | refine bl_al ?_ _ | refine below_setRow ?_ (by first | omega | (simp; done) | (simp; omega)) _ | refine bl_drewN ?_ _ | refine Below.drew ?_ | (refine bl_tr ?_ (by assumption)))))) (I2.out.below (by (repeat (with_reducible first | exact Below.refl _ _ | (refine bl_set ?_ (by first | omega | (simp; done) | (simp; omega)) _) | refine bl_gr ?_ _ | refine bl_al ?_ _ | refine below_setRow ?_ (by first | omega | (simp; done) | (simp; omega)) _ | refine bl_drewN ?_ _ | refine Below.drew ?_ | (refine bl_tr ?_ (by assumption)))))) HF.out).mono ?_; rintro e w3 ⟨A5, n5, A6, n6, rfl, o1, o2, od, hb⟩; have OO := Lib.hid (And.intro (ownsRow_low o1 (show W.heap.size ≤ _ by simp [gr_size])) (And.intro (ownsRow_low o2 (show W.heap.size ≤ _ by simp [gr_size])) (And.intro od (show Below W.heap.size W w3 from bl_tr (by (repeat (with_reducible first | exact Below.refl _ _ | (refine bl_set ?_ (by first | omega | (simp; done) | (simp; omega)) _) | refine bl_gr ?_ _ | refine bl_al ?_ _ | refine below_setRow ?_ (by first | omega | (simp; done) | (simp; omega)) _ | refine bl_drewN ?_ _ | refine Below.drew ?_ | (refine bl_tr ?_ (by assumption))))) hb)))); clear o1 o2 od hb))
  refine wp_world (fun X => X.heap[w3.heap.size]? = some (cellO c.k c.sh c.fl c.ag (.slice A5 c.sl.length n5) (.slice A6 c.mo.length n6)) ∧ Below w3.heap.size w3 X) ⟨heap_alloc_new _ _, bl_al (Below.refl _ _) _⟩ ?_
  rintro X ⟨z0, zb⟩
  have lO : w3.heap.size < X.heap.size := (Array.getElem?_eq_some_iff.1 z0).1
  have sO := OO.out.2.2.2.size
  have XX := Lib.hid (show (∀ Z, Below X.heap.size X Z → Z.heap[w3.heap.size]? = some (cellO c.k c.sh c.fl c.ag (.slice A5 c.sl.length n5) (.slice A6 c.mo.length n6)) ∧ OwnV Z W.heap.size (.slice A5 c.sl.length n5) c.sl ∧ OwnV Z W.heap.size (.slice A6 c.mo.length n6) c.mo ∧ Below W.heap.size W Z) ∧ (∀ g, Value.ownBlock (.slice A5 c.sl.length n5) = some g → g < w3.heap.size) ∧ (∀ g, Value.ownBlock (.slice A6 c.mo.length n6) = some g → g < w3.heap.size) ∧ (∀ b, Value.ownBlock (.slice A5 c.sl.length n5) = some b → Value.ownBlock (.slice A6 c.mo.length n6) ≠ some b) from
    ⟨fun Z hZ => ⟨(hZ.block _ lO).trans z0, ownsRow_below (ownsRow_below OO.out.1 zb) hZ, ownsRow_below (ownsRow_below OO.out.2.1 zb) hZ, bl_tr OO.out.2.2.2 (bl_tr zb hZ)⟩, fun g hg => (OO.out.1.lt _ hg).2, fun g hg => (OO.out.2.1.lt _ hg).2, OO.out.2.2.1⟩)
  clear z0 zb OO a0 a1 a2 a3 a4 a5 t0 t1 t2 u0 u1 u2
  go_wp2
  go_loopw [9] (fun i wr => ∃ k : Nat, k ≤ m ∧ i = .int .i64 ((2 * k : Nat) : Int) ∧ Hid (getW key c.mo ((List.finRange m).take k) = none) ∧ Below X.heap.size X wr) (fun i _ => 2 * m - (intOf i).toNat)
  case atStart => exact ⟨0, by omega, by simp, Lib.hid rfl, Below.refl _ _⟩
  case round =>
    obtain ⟨k, hk, rfl, HG, hB⟩ := hrel
    obtain ⟨q1, q2, q3, q4⟩ := XX.out.1 wr hB
    obtain ⟨⟨p0, p1, p2, p3, p4, p5⟩, _⟩ := cells6 q1
    obtain ⟨k1, k2, k3⟩ := KK.out wr q4
    obtain ⟨t0, t1, t2⟩ := cells3 k1
    obtain ⟨u0, u1, u2⟩ := cells3 k2
    have hml := HM.out
    have sX := hB.size
    by_cases hlt : k < m
    · obtain ⟨g, rfl⟩ := own_addr q3 (by omega)
      obtain ⟨lg, x0, x1, x2⟩ := (OwnV.isV q3).v3 (2 * k) (by omega)
      obtain ⟨_, z0, z1, z2⟩ := (OwnV.isV q3).v3 (2 * k + 1) (by omega)
      have fz := own_free q3
      have INV := Lib.hid (And.intro q1 (And.intro q2 (And.intro q3 (And.intro q4 (And.intro k3 hB)))))
      clear q1 q2 q3 q4 k1 k2 k3
      simp only [Nat.zero_add] at x0 x1 x2 z0 z1 z2
      cases he : (vAt c.mo (2 * k)).eq key
      · have HE := Lib.hid (getW_no hlt HG.out he)
        generalize hL : c.mo.length = L at *
        generalize hq : 2 * k = q at *
        generalize vAt c.mo q = u at *
        have he' : (Val.mk u.k u.n u.s).eq ⟨key.k, key.n, key.s⟩ = false := he
        have g1 : ¬ (q : Int) < 0 := by omega
        have g2 : (q : Int) < L := by omega
        have g3 : (q : Int) + 1 < L := by omega
        have g6 : q ≤ 1000 := by omega
        have HQ := Lib.hid (And.intro hL hq)
        clear he hL hq hml hB
        go_upto_region 9 with fail
        (refine wp_region_held_drew (S := (fun Z : World => Z.cell? ⟨w3.heap.size, 5, none⟩ = some (.slice (some ⟨g, 0, none⟩) L n6) ∧ Z.cell? ⟨w.heap.size + 1, 0, none⟩ = some (.int .i64 key.k) ∧ Z.cell? ⟨w.heap.size + 1, 1, none⟩ = some (.int .i64 key.n) ∧ Z.cell? ⟨w.heap.size + 1, 2, none⟩ = some (.string key.s) ∧ Z.cell? ⟨g, q * 3, none⟩ = some (.int .i64 u.k) ∧ Z.cell? ⟨g, q * 3 + 1, none⟩ = some (.int .i64 u.n) ∧ Z.cell? ⟨g, q * 3 + 2, none⟩ = some (.string u.s))) Try.mixed (by exact ⟨p5, t0, t1, t2, x0, x1, x2⟩) (fun hS => ?_); (refine wpAnyH_take (i := 0) (v := ?_) rfl (by kernel_rfl) (by kernel_rfl) (by kernel_rfl) (fun _ _ _ h => h) ?_ (by assumption) ?_; rotate_left; (next => (refine Or.inl ⟨by kernel_rfl, ?_⟩; ((intro w hSw; (try dsimp only at hSw); go_simp) <;> with_reducible rfl))); (try simp only [Act.put, List.setIfInBounds_toArray, List.set_cons_zero, List.set_cons_succ])); (refine wpAnyH_take (i := 1) (v := ?_) rfl (by kernel_rfl) (by kernel_rfl) (by kernel_rfl) (fun _ _ _ h => h) ?_ (by assumption) ?_; rotate_left; (next => (refine Or.inl ⟨by kernel_rfl, ?_⟩; ((intro w hSw; (try dsimp only at hSw); obtain ⟨s0, s1, s2, s3, s4, s5, s6⟩ := hSw; go_simp) <;> with_reducible rfl))); (try simp only [Act.put, List.setIfInBounds_toArray, List.set_cons_zero, List.set_cons_succ])); (refine wpAnyH_take (i := 2) (v := ?_) rfl (by kernel_rfl) (by kernel_rfl) (by kernel_rfl) (fun _ _ _ h => h) ?_ (by assumption) ?_; rotate_left; (next => (refine Or.inl ⟨by kernel_rfl, ?_⟩; ((intro w hSw; (try dsimp only at hSw); go_simp) <;> with_reducible rfl))); (try simp only [Act.put, List.setIfInBounds_toArray, List.set_cons_zero, List.set_cons_succ])); (refine wpAnyH_take (i := 3) (v := ?_) rfl (by kernel_rfl) (by kernel_rfl) (by kernel_rfl) (fun _ _ _ h => h) ?_ (by assumption) ?_; rotate_left; (next => (refine Or.inl ⟨by kernel_rfl, ?_⟩; ((intro w hSw; (try dsimp only at hSw); go_simp) <;> with_reducible rfl))); (try simp only [Act.put, List.setIfInBounds_toArray, List.set_cons_zero, List.set_cons_succ])); (refine wpAnyH_take (i := 4) (v := ?_) rfl (by kernel_rfl) (by kernel_rfl) (by kernel_rfl) (fun _ _ _ h => h) ?_ (by assumption) ?_; rotate_left; (next => (refine Or.inl ⟨by kernel_rfl, ?_⟩; ((intro w hSw; (try dsimp only at hSw); obtain ⟨s0, s1, s2, s3, s4, s5, s6⟩ := hSw; go_simp) <;> with_reducible rfl))); (try simp only [Act.put, List.setIfInBounds_toArray, List.set_cons_zero, List.set_cons_succ])); (refine wpAnyH_take (i := 5) (v := ?_) rfl (by kernel_rfl) (by kernel_rfl) (by kernel_rfl) (fun _ _ _ h => h) ?_ (by assumption) ?_; rotate_left; (next => (refine Or.inl ⟨by kernel_rfl, ?_⟩; ((intro w hSw; (try dsimp only at hSw); obtain ⟨s0, s1, s2, s3, s4, s5, s6⟩ := hSw; go_simp) <;> with_reducible rfl))); (try simp only [Act.put, List.setIfInBounds_toArray, List.set_cons_zero, List.set_cons_succ])); (refine wpAnyH_take (i := 6) (v := ?_) rfl (by kernel_rfl) (by kernel_rfl) (by kernel_rfl) (fun _ _ _ h => h) ?_ (by assumption) ?_; rotate_left; (next => (refine Or.inl ⟨by kernel_rfl, ?_⟩; ((intro w hSw; (try dsimp only at hSw); go_simp) <;> with_reducible rfl))); (try simp only [Act.put, List.setIfInBounds_toArray, List.set_cons_zero, List.set_cons_succ])); refine wpAnyH_done (by kernel_rfl) ?_ _)
        go_simp
        go_wp2
        go_roundw
        case rel => exact ⟨k + 1, by omega, by have := HQ.out.2; rw [show 2 * (k + 1) = q + 2 by omega]; go_num, Lib.hid HE.out, INV.out.2.2.2.2.2.drew⟩
        case measure => have := HQ.out.2; simp [intOf]; omega
      · have HE := Lib.hid (setL_some (v := v) HM.out.2.1 (getW_yes hlt HG.out he))
        generalize hL : c.mo.length = L at *
        generalize hq : 2 * k = q at *
        generalize vAt c.mo q = u at *
        have he' : (Val.mk u.k u.n u.s).eq ⟨key.k, key.n, key.s⟩ = true := he
        have g1 : ¬ (q : Int) < 0 := by omega
        have g2 : (q : Int) < L := by omega
        have g3 : (q : Int) + 1 < L := by omega
        have g6 : q ≤ 1000 := by omega
        have HQ := Lib.hid (And.intro hL hq)
        clear he hL hq hml hB
        go_upto_region 9 with fail
        (refine wp_region_held_drew (S := (fun Z : World => Z.cell? ⟨w3.heap.size, 5, none⟩ = some (.slice (some ⟨g, 0, none⟩) L n6) ∧ Z.cell? ⟨w.heap.size + 1, 0, none⟩ = some (.int .i64 key.k) ∧ Z.cell? ⟨w.heap.size + 1, 1, none⟩ = some (.int .i64 key.n) ∧ Z.cell? ⟨w.heap.size + 1, 2, none⟩ = some (.string key.s) ∧ Z.cell? ⟨g, q * 3, none⟩ = some (.int .i64 u.k) ∧ Z.cell? ⟨g, q * 3 + 1, none⟩ = some (.int .i64 u.n) ∧ Z.cell? ⟨g, q * 3 + 2, none⟩ = some (.string u.s))) Try.mixed (by exact ⟨p5, t0, t1, t2, x0, x1, x2⟩) (fun hS => ?_); (refine wpAnyH_take (i := 0) (v := ?_) rfl (by kernel_rfl) (by kernel_rfl) (by kernel_rfl) (fun _ _ _ h => h) ?_ (by assumption) ?_; rotate_left; (next => (refine Or.inl ⟨by kernel_rfl, ?_⟩; ((intro w hSw; (try dsimp only at hSw); go_simp) <;> with_reducible rfl))); (try simp only [Act.put, List.setIfInBounds_toArray, List.set_cons_zero, List.set_cons_succ])); (refine wpAnyH_take (i := 1) (v := ?_) rfl (by kernel_rfl) (by kernel_rfl) (by kernel_rfl) (fun _ _ _ h => h) ?_ (by assumption) ?_; rotate_left; (next => (refine Or.inl ⟨by kernel_rfl, ?_⟩; ((intro w hSw; (try dsimp only at hSw); obtain ⟨s0, s1, s2, s3, s4, s5, s6⟩ := hSw; go_simp) <;> with_reducible rfl))); (try simp only [Act.put, List.setIfInBounds_toArray, List.set_cons_zero, List.set_cons_succ])); (refine wpAnyH_take (i := 2) (v := ?_) rfl (by kernel_rfl) (by kernel_rfl) (by kernel_rfl) (fun _ _ _ h => h) ?_ (by assumption) ?_; rotate_left; (next => (refine Or.inl ⟨by kernel_rfl, ?_⟩; ((intro w hSw; (try dsimp only at hSw); go_simp) <;> with_reducible rfl))); (try simp only [Act.put, List.setIfInBounds_toArray, List.set_cons_zero, List.set_cons_succ])); (refine wpAnyH_take (i := 3) (v := ?_) rfl (by kernel_rfl) (by kernel_rfl) (by kernel_rfl) (fun _ _ _ h => h) ?_ (by assumption) ?_; rotate_left; (next => (refine Or.inl ⟨by kernel_rfl, ?_⟩; ((intro w hSw; (try dsimp only at hSw); go_simp) <;> with_reducible rfl))); (try simp only [Act.put, List.setIfInBounds_toArray, List.set_cons_zero, List.set_cons_succ])); (refine wpAnyH_take (i := 4) (v := ?_) rfl (by kernel_rfl) (by kernel_rfl) (by kernel_rfl) (fun _ _ _ h => h) ?_ (by assumption) ?_; rotate_left; (next => (refine Or.inl ⟨by kernel_rfl, ?_⟩; ((intro w hSw; (try dsimp only at hSw); obtain ⟨s0, s1, s2, s3, s4, s5, s6⟩ := hSw; go_simp) <;> with_reducible rfl))); (try simp only [Act.put, List.setIfInBounds_toArray, List.set_cons_zero, List.set_cons_succ])); (refine wpAnyH_take (i := 5) (v := ?_) rfl (by kernel_rfl) (by kernel_rfl) (by kernel_rfl) (fun _ _ _ h => h) ?_ (by assumption) ?_; rotate_left; (next => (refine Or.inl ⟨by kernel_rfl, ?_⟩; ((intro w hSw; (try dsimp only at hSw); obtain ⟨s0, s1, s2, s3, s4, s5, s6⟩ := hSw; go_simp) <;> with_reducible rfl))); (try simp only [Act.put, List.setIfInBounds_toArray, List.set_cons_zero, List.set_cons_succ])); (refine wpAnyH_take (i := 6) (v := ?_) rfl (by kernel_rfl) (by kernel_rfl) (by kernel_rfl) (fun _ _ _ h => h) ?_ (by assumption) ?_; rotate_left; (next => (refine Or.inl ⟨by kernel_rfl, ?_⟩; ((intro w hSw; (try dsimp only at hSw); go_simp) <;> with_reducible rfl))); (try simp only [Act.put, List.setIfInBounds_toArray, List.set_cons_zero, List.set_cons_succ])); refine wpAnyH_done (by kernel_rfl) ?_ _)
        go_simp
        go_upto_region 11 with fail
        refine wp_world (fun Y => OwnV Y W.heap.size (.slice (some ⟨g, 0, none⟩) L n6) (c.mo.set (q + 1) v) ∧ Touch (fun b => b = g) wr Y) ⟨?_, ?_⟩ ?_
        · have := own_put (i := q + 1) (HQ.out.1.symm) (ownsRow_below INV.out.2.2.1 (Below.drew (Below.refl _ _))) (by have := HQ.out.1; omega) v
          exact this
        · exact (((Touch.refl (fun b => b = g) wr).drew.set1 _ _).set1 _ _).set1 _ _
        rintro Y ⟨o9, T9⟩
        obtain ⟨q1, q2, q3, q4, k3, hB⟩ := INV.out
        have gO := XX.out.2.2.1 g rfl
        have hwg : w.heap.size ≤ g := by have := (q3.lt g rfl).1; omega
        have gR : g ≠ w.heap.size + 1 + 1 + 1 := fun e => by subst e; exact own_ne q3 rfl k3 (by decide) rfl
        have QO := Lib.hid ((T9.block _ (by omega) (by omega)).trans q1)
        have RB := Lib.hid ((T9.block _ (by omega) (Ne.symm gR)).trans k3)
        have F1 := Lib.hid (OwnV.isV (ownsRow_touch q2 T9 (fun b hb e => XX.out.2.2.2 b hb (by rw [e]; rfl))))
        have F2 := Lib.hid (show IsV Y (.slice (some ⟨g, 0, none⟩) L n6) (c.mo.set (q + 1) v) by have := OwnV.isV (w := Y) (lo := W.heap.size) o9; exact this)
        have BY := Lib.hid (show Below w.heap.size w Y from (bl_tr BW.out q4).trans (T9.below (bl_tr BW.out q4).size (fun b (hb : b = g) => hb ▸ hwg)))
        have lY := T9.size
        have lg9 := (q3.lt _ rfl).1
        clear q1 q2 q3 q4 k3 hB o9 T9 p0 p1 p2 p3 p4 p5 t0 t1 t2 u0 u1 u2 x0 x1 x2 z0 z1 z2 hS fz
        obtain ⟨⟨d0, d1, d2, d3, d4, d5⟩, _⟩ := cells6 QO.out
        obtain ⟨⟨x0, x1, x2, x3, x4, x5⟩, y0, y1, y2, y3, y4, y5⟩ := cells6 RB.out
        go_wp2
        refine wp_post (fun Y2 => Y2.heap[w.heap.size + 1 + 1 + 1]? = some (cellO c.k c.sh c.fl c.ag (.slice A5 c.sl.length n5) (.slice (some ⟨g, 0, none⟩) L n6)) ∧ Touch (fun b => b = w.heap.size + 1 + 1 + 1) Y Y2 ∧ Below w.heap.size w Y2) (put6 BY.out (by omega) RB.out) ?_
        rintro Y2 ⟨r1, rt, rb⟩
        have f1 := setI F1.out RB.out rt
        have f2 := setI F2.out RB.out rt
        have FF := Lib.hid (And.intro f1 (And.intro f2 rb))
        clear f1 f2 rb rt d0 d1 d2 d3 d4 d5 x0 x1 x2 x3 x4 x5 y0 y1 y2 y3 y4 y5
        obtain ⟨⟨b0, b1, b2, b3, b4, b5⟩, _⟩ := cells6 r1
        refine bodyPost_ret (v := .tuple #[cellV c.k c.sh c.fl c.ag (.slice A5 c.sl.length n5) (.slice (some ⟨g, 0, none⟩) L n6), .int .i64 0]) (by clear r1; simp [results, Try.results16, go_sem, *]) rfl ?_
        have hs : setL key v c.mo = c.mo.set (q + 1) v := HE.out
        rw [hs]
        exact ⟨_, _, _, _, by rw [List.length_set, HQ.out.1], FF.out.1, by rw [List.length_set, HQ.out.1]; exact FF.out.2.1, FF.out.2.2⟩
    · have hkm : k = m := by omega
      have HE := Lib.hid (show getW key c.mo (List.finRange m) = none by have := HG.out; rwa [hkm, List.take_of_length_le (by simp)] at this)
      have INV := Lib.hid (And.intro q1 (And.intro q2 (And.intro q3 (And.intro q4 (And.intro k3 hB)))))
      obtain ⟨_, f0, f1, f2, f3, f4, f5⟩ := cells6 q1
      have h12 : ¬ ((2 * k : Nat) : Int) < c.mo.length := by omega
      have hfull : decide ((1048576 : Int) < (c.mo.length : Int) + 2) = false := decide_eq_false (by omega)
      have hfull2 : ¬ (1048576 : Int) < (c.mo.length : Int) + 2 := by omega
      have fB := Lib.hid (show fitV (c.mo ++ [key, v]) by unfold fitV; rw [List.length_append]; simp; omega)
      have lW := q4.size
      have lw3 : w3.heap.size < wr.heap.size := by omega
      clear q1 q2 q3 q4 k1 k2 k3 hB hml
      go_upto_region 15 with (at_builtin; refine wpList_appW rfl W.heap.size _ _ rfl c.mo [key, v] rfl rfl ?_ (INV.out.2.2.1.alloc _) (lit_valsB (l := [key, v]) (k := 2) rfl rfl rfl (by omega)) fB.out ?_; (next => (rw [World.size_alloc]; omega)); intro A9 n9 w9 o9 t9; have T9 : Touch (fun g => Value.ownBlock (.slice A6 c.mo.length n6) = some g) wr w9 := ((Touch.refl _ wr).alloc _).trans t9 (fun _ _ h => h); have y9 := (T9.block _ lw3 (fun e => by have := XX.out.2.2.1 _ e; omega)).trans INV.out.1; obtain ⟨_, x0, x1, x2, x3, x4, x5⟩ := cells6 y9; have R := Lib.hid (And.intro o9 (And.intro T9 y9)); clear o9 t9 T9 y9)
      refine wp_world (fun Y => Y.heap[w3.heap.size]? = some (cellO c.k c.sh c.fl c.ag (.slice A5 c.sl.length n5) (.slice A9 (c.mo.length + 2) n9)) ∧ Touch (fun b => b = w3.heap.size) w9 Y) ⟨?_, ?_⟩ ?_
      · have := heap_setCell_same w9 w3.heap.size 5 _ _ (.slice A9 (c.mo.length + 2) n9) R.out.2.2
        simpa using this
      · exact (Touch.refl (fun b => b = w3.heap.size) w9).set1 _ _
      rintro Y ⟨k9, TY⟩
      obtain ⟨q1, q2, q3, q4, k3, hB⟩ := INV.out
      obtain ⟨o9, t9, y9⟩ := R.out
      have TT : Touch (fun b => Value.ownBlock (.slice A6 c.mo.length n6) = some b ∨ b = w3.heap.size) wr Y := (t9.mono (fun _ _ h => .inl h)).trans TY (fun _ _ h => .inr h)
      have nR : ∀ b, Value.ownBlock (.slice A6 c.mo.length n6) = some b ∨ b = w3.heap.size → b ≠ w.heap.size + 1 + 1 + 1 := fun b h => by
        rcases h with h | h
        · exact own_ne q3 h k3 (by decide)
        · omega
      have QO := Lib.hid k9
      have RB := Lib.hid ((TT.block _ (by omega) (fun h => nR _ h rfl)).trans k3)
      have F1 := Lib.hid (OwnV.isV (ownsRow_touch q2 TT (fun b hb e => by
        rcases e with e | e
        · exact XX.out.2.2.2 b hb e
        · have := XX.out.2.1 b hb; omega)))
      have F2 := Lib.hid (show IsV Y (.slice A9 (c.mo.length + 2) n9) (c.mo ++ [key, v]) by have := (OwnV.isV (ownsRow_touch o9 TY (fun b hb (e : b = w3.heap.size) => own_ne o9 hb y9 (by decide) e))); simpa using this)
      have BY := Lib.hid (show Below w.heap.size w Y from (bl_tr BW.out q4).trans (TT.below (bl_tr BW.out q4).size (fun b h => by
        rcases h with h | h
        · have := (q3.lt _ h).1; omega
        · rw [h]; omega)))
      have lY := TT.size
      clear q1 q2 q3 q4 k3 hB o9 t9 y9 TY TT k9 R p0 p1 p2 p3 p4 p5 t0 t1 t2 u0 u1 u2 x0 x1 x2 x3 x4 x5 f0 f1 f2 f3 f4 f5 nR
      obtain ⟨⟨d0, d1, d2, d3, d4, d5⟩, _⟩ := cells6 QO.out
      obtain ⟨⟨x0, x1, x2, x3, x4, x5⟩, y0, y1, y2, y3, y4, y5⟩ := cells6 RB.out
      go_wp2
      refine wp_post (fun Y2 => Y2.heap[w.heap.size + 1 + 1 + 1]? = some (cellO c.k c.sh c.fl c.ag (.slice A5 c.sl.length n5) (.slice A9 (c.mo.length + 2) n9)) ∧ Touch (fun b => b = w.heap.size + 1 + 1 + 1) Y Y2 ∧ Below w.heap.size w Y2) (put6 BY.out (by omega) RB.out) ?_
      rintro Y2 ⟨r1, rt, rb⟩
      have f1 := setI F1.out RB.out rt
      have f2 := setI F2.out RB.out rt
      have FF := Lib.hid (And.intro f1 (And.intro f2 rb))
      clear f1 f2 rb rt d0 d1 d2 d3 d4 d5 x0 x1 x2 x3 x4 x5 y0 y1 y2 y3 y4 y5
      obtain ⟨⟨b0, b1, b2, b3, b4, b5⟩, _⟩ := cells6 r1
      refine bodyPost_ret (v := .tuple #[cellV c.k c.sh c.fl c.ag (.slice A5 c.sl.length n5) (.slice A9 (c.mo.length + 2) n9), .int .i64 0]) (by clear r1; simp [results, Try.results16, go_sem, *]) rfl ?_
      rw [setL_none (v := v) HM.out.2.1 HE.out]
      exact ⟨_, _, _, _, by rw [List.length_append]; rfl, FF.out.1, by rw [List.length_append]; exact FF.out.2.1, FF.out.2.2⟩
theorem set_any (sv mv : Value) (c : CellD) (key v : Val) (hc : c.ok) (hf : c.fit) (hml : c.mo.length ≤ 1000) (hk : key.ok) (hv : v.ok) (w : World) (h1 : IsV w sv c.sl) (h2 : IsV w mv c.mo) :
    Calls Try.prog 16 #[cellV c.k c.sh c.fl c.ag sv mv, key.agg, v.agg] w (RetP w (setC c key v) (.int .i64 (setE c key v))) := by
  cases hb : isW c
  · rw [show setC c key v = zeroC by simp [setC, hb], show setE c key v = 51 by simp [setE, hb]]
    exact set_no sv mv c key v hc w h1 h2 hb
  · cases ho : okSet key v
    · rw [show setC c key v = zeroC by simp [setC, ho], show setE c key v = 1 by simp [setE, hb, ho]]
      exact set_arg sv mv c key v hc hk hv w h1 h2 hb ho
    · rw [show setC c key v = ⟨c.k, c.sh, c.fl, c.ag, c.sl, setL key v c.mo⟩ by simp [setC, hb, ho], show setE c key v = 0 by simp [setE, hb, ho]]
      exact set_yes sv mv c key v hc hf hml hk hv w h1 h2 hb ho
end Go.Proofs.Ytdikdkllbhanfaa
