/- Weak maps: the reference's without. -/
import Derived.Test.YtdikdkllbhanfaaWkL
namespace Go.Proofs.Ytdikdkllbhanfaa
set_option linter.all false
open Go.RowKit Go.Sort Go.Deep Go.Shelf

theorem step_appW {ops : Array Oper} {o : Oper} {a : Act} {w : World} {K : Act → World → Prop} {Q : Exit → Act → World → Prop} {E : Prop} (lo : Nat)
    (hg : o.guard = none) (s x : Operand) (hop : o.op = Op.call { callee := Callee.builtin Builtin.append, args := #[s, x], argTypes := #[22, 22] })
    (ys xs : List Val) {yv sv : Value} (hs : a.eval s = yv) (hx : a.eval x = sv) (hlo : lo ≤ w.heap.size) (hown : OwnV w lo yv ys) (hsv : IsV w sv xs) (hf : fitV (ys ++ xs))
    (hK : ∀ A n w', OwnV w' lo (.slice A (ys ++ xs).length n) (ys ++ xs) → Touch (fun k => yv.ownBlock = some k) w w' → K (a.put o.dst (.slice A (ys ++ xs).length n)) w') :
    if Region.wanted o (yielded ops a.tmps) = true then Oper.wp Try.prog o a w K Q else E := by
  have hw : Region.wanted o (yielded ops a.tmps) = true := by simp [Region.wanted, hg]
  rw [if_pos hw]
  obtain ⟨A, n, w', hr, h2, h3⟩ := run_appV (ty := o.type) hown hlo hsv hf
  have hb : Touch (fun k => yv.ownBlock = some k) w w' := ⟨h3.os, h3.tape, h3.output, h3.size, fun k hk hn => h3.block k hk fun e => hn e.symm⟩
  unfold Oper.wp
  simp [execOp, hop, resolve, invoke, builtin, hs, hx, hr, Result.andThen]
  have := hK A n w' h2 hb
  rw [List.length_append] at this
  exact this
theorem own_T {W X w3 : World} {lo : Nat} {yv : Value} {ys : List Val} (hX : Below W.heap.size W X) (ho : OwnV X lo yv ys) (h0 : W.heap.size ≤ lo) (t3 : Touch (fun k => yv.ownBlock = some k) X w3) : Below W.heap.size W w3 :=
  hX.trans (t3.below hX.size fun k hk => Nat.le_trans h0 (ho.lt k hk).1)
/-- an append as one step of a region that draws its order; where the new row lies -/
theorem step_appZ {ops : Array Oper} {o : Oper} {a : Act} {w : World} {K : Act → World → Prop} {Q : Exit → Act → World → Prop} {E : Prop} (lo : Nat)
    (hg : o.guard = none) (s x : Operand) (hop : o.op = Op.call { callee := Callee.builtin Builtin.append, args := #[s, x], argTypes := #[22, 22] })
    (ys xs : List Val) (h0 : 0 < xs.length) {yv sv : Value} (hs : a.eval s = yv) (hx : a.eval x = sv) (hlo : lo ≤ w.heap.size) (hown : OwnV w lo yv ys) (hsv : IsV w sv xs) (hf : fitV (ys ++ xs))
    (hK : ∀ g n w', OwnV w' lo (.slice (some ⟨g, 0, none⟩) (ys ++ xs).length n) (ys ++ xs) → Touch (fun k => yv.ownBlock = some k) w w' → (yv.ownBlock = some g ∨ g = w.heap.size) → K (a.put o.dst (.slice (some ⟨g, 0, none⟩) (ys ++ xs).length n)) w') :
    if Region.wanted o (yielded ops a.tmps) = true then Oper.wp Try.prog o a w K Q else E := by
  obtain ⟨i, hi, hz, hsz, hby⟩ := val_info
  have hle := hf.le
  unfold fitV at hf
  rw [List.length_append] at hle hf
  obtain ⟨ad, c, rfl, hsrc⟩ := hsv.src cs_len h0
  have hl := flat_len cs_len xs
  refine step_append_lies w hg s x 22 hop lo 34 i (.agg zval) 3 32 Try.underlying22 hi hz hsz hby rfl (by omega) yv ys.length (flat Val.cs ys) hs hown ad xs.length c (flat Val.cs xs) hx hl hsrc one_cs h0 (by unfold maxLen; omega) (by omega) hlo w.heap.size rfl ?_
  intro g cap w' h1 h2 h3 _
  have e : flat Val.cs (ys ++ xs) = flat Val.cs ys ++ flat Val.cs xs := by unfold flat; rw [List.flatMap_append]
  have := hK g cap w' (by unfold OwnV; rw [e, List.length_append]; exact h1) ⟨h2.os, h2.tape, h2.output, h2.size, fun k hk hn => h2.block k hk fun e => hn e.symm⟩ h3
  rw [List.length_append] at this
  exact this
def blCs (b : Bool) : List Value := [.bool b]
/-- a list of truth values in memory -/
abbrev IsBl (w : World) (v : Value) (bs : List Bool) : Prop := SlOf w 1 blCs v bs
/-- which entries are kept -/
def keepB (p : Val → Bool) (mo : List Val) (m : Nat) : List Bool := (List.range m).map fun k => p (vAt mo (2 * k))
theorem keepB_len (p : Val → Bool) (mo : List Val) (m : Nat) : (keepB p mo m).length = m := by simp [keepB]
theorem keepB_at (p : Val → Bool) (mo : List Val) (m k : Nat) (h : k < m) : (keepB p mo m)[k]? = some (p (vAt mo (2 * k))) := by simp [keepB, h]

set_option maxRecDepth 100000 in
set_option maxHeartbeats 8000000 in
theorem without_any (sv mv kv : Value) (c : CellD) (p : Val → Bool) (hf : c.fit) (m : Nat) (hm : c.mo.length = 2 * m) (hmx : c.mo.length ≤ 1048576) (w : World) (h1 : IsV w sv c.sl) (h2 : IsV w mv c.mo) (h3 : IsBl w kv (keepB p c.mo m)) :
    Calls Try.prog 34 #[cellV c.k c.sh c.fl c.ag sv mv, kv] w (RetD w ⟨c.k, c.sh, c.fl, c.ag, c.sl, keptW p c.mo (List.finRange m)⟩) := by
  obtain ⟨A0, n0, rfl, _, _⟩ := h1.form
  obtain ⟨A2, n2, rfl, _, _⟩ := h2.form
  obtain ⟨A3, n3, rfl, _, _⟩ := h3.form
  rw [keepB_len] at *
  have H1 := Lib.hid h1
  have H2 := Lib.hid h2
  have H3 := Lib.hid h3
  have HF := Lib.hid hf
  have HM := Lib.hid (And.intro hm hmx)
  clear h1 h2 h3 hf hm hmx
  go_enter Try.func34, Try.ntmps34
  go_upto_region 1 with fail
  refine wp_world (fun W => W.heap[w.heap.size]? = some (cellO c.k c.sh c.fl c.ag (.slice A0 c.sl.length n0) (.slice A2 c.mo.length n2)) ∧ W.heap[w.heap.size + 1]? = some (cellO 0 0 0 0 (.slice none 0 0) (.slice none 0 0)) ∧ Below w.heap.size w W) (heap2 w _ _) ?_
  rintro W ⟨j1, j2, jb⟩
  have l0 : w.heap.size < W.heap.size := (Array.getElem?_eq_some_iff.1 j1).1
  have l1 : w.heap.size + 1 < W.heap.size := (Array.getElem?_eq_some_iff.1 j2).1
  have KK := Lib.hid (show ∀ X, Below W.heap.size W X → X.heap[w.heap.size]? = some (cellO c.k c.sh c.fl c.ag (.slice A0 c.sl.length n0) (.slice A2 c.mo.length n2)) ∧ X.heap[w.heap.size + 1]? = some (cellO 0 0 0 0 (.slice none 0 0) (.slice none 0 0)) from fun X h => ⟨(h.block _ l0).trans j1, (h.block _ l1).trans j2⟩)
  have BW := Lib.hid jb
  have I1 := Lib.hid (H1.out.below jb)
  have I2 := Lib.hid (H2.out.below jb)
  have I3 := Lib.hid (H3.out.below jb)
  obtain ⟨⟨a0, a1, a2, a3, a4, a5⟩, _⟩ := cells6 j1
  clear j1 j2 jb H1 H2 H3
  go_upto_region 2 with (go_at_call 9; refine (rcopied_any _ _ c HF.out _ (I1.out.below (by (repeat (with_reducible first | exact Below.refl _ _ | (refine bl_set ?_ (by first | omega | (simp; done) | (simp; omega)) _) | refine bl_gr ?_ _ | refine bl_al ?_ _ | refine below_setRow ?_ (by first | omega | (simp; done) | (simp; omega)) _ | refine bl_drewN ?_ _ | refine Below.drew ?_ | (refine bl_tr ?_ (by assumption)))))) (I2.out.below (by (repeat (with_reducible first | exact Below.refl _ _ | (refine bl_set ?_ (by first | omega | (simp; done) | (simp; omega)) _) | refine bl_gr ?_ _ | refine bl_al ?_ _ | refine below_setRow ?_ (by first | omega | (simp; done) | (simp; omega)) _ | refine bl_drewN ?_ _ | refine Below.drew ?_ | (refine bl_tr ?_ (by assumption))))))).mono ?_; rintro e w3 ⟨A5, n5, A6, n6, rfl, o1, o2, od, hb⟩; have OO := Lib.hid (And.intro o1 hb); clear o1 o2 od hb)
  refine wp_world (fun X => X.heap[w3.heap.size]? = some (cellO c.k c.sh c.fl c.ag (.slice A5 c.sl.length n5) (.slice A6 c.mo.length n6)) ∧ Below w3.heap.size w3 X) ⟨heap_alloc_new _ _, bl_al (Below.refl _ _) _⟩ ?_
  rintro X1 ⟨z0, zb⟩
  have lO : w3.heap.size < X1.heap.size := (Array.getElem?_eq_some_iff.1 z0).1
  have sO := OO.out.2.size
  clear a0 a1 a2 a3 a4 a5
  obtain ⟨⟨a0, a1, a2, a3, a4, a5⟩, f0, f1, f2, f3, f4, f5⟩ := cells6 z0
  have Z0 := Lib.hid (And.intro z0 zb)
  clear z0 zb
  go_upto_region 3 with fail
  refine wp_world (fun X => X.heap[w3.heap.size]? = some (cellO c.k c.sh c.fl c.ag (.slice A5 c.sl.length n5) (.slice none 0 0)) ∧ OwnV X W.heap.size (.slice A5 c.sl.length n5) c.sl ∧ Below W.heap.size W X ∧ w3.heap.size < X.heap.size) ⟨heap_setCell_same _ _ _ _ _ _ Z0.out.1, ?_, ?_, by simpa using lO⟩ ?_
  · refine ownsRow_touch (ownsRow_low (ownsRow_below OO.out.1 Z0.out.2) (Nat.le_refl _)) ((Touch.refl (fun b => b = w3.heap.size) X1).set1 5 _) (fun g hg e => ?_)
    have := (OO.out.1.lt _ hg).2
    omega
  · exact bl_set (bl_tr OO.out.2 Z0.out.2) sO _
  rintro X2 ⟨z0, zo, zb, lX⟩
  clear a0 a1 a2 a3 a4 a5 f0 f1 f2 f3 f4 f5 Z0 OO lO
  have Z2 := Lib.hid (And.intro z0 (And.intro zo zb))
  have sX := zb.size
  clear z0 zo zb
  go_wp2
  go_loopw [6] (fun i wr => ∃ (k : Nat) (A9 : Option Addr) (n9 : Nat), k ≤ m ∧ i = .int .i64 k ∧ wr.heap[w3.heap.size]? = some (cellO c.k c.sh c.fl c.ag (.slice A5 c.sl.length n5) (.slice A9 (keptW p c.mo ((List.finRange m).take k)).length n9)) ∧
    OwnV wr W.heap.size (.slice A9 (keptW p c.mo ((List.finRange m).take k)).length n9) (keptW p c.mo ((List.finRange m).take k)) ∧ OwnV wr W.heap.size (.slice A5 c.sl.length n5) c.sl ∧
    (∀ b, Value.ownBlock (.slice A5 c.sl.length n5) = some b → Value.ownBlock (.slice A9 (keptW p c.mo ((List.finRange m).take k)).length n9) ≠ some b) ∧ Below W.heap.size W wr) (fun i _ => m - (intOf i).toNat)
  case atStart => exact ⟨0, none, 0, by omega, rfl, Z2.out.1, World.ownsRow_nil _ _ _ _, Z2.out.2.1, fun b e h => (by simp [Value.ownBlock] at h), Z2.out.2.2⟩
  case round =>
    obtain ⟨k, A9, n9, hk, rfl, q1, q2, q4, q5, q6⟩ := hrel
    have hml := HM.out
    have sW := q6.size
    have lO := (Array.getElem?_eq_some_iff.1 q1).1
    obtain ⟨kc, kr⟩ := KK.out wr q6
    have KL := keptW_len p c.mo ((List.finRange m).take k)
    rw [List.length_take, List.length_finRange] at KL
    by_cases hlt : k < m
    · obtain ⟨b3, o3, cap3, e1, _, hb3, hx3⟩ := (I3.out.below q6).at_ (by rw [keepB_len]; omega)
      simp only [Value.slice.injEq] at e1
      obtain ⟨rfl, -, rfl⟩ := e1
      have cx : wr.cell? ⟨b3, o3 + k, none⟩ = some (.bool (p (vAt c.mo (2 * k)))) := by have := hx3 k _ (keepB_at p c.mo m k hlt) 0 _ rfl; simpa using this
      have g1 : (k : Int) < m := by omega
      have g0 : ¬ (k : Int) < 0 := by omega
      have g6 : k ≤ 1048576 := by omega
      have KD := Lib.hid (show keptW p c.mo ((List.finRange m).take (k + 1)) = keptW p c.mo ((List.finRange m).take k) ++ keptE p c.mo k by rw [finRange_take m k hlt, keptW_snoc])
      clear hx3
      cases hp : p (vAt c.mo (2 * k))
      · rw [hp] at cx
        have K1 := Lib.hid (show keptW p c.mo ((List.finRange m).take (k + 1)) = keptW p c.mo ((List.finRange m).take k) by rw [KD.out]; unfold keptE; rw [hp]; simp)
        have INV := Lib.hid (And.intro q1 (And.intro q2 (And.intro q4 (And.intro q5 q6))))
        clear q1 q2 q4 q5 q6 kc kr hml hp
        go_wp2
        go_roundw
        case rel => exact ⟨k + 1, A9, n9, by omega, by go_num, by rw [K1.out]; exact INV.out.1, by rw [K1.out]; exact INV.out.2.1, INV.out.2.2.1, by rw [K1.out]; exact INV.out.2.2.2.1, INV.out.2.2.2.2⟩
        case measure => simp [intOf]; omega
      · rw [hp] at cx
        have K1 := Lib.hid (show keptW p c.mo ((List.finRange m).take (k + 1)) = keptW p c.mo ((List.finRange m).take k) ++ [vAt c.mo (2 * k), vAt c.mo (2 * k + 1)] by rw [KD.out]; unfold keptE; rw [hp]; simp)
        obtain ⟨b, off, rfl⟩ := isV_addr I2.out (by omega)
        obtain ⟨lb, x0, x1, x2⟩ := (I2.out.below q6).v3 (2 * k) (by omega)
        obtain ⟨_, v0, v1, v2⟩ := (I2.out.below q6).v3 (2 * k + 1) (by omega)
        obtain ⟨⟨p0, p1, p2, p3, p4, p5⟩, _⟩ := cells6 kc
        obtain ⟨⟨d0, d1, d2, d3, d4, d5⟩, _⟩ := cells6 q1
        have l0w : w.heap.size < wr.heap.size := by omega
        have TO := Lib.hid (show ∀ (Z1 : World) (g7 n7 : Nat) (w7 : World), Below wr.heap.size wr Z1 → OwnV w7 W.heap.size (.slice (some ⟨g7, 0, none⟩) (keptW p c.mo ((List.finRange m).take k) ++ [vAt c.mo (2 * k), vAt c.mo (2 * k + 1)]).length n7) (keptW p c.mo ((List.finRange m).take k) ++ [vAt c.mo (2 * k), vAt c.mo (2 * k + 1)]) →
            Touch (fun k' => Value.ownBlock (.slice A9 (keptW p c.mo ((List.finRange m).take k)).length n9) = some k') Z1 w7 → (Value.ownBlock (.slice A9 (keptW p c.mo ((List.finRange m).take k)).length n9) = some g7 ∨ g7 = Z1.heap.size) → ∀ Y', (Y' = w7.setCell ⟨w3.heap.size, 5, none⟩ (.slice (some ⟨g7, 0, none⟩) (keptW p c.mo ((List.finRange m).take k) ++ [vAt c.mo (2 * k), vAt c.mo (2 * k + 1)]).length n7) ∨ Y' = (w7.setCell ⟨w3.heap.size, 5, none⟩ (.slice (some ⟨g7, 0, none⟩) (keptW p c.mo ((List.finRange m).take k) ++ [vAt c.mo (2 * k), vAt c.mo (2 * k + 1)]).length n7)).drew) →
            Y'.heap[w3.heap.size]? = some (cellO c.k c.sh c.fl c.ag (.slice A5 c.sl.length n5) (.slice (some ⟨g7, 0, none⟩) (keptW p c.mo ((List.finRange m).take (k + 1))).length n7)) ∧
    OwnV Y' W.heap.size (.slice (some ⟨g7, 0, none⟩) (keptW p c.mo ((List.finRange m).take (k + 1))).length n7) (keptW p c.mo ((List.finRange m).take (k + 1))) ∧ OwnV Y' W.heap.size (.slice A5 c.sl.length n5) c.sl ∧
    (∀ b, Value.ownBlock (.slice A5 c.sl.length n5) = some b → Value.ownBlock (.slice (some ⟨g7, 0, none⟩) (keptW p c.mo ((List.finRange m).take (k + 1))).length n7) ≠ some b) ∧ Below W.heap.size W Y' by
          rintro Z1 g7 n7 w7 hZ1 o7 t6 gg Y' hY
          have t7 : Touch (fun k' => Value.ownBlock (.slice A9 (keptW p c.mo ((List.finRange m).take k)).length n9) = some k') wr w7 := (Touch.of_below hZ1).trans t6 (fun _ _ h => h)
          have k9 := (t7.block _ lO (fun e => own_ne q2 e q1 (by decide) rfl)).trans q1
          have T8 : Touch (fun b => b = w3.heap.size) w7 Y' := by
            rcases hY with rfl | rfl
            · exact (Touch.refl (fun b => b = w3.heap.size) w7).set1 _ _
            · exact ((Touch.refl (fun b => b = w3.heap.size) w7).set1 _ _).drew
          have h9 : Y'.heap[w3.heap.size]? = some (cellO c.k c.sh c.fl c.ag (.slice A5 c.sl.length n5) (.slice (some ⟨g7, 0, none⟩) (keptW p c.mo ((List.finRange m).take k) ++ [vAt c.mo (2 * k), vAt c.mo (2 * k + 1)]).length n7)) := by
            rcases hY with rfl | rfl <;> exact heap_setCell_same _ _ _ _ _ _ k9
          rw [K1.out]
          refine ⟨h9, ownsRow_touch o7 T8 (fun g hg (e : g = _) => own_ne o7 hg k9 (by decide) e), ownsRow_touch (ownsRow_touch q4 t7 (fun g hg e => q5 g hg e)) T8 (fun g hg (e : g = _) => own_ne q4 hg q1 (by decide) e), fun g hg1 hg2 => ?_, (q6.trans (t7.below q6.size (fun k' e => (q2.lt _ e).1))).trans (T8.below (by have := t7.size; omega) (fun k' (e : k' = _) => by omega))⟩
          simp only [Value.ownBlock, Option.some.injEq] at hg2
          subst hg2
          rcases gg with h | h
          · exact q5 _ hg1 h
          · have := (q4.lt _ hg1).2; have := hZ1.size; omega)
        have INV := Lib.hid (And.intro q1 (And.intro q2 q6))
        have O2 := Lib.hid q6
        have hk1 : k + 1 ≤ m := hlt
        have SK := Lib.hid (show ∀ Z, Below W.heap.size W Z → Z.cell? ⟨w.heap.size, 5, none⟩ = some (.slice (some ⟨b, off, none⟩) c.mo.length n2) ∧ Z.cell? ⟨b, off + 2 * k * 3, none⟩ = some (.int .i64 (vAt c.mo (2 * k)).k) ∧ Z.cell? ⟨b, off + 2 * k * 3 + 1, none⟩ = some (.int .i64 (vAt c.mo (2 * k)).n) ∧ Z.cell? ⟨b, off + 2 * k * 3 + 2, none⟩ = some (.string (vAt c.mo (2 * k)).s) ∧ Z.cell? ⟨b, off + (2 * k + 1) * 3, none⟩ = some (.int .i64 (vAt c.mo (2 * k + 1)).k) ∧ Z.cell? ⟨b, off + (2 * k + 1) * 3 + 1, none⟩ = some (.int .i64 (vAt c.mo (2 * k + 1)).n) ∧ Z.cell? ⟨b, off + (2 * k + 1) * 3 + 2, none⟩ = some (.string (vAt c.mo (2 * k + 1)).s) from fun Z hZ => by
          obtain ⟨⟨_, _, _, _, _, g5⟩, _⟩ := cells6 (KK.out Z hZ).1
          obtain ⟨_, h0, h1, h2⟩ := (I2.out.below hZ).v3 (2 * k) (by omega)
          obtain ⟨_, h3, h4, h5⟩ := (I2.out.below hZ).v3 (2 * k + 1) (by omega)
          exact ⟨g5, h0, h1, h2, h3, h4, h5⟩)
        have H29 := HF.out.2
        unfold fitV at H29
        generalize hL : c.mo.length = L at *
        generalize hq : 2 * k = q at *
        generalize vAt c.mo q = u at *
        generalize vAt c.mo (q + 1) = v at *
        generalize keptW p c.mo ((List.finRange m).take k) = ks at *
        have fB := Lib.hid (show fitV (ks ++ [u, v]) by unfold fitV; rw [List.length_append]; simp; omega)
        have w1 : IntKind.i64.wrap (2 * (k : Int)) = (q : Int) := by rw [show 2 * (k : Int) = (q : Int) by omega]; exact IntWalk.i64_in _ (by omega)
        have w2 : IntKind.i64.wrap ((q : Int) + 1) = (q : Int) + 1 := IntWalk.i64_in _ (by omega)
        have e1 : ((q : Int) + 1).toNat = q + 1 := by omega
        have s1 : (0 : Int) ≤ (q : Int) + 1 := by omega
        have s2 : (q : Int) + 1 < L := by omega
        have s3 : (q : Int) < L := by omega
        have s4 : (0 : Int) ≤ (q : Int) := by omega
        have lO2 := lO
        clear q1 q2 q4 q5 q6 kc kr hml hp hL hq hlt hk KL H29
        go_upto_region 7 with fail
        (refine wp_region_held_drew (S := (fun Z : World => Z.cell? ⟨w.heap.size, 5, none⟩ = some (.slice (some ⟨b, off, none⟩) L n2) ∧ Z.cell? ⟨b, off + q * 3, none⟩ = some (.int .i64 u.k) ∧ Z.cell? ⟨b, off + q * 3 + 1, none⟩ = some (.int .i64 u.n) ∧ Z.cell? ⟨b, off + q * 3 + 2, none⟩ = some (.string u.s) ∧ Z.cell? ⟨b, off + (q + 1) * 3, none⟩ = some (.int .i64 v.k) ∧ Z.cell? ⟨b, off + (q + 1) * 3 + 1, none⟩ = some (.int .i64 v.n) ∧ Z.cell? ⟨b, off + (q + 1) * 3 + 2, none⟩ = some (.string v.s))) Try.mixed (by exact SK.out _ (by (repeat (with_reducible first | exact O2.out | exact Below.refl _ _ | refine bl_rapp ?_ | (refine bl_set ?_ (by first | omega | (simp; done) | (simp; omega)) _) | refine bl_gr ?_ _ | refine bl_al ?_ _ | refine bl_drewN ?_ _ | refine Below.drew ?_)))) (fun hS => ?_); (refine wpAnyH_take (i := 0) (v := ?_) rfl (by kernel_rfl) (by kernel_rfl) (by kernel_rfl) (fun _ _ _ h => h) ?_ (by assumption) ?_; rotate_left; (next => (refine Or.inl ⟨by kernel_rfl, ?_⟩; ((intro w hSw; (try dsimp only at hSw); go_simp) <;> with_reducible rfl))); (try simp only [Act.put, List.setIfInBounds_toArray, List.set_cons_zero, List.set_cons_succ])); (refine wpAnyH_take (i := 2) (v := ?_) rfl (by kernel_rfl) (by kernel_rfl) (by kernel_rfl) (fun _ _ _ h => h) ?_ (by assumption) ?_; rotate_left; (next => (refine Or.inl ⟨by kernel_rfl, ?_⟩; ((intro w hSw; (try dsimp only at hSw); go_simp) <;> with_reducible rfl))); (try simp only [Act.put, List.setIfInBounds_toArray, List.set_cons_zero, List.set_cons_succ])); (refine wpAnyH_take (i := 3) (v := ?_) rfl (by kernel_rfl) (by kernel_rfl) (by kernel_rfl) (fun _ _ _ h => h) ?_ (by assumption) ?_; rotate_left; (next => (refine Or.inl ⟨by kernel_rfl, ?_⟩; ((intro w hSw; (try dsimp only at hSw); obtain ⟨y0, y1, y2, y3, y4, y5, y6⟩ := hSw; go_simp) <;> with_reducible rfl))); (try simp only [Act.put, List.setIfInBounds_toArray, List.set_cons_zero, List.set_cons_succ])); (refine wpAnyH_take (i := 4) (v := ?_) rfl (by kernel_rfl) (by kernel_rfl) (by kernel_rfl) (fun _ _ _ h => h) ?_ (by assumption) ?_; rotate_left; (next => (refine Or.inl ⟨by kernel_rfl, ?_⟩; ((intro w hSw; (try dsimp only at hSw); go_simp) <;> with_reducible rfl))); (try simp only [Act.put, List.setIfInBounds_toArray, List.set_cons_zero, List.set_cons_succ])); (refine wpAnyH_take (i := 5) (v := ?_) rfl (by kernel_rfl) (by kernel_rfl) (by kernel_rfl) (fun _ _ _ h => h) ?_ (by assumption) ?_; rotate_left; (next => (refine Or.inl ⟨by kernel_rfl, ?_⟩; ((intro w hSw; (try dsimp only at hSw); go_simp) <;> with_reducible rfl))); (try simp only [Act.put, List.setIfInBounds_toArray, List.set_cons_zero, List.set_cons_succ])); (refine wpAnyH_take (i := 6) (v := ?_) rfl (by kernel_rfl) (by kernel_rfl) (by kernel_rfl) (fun _ _ _ h => h) ?_ (by assumption) ?_; rotate_left; (next => (refine Or.inl ⟨by kernel_rfl, ?_⟩; ((intro w hSw; (try dsimp only at hSw); go_simp) <;> with_reducible rfl))); (try simp only [Act.put, List.setIfInBounds_toArray, List.set_cons_zero, List.set_cons_succ])); (refine wpAnyH_take (i := 7) (v := ?_) rfl (by kernel_rfl) (by kernel_rfl) (by kernel_rfl) (fun _ _ _ h => h) ?_ (by assumption) ?_; rotate_left; (next => (refine Or.inl ⟨by kernel_rfl, ?_⟩; ((intro w hSw; (try dsimp only at hSw); obtain ⟨y0, y1, y2, y3, y4, y5, y6⟩ := hSw; go_simp) <;> with_reducible rfl))); (try simp only [Act.put, List.setIfInBounds_toArray, List.set_cons_zero, List.set_cons_succ])); (refine wpAnyH_take (i := 8) (v := ?_) rfl (by kernel_rfl) (by kernel_rfl) (by kernel_rfl) (fun _ _ _ h => h) ?_ (by assumption) ?_; rotate_left; (next => (refine Or.inl ⟨by kernel_rfl, ?_⟩; ((intro w hSw; (try dsimp only at hSw); go_simp) <;> with_reducible rfl))); (try simp only [Act.put, List.setIfInBounds_toArray, List.set_cons_zero, List.set_cons_succ])); (refine wpAnyH_take (i := 9) (v := ?_) rfl (by kernel_rfl) (by kernel_rfl) (by kernel_rfl) (fun _ _ _ h => h) ?_ (by assumption) ?_; rotate_left; (next => (refine Or.inl ⟨by kernel_rfl, ?_⟩; ((intro w hSw; (try dsimp only at hSw); obtain ⟨y0, y1, y2, y3, y4, y5, y6⟩ := hSw; go_simp) <;> with_reducible rfl))); (try simp only [Act.put, List.setIfInBounds_toArray, List.set_cons_zero, List.set_cons_succ])); (refine wpAnyH_take (i := 10) (v := ?_) rfl (by kernel_rfl) (by kernel_rfl) (by kernel_rfl) (fun _ _ _ h => h) ?_ (by assumption) ?_; rotate_left; (next => (refine Or.inl ⟨by kernel_rfl, ?_⟩; ((intro w hSw; (try dsimp only at hSw); go_simp) <;> with_reducible rfl))); (try simp only [Act.put, List.setIfInBounds_toArray, List.set_cons_zero, List.set_cons_succ])); (refine wpAnyH_take (i := 11) (v := ?_) rfl (by kernel_rfl) (by kernel_rfl) (by kernel_rfl) (fun _ _ _ h => h) ?_ (by assumption) ?_; rotate_left; (next => (refine Or.inl ⟨by kernel_rfl, ?_⟩; ((intro w hSw; (try dsimp only at hSw); go_simp) <;> with_reducible rfl))); (try simp only [Act.put, List.setIfInBounds_toArray, List.set_cons_zero, List.set_cons_succ])); (refine wpAnyH_take (i := 12) (v := ?_) rfl (by kernel_rfl) (by kernel_rfl) (by kernel_rfl) (fun _ _ _ h => h) ?_ (by assumption) ?_; rotate_left; (next => (refine Or.inl ⟨by kernel_rfl, ?_⟩; ((intro w hSw; (try dsimp only at hSw); go_simp) <;> with_reducible rfl))); (try simp only [Act.put, List.setIfInBounds_toArray, List.set_cons_zero, List.set_cons_succ])); (refine wpAnyH_take (i := 13) (v := ?_) rfl (by kernel_rfl) (by kernel_rfl) (by kernel_rfl) (fun _ _ _ h => h) ?_ (by assumption) ?_; rotate_left; (next => (refine Or.inl ⟨by kernel_rfl, ?_⟩; ((intro w hSw; (try dsimp only at hSw); go_simp) <;> with_reducible rfl))); (try simp only [Act.put, List.setIfInBounds_toArray, List.set_cons_zero, List.set_cons_succ])); (refine wpAnyH_take (i := 14) (v := ?_) rfl (by kernel_rfl) (by kernel_rfl) (by kernel_rfl) (fun _ _ _ h => h) ?_ (by assumption) ?_; rotate_left; (next => (refine Or.inl ⟨by kernel_rfl, ?_⟩; ((intro w hSw; (try dsimp only at hSw); obtain ⟨y0, y1, y2, y3, y4, y5, y6⟩ := hSw; go_simp) <;> with_reducible rfl))); (try simp only [Act.put, List.setIfInBounds_toArray, List.set_cons_zero, List.set_cons_succ])); refine wpAnyH_ready (rs := [1, 15]) (by kernel_rfl) (by simp) ?_; refine AllReadyH.cons rfl (fun K hK => ?_) (AllReadyH.cons rfl (fun K hK => ?_) AllReadyH.nil); go_simp; refine hK.out _ _ (by exact SK.out _ (by (repeat (with_reducible first | exact O2.out | exact Below.refl _ _ | refine bl_rapp ?_ | (refine bl_set ?_ (by first | omega | (simp; done) | (simp; omega)) _) | refine bl_gr ?_ _ | refine bl_al ?_ _ | refine bl_drewN ?_ _ | refine Below.drew ?_)))) (fun hS => ?_); clear hK K; (try simp only [Act.put, List.setIfInBounds_toArray, List.set_cons_zero, List.set_cons_succ]); refine wpAnyH_ready (rs := [15]) (by kernel_rfl) (by simp) ?_; refine AllReadyH.cons rfl (fun K hK => ?_) AllReadyH.nil; go_simp; refine hK.out _ _ (by exact SK.out _ (by (repeat (with_reducible first | exact O2.out | exact Below.refl _ _ | refine bl_rapp ?_ | (refine bl_set ?_ (by first | omega | (simp; done) | (simp; omega)) _) | refine bl_gr ?_ _ | refine bl_al ?_ _ | refine bl_drewN ?_ _ | refine Below.drew ?_)))) (fun hS => ?_); clear hK K; (try simp only [Act.put, List.setIfInBounds_toArray, List.set_cons_zero, List.set_cons_succ]); refine wpAnyH_ready (rs := [16]) (by kernel_rfl) (by simp) ?_; refine AllReadyH.cons rfl (fun K hK => ?_) AllReadyH.nil; ((refine step_appZ W.heap.size rfl (.tmp 21) (.tmp 35) rfl ks [u, v] (by simp) (yv := .slice A9 ks.length n9) (by simp [Act.eval, Act.put]) (by simp [Act.eval, Act.put]; rfl) ?_ ?_ ?_ fB.out ?_; (next => exact (show Below W.heap.size W _ by (repeat (with_reducible first | exact O2.out | exact Below.refl _ _ | refine bl_rapp ?_ | (refine bl_set ?_ (by first | omega | (simp; done) | (simp; omega)) _) | refine bl_gr ?_ _ | refine bl_al ?_ _ | refine bl_drewN ?_ _ | refine Below.drew ?_))).size); (next => exact INV.out.2.1.alloc _); (next => exact lit_valsB (l := [u, v]) rfl rfl rfl (by omega)); intro g7 n7 w7 o7 t7 gg; have B9 := Lib.hid (show Below W.heap.size W w7 from own_T (by (repeat (with_reducible first | exact O2.out | exact Below.refl _ _ | refine bl_rapp ?_ | (refine bl_set ?_ (by first | omega | (simp; done) | (simp; omega)) _) | refine bl_gr ?_ _ | refine bl_al ?_ _ | refine bl_drewN ?_ _ | refine Below.drew ?_))) (by exact INV.out.2.1.alloc _) (Nat.le_refl _) t7); have k9 := (t7.block _ (Nat.lt_of_lt_of_le lO2 (show Below wr.heap.size wr _ by (repeat (with_reducible first  | exact Below.refl _ _ | refine bl_rapp ?_ | (refine bl_set ?_ (by first | omega | (simp; done) | (simp; omega)) _) | refine bl_gr ?_ _ | refine bl_al ?_ _ | refine bl_drewN ?_ _ | refine Below.drew ?_))).size) (fun e => own_ne INV.out.2.1 e INV.out.1 (by decide) rfl)).trans (((show Below wr.heap.size wr _ by (repeat (with_reducible first  | exact Below.refl _ _ | refine bl_rapp ?_ | (refine bl_set ?_ (by first | omega | (simp; done) | (simp; omega)) _) | refine bl_gr ?_ _ | refine bl_al ?_ _ | refine bl_drewN ?_ _ | refine Below.drew ?_))).block _ lO2).trans INV.out.1); obtain ⟨_, x0, x1, x2, x3, x4, x5⟩ := cells6 k9; have FIN := Lib.hid (TO.out _ g7 n7 w7 (by (repeat (with_reducible first  | exact Below.refl _ _ | refine bl_rapp ?_ | (refine bl_set ?_ (by first | omega | (simp; done) | (simp; omega)) _) | refine bl_gr ?_ _ | refine bl_al ?_ _ | refine bl_drewN ?_ _ | refine Below.drew ?_))) o7 t7 gg); clear o7 t7 gg k9)); refine hK.out _ _ (by exact SK.out _ B9.out) (fun hS => ?_); clear hK K; (try simp only [Act.put, List.setIfInBounds_toArray, List.set_cons_zero, List.set_cons_succ]); (refine wpAnyH_take (i := 17) (v := ?_) rfl (by kernel_rfl) (by kernel_rfl) (by kernel_rfl) (fun _ _ _ h => h) ?_ (by assumption) ?_; rotate_left; (next => (refine Or.inl ⟨by kernel_rfl, ?_⟩; ((intro w hSw; (try dsimp only at hSw); go_simp) <;> with_reducible rfl))); (try simp only [Act.put, List.setIfInBounds_toArray, List.set_cons_zero, List.set_cons_succ])); refine wpAnyH_ready (rs := [18]) (by kernel_rfl) (by simp) ?_; refine AllReadyH.cons rfl (fun K hK => ?_) AllReadyH.nil; go_simp; refine hK.out _ _ (by exact SK.out _ (bl_set B9.out (by omega) _)) (fun hS => ?_); clear hK K; (try simp only [Act.put, List.setIfInBounds_toArray, List.set_cons_zero, List.set_cons_succ]); refine wpAnyH_done (by kernel_rfl) ?_ _; rotate_left 1; go_simp; refine hK.out _ _ (by exact SK.out _ (by (repeat (with_reducible first | exact O2.out | exact Below.refl _ _ | refine bl_rapp ?_ | (refine bl_set ?_ (by first | omega | (simp; done) | (simp; omega)) _) | refine bl_gr ?_ _ | refine bl_al ?_ _ | refine bl_drewN ?_ _ | refine Below.drew ?_)))) (fun hS => ?_); clear hK K; (try simp only [Act.put, List.setIfInBounds_toArray, List.set_cons_zero, List.set_cons_succ]); refine wpAnyH_ready (rs := [1]) (by kernel_rfl) (by simp) ?_; refine AllReadyH.cons rfl (fun K hK => ?_) AllReadyH.nil; go_simp; refine hK.out _ _ (by exact SK.out _ (by (repeat (with_reducible first | exact O2.out | exact Below.refl _ _ | refine bl_rapp ?_ | (refine bl_set ?_ (by first | omega | (simp; done) | (simp; omega)) _) | refine bl_gr ?_ _ | refine bl_al ?_ _ | refine bl_drewN ?_ _ | refine Below.drew ?_)))) (fun hS => ?_); clear hK K; (try simp only [Act.put, List.setIfInBounds_toArray, List.set_cons_zero, List.set_cons_succ]); refine wpAnyH_ready (rs := [16]) (by kernel_rfl) (by simp) ?_; refine AllReadyH.cons rfl (fun K hK => ?_) AllReadyH.nil; ((refine step_appZ W.heap.size rfl (.tmp 21) (.tmp 35) rfl ks [u, v] (by simp) (yv := .slice A9 ks.length n9) (by simp [Act.eval, Act.put]) (by simp [Act.eval, Act.put]; rfl) ?_ ?_ ?_ fB.out ?_; (next => exact (show Below W.heap.size W _ by (repeat (with_reducible first | exact O2.out | exact Below.refl _ _ | refine bl_rapp ?_ | (refine bl_set ?_ (by first | omega | (simp; done) | (simp; omega)) _) | refine bl_gr ?_ _ | refine bl_al ?_ _ | refine bl_drewN ?_ _ | refine Below.drew ?_))).size); (next => exact INV.out.2.1.alloc _); (next => exact lit_valsB (l := [u, v]) rfl rfl rfl (by omega)); intro g7 n7 w7 o7 t7 gg; have B9 := Lib.hid (show Below W.heap.size W w7 from own_T (by (repeat (with_reducible first | exact O2.out | exact Below.refl _ _ | refine bl_rapp ?_ | (refine bl_set ?_ (by first | omega | (simp; done) | (simp; omega)) _) | refine bl_gr ?_ _ | refine bl_al ?_ _ | refine bl_drewN ?_ _ | refine Below.drew ?_))) (by exact INV.out.2.1.alloc _) (Nat.le_refl _) t7); have k9 := (t7.block _ (Nat.lt_of_lt_of_le lO2 (show Below wr.heap.size wr _ by (repeat (with_reducible first  | exact Below.refl _ _ | refine bl_rapp ?_ | (refine bl_set ?_ (by first | omega | (simp; done) | (simp; omega)) _) | refine bl_gr ?_ _ | refine bl_al ?_ _ | refine bl_drewN ?_ _ | refine Below.drew ?_))).size) (fun e => own_ne INV.out.2.1 e INV.out.1 (by decide) rfl)).trans (((show Below wr.heap.size wr _ by (repeat (with_reducible first  | exact Below.refl _ _ | refine bl_rapp ?_ | (refine bl_set ?_ (by first | omega | (simp; done) | (simp; omega)) _) | refine bl_gr ?_ _ | refine bl_al ?_ _ | refine bl_drewN ?_ _ | refine Below.drew ?_))).block _ lO2).trans INV.out.1); obtain ⟨_, x0, x1, x2, x3, x4, x5⟩ := cells6 k9; have FIN := Lib.hid (TO.out _ g7 n7 w7 (by (repeat (with_reducible first  | exact Below.refl _ _ | refine bl_rapp ?_ | (refine bl_set ?_ (by first | omega | (simp; done) | (simp; omega)) _) | refine bl_gr ?_ _ | refine bl_al ?_ _ | refine bl_drewN ?_ _ | refine Below.drew ?_))) o7 t7 gg); clear o7 t7 gg k9)); refine hK.out _ _ (by exact SK.out _ B9.out) (fun hS => ?_); clear hK K; (try simp only [Act.put, List.setIfInBounds_toArray, List.set_cons_zero, List.set_cons_succ]); (refine wpAnyH_take (i := 17) (v := ?_) rfl (by kernel_rfl) (by kernel_rfl) (by kernel_rfl) (fun _ _ _ h => h) ?_ (by assumption) ?_; rotate_left; (next => (refine Or.inl ⟨by kernel_rfl, ?_⟩; ((intro w hSw; (try dsimp only at hSw); go_simp) <;> with_reducible rfl))); (try simp only [Act.put, List.setIfInBounds_toArray, List.set_cons_zero, List.set_cons_succ])); refine wpAnyH_ready (rs := [18]) (by kernel_rfl) (by simp) ?_; refine AllReadyH.cons rfl (fun K hK => ?_) AllReadyH.nil; go_simp; refine hK.out _ _ (by exact SK.out _ (bl_set B9.out (by omega) _)) (fun hS => ?_); clear hK K; (try simp only [Act.put, List.setIfInBounds_toArray, List.set_cons_zero, List.set_cons_succ]); refine wpAnyH_done (by kernel_rfl) ?_ _)
        all_goals
          go_simp
          go_wp2
          go_roundw
          case rel =>
            refine ⟨k + 1, some ⟨g7, 0, none⟩, n7, by omega, by go_num, ?_⟩
            exact FIN.out _ (by first | exact .inl (by simp) | exact .inr (by simp))
          case measure => simp [intOf]; omega
    · have hkm : k = m := by omega
      subst hkm
      rw [List.take_of_length_le (by simp)] at q1 q2 q5
      have g1 : ¬ (k : Int) < (k : Int) := by omega
      have INV := Lib.hid (And.intro (OwnV.isV q2) (And.intro (OwnV.isV q4) (And.intro (bl_tr BW.out q6) kr)))
      obtain ⟨⟨d0, d1, d2, d3, d4, d5⟩, _⟩ := cells6 q1
      obtain ⟨⟨x0, x1, x2, x3, x4, x5⟩, y0, y1, y2, y3, y4, y5⟩ := cells6 kr
      generalize hks : keptW p c.mo (List.finRange k) = ks at *
      have HKS := Lib.hid hks
      clear hks q1 q2 q4 q5 q6 kc kr hml KL
      go_wp2
      refine wp_post (fun Y => Y.heap[w.heap.size + 1]? = some (cellO c.k c.sh c.fl c.ag (.slice A5 c.sl.length n5) (.slice A9 ks.length n9)) ∧ Touch (fun b => b = w.heap.size + 1) wr Y ∧ Below w.heap.size w Y) (put6 INV.out.2.2.1 (by omega) INV.out.2.2.2) ?_
      rintro Y ⟨r1, rt, rb⟩
      have f1 := setI INV.out.1 INV.out.2.2.2 rt
      have f2 := setI INV.out.2.1 INV.out.2.2.2 rt
      have FF := Lib.hid (And.intro f2 (And.intro f1 rb))
      clear f1 f2 rb rt d0 d1 d2 d3 d4 d5 x0 x1 x2 x3 x4 x5 y0 y1 y2 y3 y4 y5
      obtain ⟨⟨b0, b1, b2, b3, b4, b5⟩, _⟩ := cells6 r1
      refine bodyPost_ret (v := cellV c.k c.sh c.fl c.ag (.slice A5 c.sl.length n5) (.slice A9 ks.length n9)) (by clear r1; simp [results, Try.results34, go_sem, *]) rfl ?_
      have hks := HKS.out
      subst hks
      exact ⟨_, _, _, _, rfl, FF.out.1, FF.out.2.1, FF.out.2.2⟩
end Go.Proofs.Ytdikdkllbhanfaa
