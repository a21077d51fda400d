/- Weak maps: the reference's Delete and Clean. -/
import Derived.Test.YtdikdkllbhanfaaWkN
namespace Go.Proofs.Ytdikdkllbhanfaa
set_option linter.all false
open Go.RowKit Go.Sort Go.Deep Go.Shelf

abbrev OwnBl (w : World) (lo : Nat) (v : Value) (bs : List Bool) : Prop := w.ownsRow lo 4 1 v bs.length (bs.map Value.bool)
theorem flat_bl (bs : List Bool) : flat blCs bs = bs.map Value.bool := by
  induction bs with
  | nil => rfl
  | cons b bs ih => simp only [flat, List.flatMap_cons, List.map_cons] at ih ⊢; rw [ih]; rfl
theorem OwnBl.isBl {w : World} {lo : Nat} {v : Value} {bs : List Bool} (h : OwnBl w lo v bs) : IsBl w v bs := ownsRow_slOf (fun _ => rfl) (by rw [flat_bl]; exact h)
theorem bool_info : (Try.prog.info? 4).map (fun i => (i.zero, i.size, i.bytes)) = some (some (.bool false), 1, 1) := by kernel_rfl
/-- a truth value appended, in a region that draws its order -/
theorem step_appB {ops : Array Oper} {o : Oper} {a : Act} {w : World} {K : Act → World → Prop} {Q : Exit → Act → World → Prop} {E : Prop} (lo : Nat)
    (hg : o.guard = none) (s x : Operand) (hop : o.op = Op.call { callee := Callee.builtin Builtin.append, args := #[s, x], argTypes := #[54, 54] })
    (ys : List Bool) (b : Bool) {yv : Value} {B : Nat} (hs : a.eval s = yv) (hx : a.eval x = .slice (some ⟨B, 0, none⟩) 1 1) (hlo : lo ≤ w.heap.size) (hown : OwnBl w lo yv ys)
    (hblk : w.heap[B]? = some (.cells #[.bool b] 4)) (hf : ys.length + 1 ≤ 140737488355328)
    (hK : ∀ g n w', OwnBl w' lo (.slice (some ⟨g, 0, none⟩) (ys ++ [b]).length n) (ys ++ [b]) → Touch (fun k => yv.ownBlock = some k) w w' → K (a.put o.dst (.slice (some ⟨g, 0, none⟩) (ys ++ [b]).length n)) w') :
    if Region.wanted o (yielded ops a.tmps) = true then Oper.wp Try.prog o a w K Q else E := by
  obtain ⟨i, hi, hz, hsz, hby⟩ := info_parts bool_info
  refine step_append_lies w hg s x 54 hop lo 4 i (.bool false) 1 1 Try.underlying54 hi hz hsz hby rfl (by omega) yv ys.length (ys.map Value.bool) hs hown ⟨B, 0, none⟩ 1 1 [.bool b] hx rfl ?_ (by intro u hu; simp at hu; subst hu; rfl) (by omega) (by unfold maxLen; omega) (by omega) hlo w.heap.size rfl ?_
  · intro j u hu
    rw [add_off, cell_of_row w B _ _ _ _ hblk]
    simpa using hu
  · intro g cap w' h1 h2 h3 _
    have := hK g cap w' (by unfold OwnBl; rw [List.length_append, List.map_append]; exact h1) ⟨h2.os, h2.tape, h2.output, h2.size, fun k hk hn => h2.block k hk fun e => hn e.symm⟩
    rw [List.length_append] at this
    exact this
/-- .. in a region that does not -/
theorem wpList_appB {ops : Array Oper} {rest : List Oper} {o : Oper} {a : Act} {w : World} {Q : Exit → Act → World → Prop} (hgd : o.guard = none) (lo : Nat) (s x : Operand)
    (hop : o.op = Op.call { callee := Callee.builtin Builtin.append, args := #[s, x], argTypes := #[54, 54] })
    (ys : List Bool) (b : Bool) {yv : Value} {B : Nat} (hs : a.eval s = yv) (hx : a.eval x = .slice (some ⟨B, 0, none⟩) 1 1) (hlo : lo ≤ w.heap.size) (hown : OwnBl w lo yv ys)
    (hblk : w.heap[B]? = some (.cells #[.bool b] 4)) (hf : ys.length + 1 ≤ 140737488355328)
    (hK : ∀ g n w', OwnBl w' lo (.slice (some ⟨g, 0, none⟩) (ys ++ [b]).length n) (ys ++ [b]) → Touch (fun k => yv.ownBlock = some k) w w' → wpList Try.prog ops Q rest (a.put o.dst (.slice (some ⟨g, 0, none⟩) (ys ++ [b]).length n)) w') : wpList Try.prog ops Q (o :: rest) a w := by
  refine wpList_step fun K hK' => ?_
  exact step_appB lo hgd s x hop ys b hs hx hlo hown hblk hf (fun g n w' h1 h2 => hK' _ _ (hK g n w' h1 h2))
theorem keepB_snoc (p : Val → Bool) (mo : List Val) (k : Nat) : keepB p mo (k + 1) = keepB p mo k ++ [p (vAt mo (2 * k))] := by simp [keepB, List.range_succ]
/-- what the call owns lies above -/
theorem own_TB {W X w3 : World} {lo : Nat} {yv : Value} {ys : List Bool} (hX : Below W.heap.size W X) (ho : OwnBl X lo yv ys) (h0 : W.heap.size ≤ lo) (t3 : Touch (fun k => yv.ownBlock = some k) X w3) : Below W.heap.size W w3 :=
  hX.trans (t3.below hX.size fun k hk => Nat.le_trans h0 (ho.lt k hk).1)
theorem place_isSome {m : Nat} (o : Option (Fin m)) : decide (0 ≤ placeI o) = o.isSome := by
  cases o with
  | none => rfl
  | some x => exact decide_eq_true (Int.natCast_nonneg _)

set_option maxRecDepth 100000 in
set_option maxHeartbeats 8000000 in
theorem rdelete_yes (sv mv : Value) (c : CellD) (key : Val) (hc : c.ok) (hf : c.fit) (w : World) (h1 : IsV w sv c.sl) (h2 : IsV w mv c.mo) (hb : isW c = true) :
    Calls Try.prog 19 #[cellV c.k c.sh c.fl c.ag sv mv, key.agg] w (RetP w (delC c key) (.bool (getB c key))) := by
  obtain ⟨A0, n0, rfl, _, _⟩ := h1.form
  obtain ⟨A2, n2, rfl, _, _⟩ := h2.form
  have H1 := Lib.hid h1
  have H2 := Lib.hid h2
  obtain ⟨m, hm, hk8, hmx⟩ := isW_len hb
  clear hk8
  rw [show delC c key = ⟨c.k, c.sh, c.fl, c.ag, c.sl, keptW (fun v => !v.eq key) c.mo (List.finRange m)⟩ by unfold delC keptL; rw [if_pos hb, show c.mo.length / 2 = m by omega],
    show getB c key = (getW key c.mo (List.finRange m)).isSome by unfold getB; rw [hb, show c.mo.length / 2 = m by omega, Bool.true_and]]
  have HM := Lib.hid (And.intro hm hmx)
  have WO := Lib.hid (fun W kv a b k => without_any (.slice A0 c.sl.length n0) (.slice A2 c.mo.length n2) kv c (fun v => !v.eq key) hf m hm hmx W a b k)
  have PL := Lib.hid (fun W a b => place_any (.slice A0 c.sl.length n0) (.slice A2 c.mo.length n2) c key m hm hmx W a b)
  have IS := Lib.hid (fun W a b => by have := ris_any _ _ c hc W a b; rw [hb] at this; exact this : ∀ (W : World), IsV W (.slice A0 c.sl.length n0) c.sl → IsV W (.slice A2 c.mo.length n2) c.mo → Calls Try.prog 32 #[cellV c.k c.sh c.fl c.ag (.slice A0 c.sl.length n0) (.slice A2 c.mo.length n2)] W fun e w' => e = .returned (.bool true) ∧ Below W.heap.size W w')
  clear h1 h2 hf hm hmx hc hb
  go_enter Try.func19, Try.ntmps19
  go_upto_region 1 with fail
  refine wp_world (fun W => W.heap[w.heap.size]? = some (cellO c.k c.sh c.fl c.ag (.slice A0 c.sl.length n0) (.slice A2 c.mo.length n2)) ∧ W.heap[w.heap.size + 1]? = some (valB key) ∧ W.heap[w.heap.size + 1 + 1]? = some (cellO 0 0 0 0 (.slice none 0 0) (.slice none 0 0)) ∧ Below w.heap.size w W) (heap3 w _ _ _) ?_
  rintro W ⟨j1, j2, j3, jb⟩
  have l0 : w.heap.size < W.heap.size := (Array.getElem?_eq_some_iff.1 j1).1
  have l1 : w.heap.size + 1 < W.heap.size := (Array.getElem?_eq_some_iff.1 j2).1
  have l2 : w.heap.size + 1 + 1 < W.heap.size := (Array.getElem?_eq_some_iff.1 j3).1
  have KK := Lib.hid (show ∀ X, Below W.heap.size W X → X.heap[w.heap.size]? = some (cellO c.k c.sh c.fl c.ag (.slice A0 c.sl.length n0) (.slice A2 c.mo.length n2)) ∧ X.heap[w.heap.size + 1]? = some (valB key) ∧ X.heap[w.heap.size + 1 + 1]? = some (cellO 0 0 0 0 (.slice none 0 0) (.slice none 0 0)) from fun X h => ⟨(h.block _ l0).trans j1, (h.block _ l1).trans j2, (h.block _ l2).trans j3⟩)
  have BW := Lib.hid jb
  have I1 := Lib.hid (H1.out.below jb)
  have I2 := Lib.hid (H2.out.below jb)
  obtain ⟨⟨a0, a1, a2, a3, a4, a5⟩, _⟩ := cells6 j1
  clear j1 j2 j3 jb H1 H2
  go_upto_region 3 with (go_at_call 32; refine (callGr (IS.out _ (I1.out.below (by (repeat (with_reducible first | exact Below.refl _ _ | (refine bl_set ?_ (by first | omega | (simp; done) | (simp; omega)) _) | refine bl_gr ?_ _ | refine bl_al ?_ _ | refine below_setRow ?_ (by first | omega | (simp; done) | (simp; omega)) _ | refine bl_drewN ?_ _ | refine Below.drew ?_ | (refine bl_tr ?_ (by assumption)))))) (I2.out.below (by (repeat (with_reducible first | exact Below.refl _ _ | (refine bl_set ?_ (by first | omega | (simp; done) | (simp; omega)) _) | refine bl_gr ?_ _ | refine bl_al ?_ _ | refine below_setRow ?_ (by first | omega | (simp; done) | (simp; omega)) _ | refine bl_drewN ?_ _ | refine Below.drew ?_ | (refine bl_tr ?_ (by assumption)))))))).mono ?_; rintro e w' ⟨pp, rfl, rfl⟩)
  refine wp_world (fun X => Below W.heap.size W X) (by (repeat (with_reducible first | exact Below.refl _ _ | (refine bl_set ?_ (by first | omega | (simp; done) | (simp; omega)) _) | refine bl_gr ?_ _ | refine bl_al ?_ _ | refine below_setRow ?_ (by first | omega | (simp; done) | (simp; omega)) _ | refine bl_drewN ?_ _ | refine Below.drew ?_ | (refine bl_tr ?_ (by assumption))))) ?_
  intro X hX
  have O1 := Lib.hid hX
  clear a0 a1 a2 a3 a4 a5 hX
  go_wp2
  go_loopw [6, 7] (fun kp i wr => ∃ (k : Nat) (A9 : Option Addr) (n9 : Nat), k ≤ m ∧ i = .int .i64 ((2 * k : Nat) : Int) ∧ kp = .slice A9 k n9 ∧ OwnBl wr W.heap.size (.slice A9 k n9) (keepB (fun v => !v.eq key) c.mo k) ∧ Below W.heap.size W wr) (fun _ i _ => 2 * m - (intOf i).toNat)
  case atStart => exact ⟨0, none, 0, by omega, by simp, rfl, World.ownsRow_nil _ _ _ _, O1.out⟩
  case round =>
    obtain ⟨k, A9, n9, hk, rfl, rfl, ho, hB⟩ := hrel
    have hml := HM.out
    obtain ⟨k1, k2, k3⟩ := KK.out wr hB
    obtain ⟨⟨p0, p1, p2, p3, p4, p5⟩, _⟩ := cells6 k1
    obtain ⟨t0, t1, t2⟩ := cells3 k2
    have sX := hB.size
    have l0w : w.heap.size < wr.heap.size := by omega
    have l1w : w.heap.size + 1 < wr.heap.size := by omega
    have INV := Lib.hid (And.intro ho (And.intro hB k3))
    have O2 := Lib.hid hB
    by_cases hlt : k < m
    · obtain ⟨b, off, rfl⟩ := isV_addr I2.out (by omega)
      obtain ⟨lb, x0, x1, x2⟩ := (I2.out.below hB).v3 (2 * k) (by omega)
      have hkl : (keepB (fun v => !v.eq key) c.mo k).length + 1 ≤ 140737488355328 := by rw [keepB_len]; omega
      have SK := Lib.hid (show ∀ Z, Below W.heap.size W Z → Z.cell? ⟨b, off + 2 * k * 3, none⟩ = some (.int .i64 (vAt c.mo (2 * k)).k) ∧ Z.cell? ⟨b, off + 2 * k * 3 + 1, none⟩ = some (.int .i64 (vAt c.mo (2 * k)).n) ∧ Z.cell? ⟨b, off + 2 * k * 3 + 2, none⟩ = some (.string (vAt c.mo (2 * k)).s) from fun Z hZ => by
        obtain ⟨_, h0, h1, h2⟩ := (I2.out.below hZ).v3 (2 * k) (by omega)
        exact ⟨h0, h1, h2⟩)
      have KS := Lib.hid (keepB_snoc (fun v => !v.eq key) c.mo k)
      have KL := Lib.hid (keepB_len (fun v => !v.eq key) c.mo k)
      generalize hL : c.mo.length = L at *
      generalize hq : 2 * k = q at *
      generalize vAt c.mo q = u at *
      have g1 : ¬ (q : Int) < 0 := by omega
      have g2 : (q : Int) < L := by omega
      have g4 : (0 : Int) ≤ (q : Int) := by omega
      have g6 : q ≤ 1048576 := by omega
      have hk1 : k + 1 ≤ m := hlt
      have HQ := Lib.hid (And.intro hL hq)
      have HKL := Lib.hid hkl
      clear hL hq hml hB ho k1 k2 k3 hkl hlt hk
      go_upto_region 7 with fail
      (refine wp_region_held_drew (S := (fun Z : World => Z.cell? ⟨w.heap.size, 5, none⟩ = some (.slice (some ⟨b, off, none⟩) L n2) ∧ Z.cell? ⟨w.heap.size + 1, 0, none⟩ = some (.int .i64 key.k) ∧ Z.cell? ⟨w.heap.size + 1, 1, none⟩ = some (.int .i64 key.n) ∧ Z.cell? ⟨w.heap.size + 1, 2, none⟩ = some (.string key.s) ∧ Z.cell? ⟨b, off + q * 3, none⟩ = some (.int .i64 u.k) ∧ Z.cell? ⟨b, off + q * 3 + 1, none⟩ = some (.int .i64 u.n) ∧ Z.cell? ⟨b, off + q * 3 + 2, none⟩ = some (.string u.s))) Try.mixed (by (and_intros <;> go_simp)) (fun hS => ?_); (refine wpAnyH_take (i := 0) (v := ?_) rfl (by kernel_rfl) (by kernel_rfl) (by kernel_rfl) (fun _ _ _ h => h) ?_ (by assumption) ?_; rotate_left; (next => (refine Or.inl ⟨by kernel_rfl, ?_⟩; ((intro w hSw; (try dsimp only at hSw); go_simp) <;> with_reducible rfl))); (try simp only [Act.put, List.setIfInBounds_toArray, List.set_cons_zero, List.set_cons_succ])); (refine wpAnyH_take (i := 1) (v := ?_) rfl (by kernel_rfl) (by kernel_rfl) (by kernel_rfl) (fun _ _ _ h => h) ?_ (by assumption) ?_; rotate_left; (next => (refine Or.inl ⟨by kernel_rfl, ?_⟩; ((intro w hSw; (try dsimp only at hSw); go_simp) <;> with_reducible rfl))); (try simp only [Act.put, List.setIfInBounds_toArray, List.set_cons_zero, List.set_cons_succ])); (refine wpAnyH_take (i := 2) (v := ?_) rfl (by kernel_rfl) (by kernel_rfl) (by kernel_rfl) (fun _ _ _ h => h) ?_ (by assumption) ?_; rotate_left; (next => (refine Or.inl ⟨by kernel_rfl, ?_⟩; ((intro w hSw; (try dsimp only at hSw); obtain ⟨s0, s1, s2, s3, s4, s5, s6⟩ := hSw; go_simp) <;> with_reducible rfl))); (try simp only [Act.put, List.setIfInBounds_toArray, List.set_cons_zero, List.set_cons_succ])); (refine wpAnyH_take (i := 3) (v := ?_) rfl (by kernel_rfl) (by kernel_rfl) (by kernel_rfl) (fun _ _ _ h => h) ?_ (by assumption) ?_; rotate_left; (next => (refine Or.inl ⟨by kernel_rfl, ?_⟩; ((intro w hSw; (try dsimp only at hSw); go_simp) <;> with_reducible rfl))); (try simp only [Act.put, List.setIfInBounds_toArray, List.set_cons_zero, List.set_cons_succ])); (refine wpAnyH_take (i := 4) (v := ?_) rfl (by kernel_rfl) (by kernel_rfl) (by kernel_rfl) (fun _ _ _ h => h) ?_ (by assumption) ?_; rotate_left; (next => (refine Or.inl ⟨by kernel_rfl, ?_⟩; ((intro w hSw; (try dsimp only at hSw); go_simp) <;> with_reducible rfl))); (try simp only [Act.put, List.setIfInBounds_toArray, List.set_cons_zero, List.set_cons_succ])); (refine wpAnyH_take (i := 5) (v := ?_) rfl (by kernel_rfl) (by kernel_rfl) (by kernel_rfl) (fun _ _ _ h => h) ?_ (by assumption) ?_; rotate_left; (next => (refine Or.inl ⟨by kernel_rfl, ?_⟩; ((intro w hSw; (try dsimp only at hSw); obtain ⟨s0, s1, s2, s3, s4, s5, s6⟩ := hSw; go_simp) <;> with_reducible rfl))); (try simp only [Act.put, List.setIfInBounds_toArray, List.set_cons_zero, List.set_cons_succ])); (refine wpAnyH_take (i := 6) (v := ?_) rfl (by kernel_rfl) (by kernel_rfl) (by kernel_rfl) (fun _ _ _ h => h) ?_ (by assumption) ?_; rotate_left; (next => (refine Or.inl ⟨by kernel_rfl, ?_⟩; ((intro w hSw; (try dsimp only at hSw); obtain ⟨s0, s1, s2, s3, s4, s5, s6⟩ := hSw; go_simp) <;> with_reducible rfl))); (try simp only [Act.put, List.setIfInBounds_toArray, List.set_cons_zero, List.set_cons_succ])); (refine wpAnyH_take (i := 7) (v := ?_) rfl (by kernel_rfl) (by kernel_rfl) (by kernel_rfl) (fun _ _ _ h => h) ?_ (by assumption) ?_; rotate_left; (next => (refine Or.inl ⟨by kernel_rfl, ?_⟩; ((intro w hSw; (try dsimp only at hSw); go_simp) <;> with_reducible rfl))); (try simp only [Act.put, List.setIfInBounds_toArray, List.set_cons_zero, List.set_cons_succ])); refine wpAnyH_ready (rs := [8]) (by kernel_rfl) (by simp) ?_; refine AllReadyH.cons rfl (fun K hK => ?_) AllReadyH.nil; go_simp; refine hK.out _ _ (by (and_intros <;> go_simp)) (fun hS => ?_); clear hK K; (try simp only [Act.put, List.setIfInBounds_toArray, List.set_cons_zero, List.set_cons_succ]); refine wpAnyH_ready (rs := [9]) (by kernel_rfl) (by simp) ?_; refine AllReadyH.cons rfl (fun K hK => ?_) AllReadyH.nil; ((refine step_appB W.heap.size rfl (.tmp 19) (.tmp 27) rfl (keepB (fun v => !v.eq key) c.mo k) (!u.eq key) (yv := .slice A9 k n9) (by simp [Act.eval, Act.put]) (by simp [Act.eval, Act.put]; rfl) ?_ ?_ ?_ HKL.out ?_; (next => exact (show Below W.heap.size W _ by (repeat (with_reducible first | exact O2.out | exact Below.refl _ _ | refine bl_rapp ?_ | (refine bl_set ?_ (by first | omega | (simp; done) | (simp; omega)) _) | refine bl_gr ?_ _ | refine bl_al ?_ _ | refine bl_drewN ?_ _ | refine Below.drew ?_))).size); (next => exact ownsRow_below INV.out.1 (by (repeat (with_reducible first  | exact Below.refl _ _ | refine bl_rapp ?_ | (refine bl_set ?_ (by first | omega | (simp; done) | (simp; omega)) _) | refine bl_gr ?_ _ | refine bl_al ?_ _ | refine bl_drewN ?_ _ | refine Below.drew ?_)))); (next => exact heap_alloc_new wr (.cells #[.bool (!u.eq key)] 4)); intro g7 n7 w7 o7 t7; have B9 := Lib.hid (show Below W.heap.size W w7 from own_TB (by (repeat (with_reducible first | exact O2.out | exact Below.refl _ _ | refine bl_rapp ?_ | (refine bl_set ?_ (by first | omega | (simp; done) | (simp; omega)) _) | refine bl_gr ?_ _ | refine bl_al ?_ _ | refine bl_drewN ?_ _ | refine Below.drew ?_))) (ownsRow_below INV.out.1 (by (repeat (with_reducible first  | exact Below.refl _ _ | refine bl_rapp ?_ | (refine bl_set ?_ (by first | omega | (simp; done) | (simp; omega)) _) | refine bl_gr ?_ _ | refine bl_al ?_ _ | refine bl_drewN ?_ _ | refine Below.drew ?_)))) (Nat.le_refl _) t7); rw [← KS.out] at o7 ⊢; have O7 := Lib.hid o7; clear o7 t7)); refine hK.out _ _ (by (obtain ⟨⟨_, _, _, _, _, g5⟩, _⟩ := cells6 (KK.out w7 B9.out).1; obtain ⟨g0, g1', g2'⟩ := cells3 (KK.out w7 B9.out).2.1; exact ⟨g5, g0, g1', g2', SK.out w7 B9.out⟩)) (fun hS => ?_); clear hK K; (try simp only [Act.put, List.setIfInBounds_toArray, List.set_cons_zero, List.set_cons_succ]); (refine wpAnyH_take (i := 10) (v := ?_) rfl (by kernel_rfl) (by kernel_rfl) (by kernel_rfl) (fun _ _ _ h => h) ?_ (by assumption) ?_; rotate_left; (next => (refine Or.inl ⟨by kernel_rfl, ?_⟩; ((intro w hSw; (try dsimp only at hSw); go_simp) <;> with_reducible rfl))); (try simp only [Act.put, List.setIfInBounds_toArray, List.set_cons_zero, List.set_cons_succ])); refine wpAnyH_done (by kernel_rfl) ?_ _)
      go_simp
      go_wp2
      go_roundw
      case rel => exact ⟨k + 1, some ⟨g7, 0, none⟩, n7, by omega, by have := HQ.out.2; rw [show 2 * (k + 1) = q + 2 by omega]; go_num, by rw [keepB_len], by have := O7.out; rwa [keepB_len] at this, B9.out⟩
      case measure => have := HQ.out.2; simp [intOf]; omega
    · have hkm : k = m := by omega
      have h12 : ¬ ((2 * k : Nat) : Int) < c.mo.length := by omega
      have IB := Lib.hid (show IsBl wr (.slice A9 k n9) (keepB (fun v => !v.eq key) c.mo m) by
        have := OwnBl.isBl (bs := keepB (fun v => !v.eq key) c.mo k) (by unfold OwnBl; rw [keepB_len]; exact (by have h := ho; unfold OwnBl at h; rwa [keepB_len] at h))
        rwa [hkm] at this ⊢)
      clear ho hml hkm hlt hk k1 k2 k3
      generalize hks : keptW (fun v => !v.eq key) c.mo (List.finRange m) = ks at *
      have HKS := Lib.hid hks
      clear hks
      go_upto_region 8 with fail
      (refine wp_region_held_drew (S := (fun Z : World => Z.cell? ⟨w.heap.size, 0, none⟩ = some (.int .i64 c.k) ∧ Z.cell? ⟨w.heap.size, 1, none⟩ = some (.int .i64 c.sh) ∧ Z.cell? ⟨w.heap.size, 2, none⟩ = some (.int .i64 c.fl) ∧ Z.cell? ⟨w.heap.size, 3, none⟩ = some (.int .i64 c.ag) ∧ Z.cell? ⟨w.heap.size, 4, none⟩ = some (.slice A0 c.sl.length n0) ∧ Z.cell? ⟨w.heap.size, 5, none⟩ = some (.slice A2 c.mo.length n2) ∧ Z.cell? ⟨w.heap.size + 1, 0, none⟩ = some (.int .i64 key.k) ∧ Z.cell? ⟨w.heap.size + 1, 1, none⟩ = some (.int .i64 key.n) ∧ Z.cell? ⟨w.heap.size + 1, 2, none⟩ = some (.string key.s))) Try.mixed (by (and_intros <;> go_simp)) (fun hS => ?_); (refine wpAnyH_take (i := 0) (v := ?_) rfl (by kernel_rfl) (by kernel_rfl) (by kernel_rfl) (fun _ _ _ h => h) ?_ (by assumption) ?_; rotate_left; (next => (refine Or.inl ⟨by kernel_rfl, ?_⟩; ((intro w hSw; (try dsimp only at hSw); obtain ⟨a0, a1, a2, a3, a4, a5, t0, t1, t2⟩ := hSw; go_simp) <;> with_reducible rfl))); (try simp only [Act.put, List.setIfInBounds_toArray, List.set_cons_zero, List.set_cons_succ])); (refine wpAnyH_take (i := 1) (v := ?_) rfl (by kernel_rfl) (by kernel_rfl) (by kernel_rfl) (fun _ _ _ h => h) ?_ (by assumption) ?_; rotate_left; (next => (refine Or.inl ⟨by kernel_rfl, ?_⟩; ((intro w hSw; (try dsimp only at hSw); go_simp) <;> with_reducible rfl))); (try simp only [Act.put, List.setIfInBounds_toArray, List.set_cons_zero, List.set_cons_succ])); (refine wpAnyH_take (i := 3) (v := ?_) rfl (by kernel_rfl) (by kernel_rfl) (by kernel_rfl) (fun _ _ _ h => h) ?_ (by assumption) ?_; rotate_left; (next => (refine Or.inl ⟨by kernel_rfl, ?_⟩; ((intro w hSw; (try dsimp only at hSw); obtain ⟨a0, a1, a2, a3, a4, a5, t0, t1, t2⟩ := hSw; go_simp) <;> with_reducible rfl))); (try simp only [Act.put, List.setIfInBounds_toArray, List.set_cons_zero, List.set_cons_succ])); (refine wpAnyH_take (i := 4) (v := ?_) rfl (by kernel_rfl) (by kernel_rfl) (by kernel_rfl) (fun _ _ _ h => h) ?_ (by assumption) ?_; rotate_left; (next => (refine Or.inl ⟨by kernel_rfl, ?_⟩; ((intro w hSw; (try dsimp only at hSw); obtain ⟨a0, a1, a2, a3, a4, a5, t0, t1, t2⟩ := hSw; go_simp) <;> with_reducible rfl))); (try simp only [Act.put, List.setIfInBounds_toArray, List.set_cons_zero, List.set_cons_succ])); refine wpAnyH_ready (rs := [2]) (by kernel_rfl) (by simp) ?_; refine AllReadyH.cons rfl (fun K hK => ?_) AllReadyH.nil; go_simp; ((go_at_call 34; refine (WO.out _ _ (I1.out.below (by (repeat (with_reducible first | exact O2.out | exact Below.refl _ _ | refine bl_rapp ?_ | (refine bl_set ?_ (by first | omega | (simp; done) | (simp; omega)) _) | refine bl_gr ?_ _ | refine bl_al ?_ _ | refine bl_drewN ?_ _ | refine Below.drew ?_)))) (I2.out.below (by (repeat (with_reducible first | exact O2.out | exact Below.refl _ _ | refine bl_rapp ?_ | (refine bl_set ?_ (by first | omega | (simp; done) | (simp; omega)) _) | refine bl_gr ?_ _ | refine bl_al ?_ _ | refine bl_drewN ?_ _ | refine Below.drew ?_)))) (IB.out.below (by (repeat (with_reducible first  | exact Below.refl _ _ | refine bl_rapp ?_ | (refine bl_set ?_ (by first | omega | (simp; done) | (simp; omega)) _) | refine bl_gr ?_ _ | refine bl_al ?_ _ | refine bl_drewN ?_ _ | refine Below.drew ?_))))).mono ?_; rintro e w5 ⟨A5, n5, A6, n6, rfl, o1, o2, hb⟩; (try dsimp only at o1 o2 ⊢); have B5 := Lib.hid (show Below W.heap.size W w5 from bl_tr (by (repeat (with_reducible first | exact O2.out | exact Below.refl _ _ | refine bl_rapp ?_ | (refine bl_set ?_ (by first | omega | (simp; done) | (simp; omega)) _) | refine bl_gr ?_ _ | refine bl_al ?_ _ | refine bl_drewN ?_ _ | refine Below.drew ?_))) hb); have O5 := Lib.hid (And.intro o1 o2); have l5 := B5.out.size; have l05 : w.heap.size < w5.heap.size := (by omega); have l15 : w.heap.size + 1 < w5.heap.size := (by omega); have l25 : w.heap.size + 1 + 1 < w5.heap.size := (by omega); obtain ⟨⟨a0, a1, a2, a3, a4, a5⟩, _⟩ := cells6 (KK.out w5 B5.out).1; obtain ⟨t0, t1, t2⟩ := cells3 (KK.out w5 B5.out).2.1; obtain ⟨⟨x0, x1, x2, x3, x4, x5⟩, y0, y1, y2, y3, y4, y5⟩ := cells6 (KK.out w5 B5.out).2.2; clear o1 o2 hb)); refine hK.out _ _ (by (and_intros <;> go_simp)) (fun hS => ?_); clear hK K; (try simp only [Act.put, List.setIfInBounds_toArray, List.set_cons_zero, List.set_cons_succ]); refine wpAnyH_ready (rs := [5]) (by kernel_rfl) (by simp) ?_; refine AllReadyH.cons rfl (fun K hK => ?_) AllReadyH.nil; go_simp; ((go_at_call 38; refine (callGr (PL.out _ (I1.out.below (by (repeat (with_reducible first | exact B5.out | exact Below.refl _ _ | refine bl_rapp ?_ | (refine bl_set ?_ (by first | omega | (simp; done) | (simp; omega)) _) | refine bl_gr ?_ _ | refine bl_al ?_ _ | refine bl_drewN ?_ _ | refine Below.drew ?_)))) (I2.out.below (by (repeat (with_reducible first | exact B5.out | exact Below.refl _ _ | refine bl_rapp ?_ | (refine bl_set ?_ (by first | omega | (simp; done) | (simp; omega)) _) | refine bl_gr ?_ _ | refine bl_al ?_ _ | refine bl_drewN ?_ _ | refine Below.drew ?_)))))).mono ?_; rintro e w' ⟨pp, rfl, rfl⟩)); refine hK.out _ _ (by (and_intros <;> go_simp)) (fun hS => ?_); clear hK K; (try simp only [Act.put, List.setIfInBounds_toArray, List.set_cons_zero, List.set_cons_succ]); (refine wpAnyH_take (i := 6) (v := ?_) rfl (by kernel_rfl) (by kernel_rfl) (by kernel_rfl) (fun _ _ _ h => h) ?_ (by assumption) ?_; rotate_left; (next => (refine Or.inl ⟨by kernel_rfl, ?_⟩; ((intro w hSw; (try dsimp only at hSw); go_simp) <;> with_reducible rfl))); (try simp only [Act.put, List.setIfInBounds_toArray, List.set_cons_zero, List.set_cons_succ])); refine wpAnyH_ready (rs := [7]) (by kernel_rfl) (by simp) ?_; refine AllReadyH.cons rfl (fun K hK => ?_) AllReadyH.nil; go_simp; refine hK.out _ _ (by (and_intros <;> go_simp)) (fun hS => ?_); clear hK K; (try simp only [Act.put, List.setIfInBounds_toArray, List.set_cons_zero, List.set_cons_succ]); (refine wpAnyH_take (i := 8) (v := ?_) rfl (by kernel_rfl) (by kernel_rfl) (by kernel_rfl) (fun _ _ _ h => h) ?_ (by assumption) ?_; rotate_left; (next => (refine Or.inl ⟨by kernel_rfl, ?_⟩; ((intro w hSw; (try dsimp only at hSw); go_simp) <;> with_reducible rfl))); (try simp only [Act.put, List.setIfInBounds_toArray, List.set_cons_zero, List.set_cons_succ])); refine wpAnyH_done (by kernel_rfl) ?_ _)
      go_simp
      go_wp2
      refine wp_post (fun W6 => W6.heap[w.heap.size + 1 + 1]? = some (cellO c.k c.sh c.fl c.ag (.slice A5 c.sl.length n5) (.slice A6 ks.length n6)) ∧ IsV W6 (.slice A5 c.sl.length n5) c.sl ∧ IsV W6 (.slice A6 ks.length n6) ks ∧ Below w.heap.size w W6) ?_ ?_
      · have P := put6 (k' := c.k) (sh' := c.sh) (fl' := c.fl) (ag' := c.ag) (s' := .slice A5 c.sl.length n5) (mm' := .slice A6 ks.length n6) (show Below w.heap.size w w5 from bl_tr BW.out B5.out) (show w.heap.size ≤ w.heap.size + 1 + 1 by omega) (KK.out w5 B5.out).2.2
        have f1 := setI O5.out.1 (KK.out w5 B5.out).2.2 P.2.1
        have f2 := setI O5.out.2 (KK.out w5 B5.out).2.2 P.2.1
        exact ⟨((below_gr _ _).block _ (by simpa using l25)).trans P.1, f1.below (below_gr _ _), f2.below (below_gr _ _), bl_gr P.2.2 _⟩
      rintro W6 ⟨r1, f1, f2, rb⟩
      have FF := Lib.hid (And.intro f1 (And.intro f2 rb))
      clear f1 f2 rb a0 a1 a2 a3 a4 a5 t0 t1 t2 x0 x1 x2 x3 x4 x5 y0 y1 y2 y3 y4 y5 hS p0 p1 p2 p3 p4 p5
      obtain ⟨⟨b0, b1, b2, b3, b4, b5⟩, _⟩ := cells6 r1
      refine bodyPost_ret (v := .tuple #[cellV c.k c.sh c.fl c.ag (.slice A5 c.sl.length n5) (.slice A6 ks.length n6), .bool (decide (0 ≤ placeI (getW key c.mo (List.finRange m))))]) (by clear r1; simp [results, Try.results19, go_sem, *]) rfl ?_
      rw [place_isSome]
      have hks := HKS.out
      subst hks
      exact ⟨_, _, _, _, rfl, FF.out.1, FF.out.2.1, FF.out.2.2⟩
end Go.Proofs.Ytdikdkllbhanfaa
