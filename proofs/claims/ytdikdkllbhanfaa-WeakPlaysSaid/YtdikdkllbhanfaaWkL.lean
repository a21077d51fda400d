/- Weak maps: the reference's place, Copied and Get. -/
import Derived.Test.YtdikdkllbhanfaaWkK
namespace Go.Proofs.Ytdikdkllbhanfaa
set_option linter.all false
open Go.RowKit Go.Sort Go.Deep Go.Shelf

/-- the index of the first entry with a key, or -1 -/
def placeI {m : Nat} : Option (Fin m) → Int | some x => ((2 * x.val : Nat) : Int) | none => -1

set_option maxRecDepth 100000 in
set_option maxHeartbeats 8000000 in
theorem place_any (sv mv : Value) (c : CellD) (key : Val) (m : Nat) (hm : c.mo.length = 2 * m) (hmx : c.mo.length ≤ 1048576) (w : World) (h1 : IsV w sv c.sl) (h2 : IsV w mv c.mo) :
    Calls Try.prog 38 #[cellV c.k c.sh c.fl c.ag sv mv, key.agg] w fun e w' => e = .returned (.int .i64 (placeI (getW key c.mo (List.finRange m)))) ∧ Below w.heap.size w w' := by
  obtain ⟨A0, n0, rfl, _, _⟩ := h1.form
  obtain ⟨A2, n2, rfl, _, _⟩ := h2.form
  have H2 := Lib.hid h2
  have HM := Lib.hid (And.intro hm hmx)
  clear h1 h2 hm hmx
  go_enter Try.func38, Try.ntmps38
  go_upto_region 1 with fail
  refine wp_world (fun W => W.heap[w.heap.size]? = some (cellO c.k c.sh c.fl c.ag (.slice A0 c.sl.length n0) (.slice A2 c.mo.length n2)) ∧ W.heap[w.heap.size + 1]? = some (valB key) ∧ Below w.heap.size w W) (heap2 w _ _) ?_
  rintro W ⟨j1, j2, jb⟩
  have l0 : w.heap.size < W.heap.size := (Array.getElem?_eq_some_iff.1 j1).1
  have l1 : w.heap.size + 1 < W.heap.size := (Array.getElem?_eq_some_iff.1 j2).1
  have KK := Lib.hid (show ∀ X, Below W.heap.size W X → X.heap[w.heap.size]? = some (cellO c.k c.sh c.fl c.ag (.slice A0 c.sl.length n0) (.slice A2 c.mo.length n2)) ∧ X.heap[w.heap.size + 1]? = some (valB key) from fun X h => ⟨(h.block _ l0).trans j1, (h.block _ l1).trans j2⟩)
  have BW := Lib.hid jb
  have I2 := Lib.hid (H2.out.below jb)
  clear j1 j2 jb H2
  go_wp2
  go_loopw [5] (fun i wr => ∃ k : Nat, k ≤ m ∧ i = .int .i64 ((2 * k : Nat) : Int) ∧ Hid (getW key c.mo ((List.finRange m).take k) = none) ∧ Below W.heap.size W wr) (fun i _ => 2 * m - (intOf i).toNat)
  case atStart => exact ⟨0, by omega, by simp, Lib.hid rfl, Below.refl _ _⟩
  case round =>
    obtain ⟨k, hk, rfl, HG, hB⟩ := hrel
    obtain ⟨k0, k1⟩ := KK.out wr hB
    obtain ⟨⟨p0, p1, p2, p3, p4, p5⟩, _⟩ := cells6 k0
    obtain ⟨t0, t1, t2⟩ := cells3 k1
    have hml := HM.out
    have sX := hB.size
    have lX : w.heap.size < wr.heap.size := by omega
    by_cases hlt : k < m
    · obtain ⟨b, off, rfl⟩ := isV_addr I2.out (by omega)
      obtain ⟨lg, x0, x1, x2⟩ := (I2.out.below hB).v3 (2 * k) (by omega)
      have INV := Lib.hid hB
      clear k0 k1
      cases he : (vAt c.mo (2 * k)).eq key
      · have HE := Lib.hid (getW_no hlt HG.out he)
        generalize hL : c.mo.length = L at *
        generalize hq : 2 * k = q at *
        generalize vAt c.mo q = u at *
        have he' : (Val.mk u.k u.n u.s).eq ⟨key.k, key.n, key.s⟩ = false := he
        have g1 : ¬ (q : Int) < 0 := by omega
        have g2 : (q : Int) < L := by omega
        have g6 : q ≤ 1048576 := by omega
        have HQ := Lib.hid (And.intro hL hq)
        clear he hL hq hml hB
        go_upto_region 4 with fail
        (refine wp_region_held_drew (S := (fun Z : World => Z.cell? ⟨w.heap.size, 5, none⟩ = some (.slice (some ⟨b, off, none⟩) L n2) ∧ Z.cell? ⟨w.heap.size + 1, 0, none⟩ = some (.int .i64 key.k) ∧ Z.cell? ⟨w.heap.size + 1, 1, none⟩ = some (.int .i64 key.n) ∧ Z.cell? ⟨w.heap.size + 1, 2, none⟩ = some (.string key.s) ∧ Z.cell? ⟨b, off + q * 3, none⟩ = some (.int .i64 u.k) ∧ Z.cell? ⟨b, off + q * 3 + 1, none⟩ = some (.int .i64 u.n) ∧ Z.cell? ⟨b, off + q * 3 + 2, none⟩ = some (.string u.s))) Try.mixed (by exact ⟨p5, t0, t1, t2, x0, x1, x2⟩) (fun hS => ?_); (refine wpAnyH_take (i := 0) (v := ?_) rfl (by kernel_rfl) (by kernel_rfl) (by kernel_rfl) (fun _ _ _ h => h) ?_ (by assumption) ?_; rotate_left; (next => (refine Or.inl ⟨by kernel_rfl, ?_⟩; ((intro w hSw; (try dsimp only at hSw); go_simp) <;> with_reducible rfl))); (try simp only [Act.put, List.setIfInBounds_toArray, List.set_cons_zero, List.set_cons_succ])); (refine wpAnyH_take (i := 1) (v := ?_) rfl (by kernel_rfl) (by kernel_rfl) (by kernel_rfl) (fun _ _ _ h => h) ?_ (by assumption) ?_; rotate_left; (next => (refine Or.inl ⟨by kernel_rfl, ?_⟩; ((intro w hSw; (try dsimp only at hSw); obtain ⟨s0, s1, s2, s3, s4, s5, s6⟩ := hSw; go_simp) <;> with_reducible rfl))); (try simp only [Act.put, List.setIfInBounds_toArray, List.set_cons_zero, List.set_cons_succ])); (refine wpAnyH_take (i := 2) (v := ?_) rfl (by kernel_rfl) (by kernel_rfl) (by kernel_rfl) (fun _ _ _ h => h) ?_ (by assumption) ?_; rotate_left; (next => (refine Or.inl ⟨by kernel_rfl, ?_⟩; ((intro w hSw; (try dsimp only at hSw); go_simp) <;> with_reducible rfl))); (try simp only [Act.put, List.setIfInBounds_toArray, List.set_cons_zero, List.set_cons_succ])); (refine wpAnyH_take (i := 3) (v := ?_) rfl (by kernel_rfl) (by kernel_rfl) (by kernel_rfl) (fun _ _ _ h => h) ?_ (by assumption) ?_; rotate_left; (next => (refine Or.inl ⟨by kernel_rfl, ?_⟩; ((intro w hSw; (try dsimp only at hSw); go_simp) <;> with_reducible rfl))); (try simp only [Act.put, List.setIfInBounds_toArray, List.set_cons_zero, List.set_cons_succ])); (refine wpAnyH_take (i := 4) (v := ?_) rfl (by kernel_rfl) (by kernel_rfl) (by kernel_rfl) (fun _ _ _ h => h) ?_ (by assumption) ?_; rotate_left; (next => (refine Or.inl ⟨by kernel_rfl, ?_⟩; ((intro w hSw; (try dsimp only at hSw); obtain ⟨s0, s1, s2, s3, s4, s5, s6⟩ := hSw; go_simp) <;> with_reducible rfl))); (try simp only [Act.put, List.setIfInBounds_toArray, List.set_cons_zero, List.set_cons_succ])); (refine wpAnyH_take (i := 5) (v := ?_) rfl (by kernel_rfl) (by kernel_rfl) (by kernel_rfl) (fun _ _ _ h => h) ?_ (by assumption) ?_; rotate_left; (next => (refine Or.inl ⟨by kernel_rfl, ?_⟩; ((intro w hSw; (try dsimp only at hSw); obtain ⟨s0, s1, s2, s3, s4, s5, s6⟩ := hSw; go_simp) <;> with_reducible rfl))); (try simp only [Act.put, List.setIfInBounds_toArray, List.set_cons_zero, List.set_cons_succ])); (refine wpAnyH_take (i := 6) (v := ?_) rfl (by kernel_rfl) (by kernel_rfl) (by kernel_rfl) (fun _ _ _ h => h) ?_ (by assumption) ?_; rotate_left; (next => (refine Or.inl ⟨by kernel_rfl, ?_⟩; ((intro w hSw; (try dsimp only at hSw); go_simp) <;> with_reducible rfl))); (try simp only [Act.put, List.setIfInBounds_toArray, List.set_cons_zero, List.set_cons_succ])); refine wpAnyH_done (by kernel_rfl) ?_ _)
        go_simp
        go_wp2
        go_roundw
        case rel => exact ⟨k + 1, by omega, by have := HQ.out.2; rw [show 2 * (k + 1) = q + 2 by omega]; go_num, Lib.hid HE.out, INV.out.drew⟩
        case measure => have := HQ.out.2; simp [intOf]; omega
      · have HE := Lib.hid (getW_yes hlt HG.out he)
        generalize hL : c.mo.length = L at *
        generalize hq : 2 * k = q at *
        generalize vAt c.mo q = u at *
        have he' : (Val.mk u.k u.n u.s).eq ⟨key.k, key.n, key.s⟩ = true := he
        have g1 : ¬ (q : Int) < 0 := by omega
        have g2 : (q : Int) < L := by omega
        have g6 : q ≤ 1048576 := by omega
        have HQ := Lib.hid (And.intro hL hq)
        clear he hL hq hml hB
        go_upto_region 4 with fail
        (refine wp_region_held_drew (S := (fun Z : World => Z.cell? ⟨w.heap.size, 5, none⟩ = some (.slice (some ⟨b, off, none⟩) L n2) ∧ Z.cell? ⟨w.heap.size + 1, 0, none⟩ = some (.int .i64 key.k) ∧ Z.cell? ⟨w.heap.size + 1, 1, none⟩ = some (.int .i64 key.n) ∧ Z.cell? ⟨w.heap.size + 1, 2, none⟩ = some (.string key.s) ∧ Z.cell? ⟨b, off + q * 3, none⟩ = some (.int .i64 u.k) ∧ Z.cell? ⟨b, off + q * 3 + 1, none⟩ = some (.int .i64 u.n) ∧ Z.cell? ⟨b, off + q * 3 + 2, none⟩ = some (.string u.s))) Try.mixed (by exact ⟨p5, t0, t1, t2, x0, x1, x2⟩) (fun hS => ?_); (refine wpAnyH_take (i := 0) (v := ?_) rfl (by kernel_rfl) (by kernel_rfl) (by kernel_rfl) (fun _ _ _ h => h) ?_ (by assumption) ?_; rotate_left; (next => (refine Or.inl ⟨by kernel_rfl, ?_⟩; ((intro w hSw; (try dsimp only at hSw); go_simp) <;> with_reducible rfl))); (try simp only [Act.put, List.setIfInBounds_toArray, List.set_cons_zero, List.set_cons_succ])); (refine wpAnyH_take (i := 1) (v := ?_) rfl (by kernel_rfl) (by kernel_rfl) (by kernel_rfl) (fun _ _ _ h => h) ?_ (by assumption) ?_; rotate_left; (next => (refine Or.inl ⟨by kernel_rfl, ?_⟩; ((intro w hSw; (try dsimp only at hSw); obtain ⟨s0, s1, s2, s3, s4, s5, s6⟩ := hSw; go_simp) <;> with_reducible rfl))); (try simp only [Act.put, List.setIfInBounds_toArray, List.set_cons_zero, List.set_cons_succ])); (refine wpAnyH_take (i := 2) (v := ?_) rfl (by kernel_rfl) (by kernel_rfl) (by kernel_rfl) (fun _ _ _ h => h) ?_ (by assumption) ?_; rotate_left; (next => (refine Or.inl ⟨by kernel_rfl, ?_⟩; ((intro w hSw; (try dsimp only at hSw); go_simp) <;> with_reducible rfl))); (try simp only [Act.put, List.setIfInBounds_toArray, List.set_cons_zero, List.set_cons_succ])); (refine wpAnyH_take (i := 3) (v := ?_) rfl (by kernel_rfl) (by kernel_rfl) (by kernel_rfl) (fun _ _ _ h => h) ?_ (by assumption) ?_; rotate_left; (next => (refine Or.inl ⟨by kernel_rfl, ?_⟩; ((intro w hSw; (try dsimp only at hSw); go_simp) <;> with_reducible rfl))); (try simp only [Act.put, List.setIfInBounds_toArray, List.set_cons_zero, List.set_cons_succ])); (refine wpAnyH_take (i := 4) (v := ?_) rfl (by kernel_rfl) (by kernel_rfl) (by kernel_rfl) (fun _ _ _ h => h) ?_ (by assumption) ?_; rotate_left; (next => (refine Or.inl ⟨by kernel_rfl, ?_⟩; ((intro w hSw; (try dsimp only at hSw); obtain ⟨s0, s1, s2, s3, s4, s5, s6⟩ := hSw; go_simp) <;> with_reducible rfl))); (try simp only [Act.put, List.setIfInBounds_toArray, List.set_cons_zero, List.set_cons_succ])); (refine wpAnyH_take (i := 5) (v := ?_) rfl (by kernel_rfl) (by kernel_rfl) (by kernel_rfl) (fun _ _ _ h => h) ?_ (by assumption) ?_; rotate_left; (next => (refine Or.inl ⟨by kernel_rfl, ?_⟩; ((intro w hSw; (try dsimp only at hSw); obtain ⟨s0, s1, s2, s3, s4, s5, s6⟩ := hSw; go_simp) <;> with_reducible rfl))); (try simp only [Act.put, List.setIfInBounds_toArray, List.set_cons_zero, List.set_cons_succ])); (refine wpAnyH_take (i := 6) (v := ?_) rfl (by kernel_rfl) (by kernel_rfl) (by kernel_rfl) (fun _ _ _ h => h) ?_ (by assumption) ?_; rotate_left; (next => (refine Or.inl ⟨by kernel_rfl, ?_⟩; ((intro w hSw; (try dsimp only at hSw); go_simp) <;> with_reducible rfl))); (try simp only [Act.put, List.setIfInBounds_toArray, List.set_cons_zero, List.set_cons_succ])); refine wpAnyH_done (by kernel_rfl) ?_ _)
        go_simp
        go_wp2
        go_ret
        exact ⟨ret_int (by rw [HE.out]; show _ = ((2 * k : Nat) : Int); rw [HQ.out.2]), bl_tr BW.out INV.out.drew⟩
    · have hkm : k = m := by omega
      have HE := Lib.hid (show getW key c.mo (List.finRange m) = none by have := HG.out; rwa [hkm, List.take_of_length_le (by simp)] at this)
      have h12 : ¬ ((2 * k : Nat) : Int) < c.mo.length := by omega
      have INV := Lib.hid hB
      clear k0 k1 hB hml
      go_wp2
      go_ret
      exact ⟨ret_int (by rw [HE.out]; rfl), bl_tr BW.out INV.out⟩

set_option maxRecDepth 100000 in
set_option maxHeartbeats 8000000 in
theorem rcopied_any (sv mv : Value) (c : CellD) (hf : c.fit) (w : World) (h1 : IsV w sv c.sl) (h2 : IsV w mv c.mo) :
    Calls Try.prog 9 #[cellV c.k c.sh c.fl c.ag sv mv] w fun e w' => ∃ A1 n1 A2 n2, e = .returned (cellV c.k c.sh c.fl c.ag (.slice A1 c.sl.length n1) (.slice A2 c.mo.length n2)) ∧
      OwnV w' w.heap.size (.slice A1 c.sl.length n1) c.sl ∧ OwnV w' w.heap.size (.slice A2 c.mo.length n2) c.mo ∧ (∀ b, Value.ownBlock (.slice A1 c.sl.length n1) = some b → Value.ownBlock (.slice A2 c.mo.length n2) ≠ some b) ∧ Below w.heap.size w w' := by
  obtain ⟨A0, n0, rfl, _, _⟩ := h1.form
  obtain ⟨A2, n2, rfl, _, _⟩ := h2.form
  have H1 := Lib.hid h1
  have H2 := Lib.hid h2
  have HF := Lib.hid hf
  clear h1 h2 hf
  go_enter Try.func9, Try.ntmps9
  go_upto_region 2 with fail
  refine wp_world (fun W => W.heap[w.heap.size]? = some (cellO c.k c.sh c.fl c.ag (.slice A0 c.sl.length n0) (.slice A2 c.mo.length n2)) ∧ W.heap[w.heap.size + 1]? = some (cellO 0 0 0 0 (.slice none 0 0) (.slice none 0 0)) ∧ W.heap[w.heap.size + 1 + 1]? = some (cellO c.k c.sh c.fl c.ag (.slice none 0 0) (.slice none 0 0)) ∧ Below w.heap.size w W) (heap3 w _ _ _) ?_
  rintro W ⟨j1, j2, j3, jb⟩
  have l0 : w.heap.size < W.heap.size := (Array.getElem?_eq_some_iff.1 j1).1
  have l1 : w.heap.size + 1 < W.heap.size := (Array.getElem?_eq_some_iff.1 j2).1
  have l2 : w.heap.size + 1 + 1 < W.heap.size := (Array.getElem?_eq_some_iff.1 j3).1
  have BW := Lib.hid jb
  have I1 := Lib.hid (H1.out.below jb)
  have I2 := Lib.hid (H2.out.below jb)
  have J := Lib.hid (And.intro j1 (And.intro j2 j3))
  obtain ⟨⟨a0, a1, a2, a3, a4, a5⟩, _⟩ := cells6 j1
  obtain ⟨⟨b0, b1, b2, b3, b4, b5⟩, _⟩ := cells6 j3
  clear j1 j2 j3 jb H1 H2
  go_upto_region 3 with (at_builtin; refine wpList_appW rfl W.heap.size _ _ rfl [] c.sl (yv := .slice none 0 0) (sv := .slice A0 c.sl.length n0) rfl rfl (Nat.le_refl _) (World.ownsRow_nil _ _ _ _) I1.out (by rw [List.nil_append]; exact HF.out.1) ?_; intro A5 n5 w3 o3 t3; have t3' : Below W.heap.size W w3 := t3.below (Nat.le_refl _) (fun k h => by simp [Value.ownBlock] at h); simp only [List.nil_append] at o3 ⊢; have O3 := Lib.hid (And.intro o3 t3'); obtain ⟨_, f0, f1, f2, f3, f4, f5⟩ := cells6 ((t3'.block _ l2).trans J.out.2.2); clear o3 t3 t3')
  refine wp_world (fun X => X.heap[w.heap.size]? = some (cellO c.k c.sh c.fl c.ag (.slice A0 c.sl.length n0) (.slice A2 c.mo.length n2)) ∧ X.heap[w.heap.size + 1]? = some (cellO 0 0 0 0 (.slice none 0 0) (.slice none 0 0)) ∧ X.heap[w.heap.size + 1 + 1]? = some (cellO c.k c.sh c.fl c.ag (.slice A5 c.sl.length n5) (.slice none 0 0)) ∧ OwnV X W.heap.size (.slice A5 c.sl.length n5) c.sl ∧ Touch (fun b => b = w.heap.size + 1 + 1) w3 X)
    ⟨(heap_setCell_other _ _ _ _ (show w.heap.size ≠ w.heap.size + 1 + 1 by omega)).trans ((O3.out.2.block _ l0).trans J.out.1), (heap_setCell_other _ _ _ _ (show w.heap.size + 1 ≠ w.heap.size + 1 + 1 by omega)).trans ((O3.out.2.block _ l1).trans J.out.2.1), heap_setCell_same _ _ _ _ _ _ ((O3.out.2.block _ l2).trans J.out.2.2), ownsRow_touch O3.out.1 ((Touch.refl (fun b => b = w.heap.size + 1 + 1) w3).set1 _ _) (fun g hg e => by have := (O3.out.1.lt _ hg).1; omega), (Touch.refl (fun b => b = w.heap.size + 1 + 1) w3).set1 _ _⟩ ?_
  rintro X ⟨x1, x2, x3, o5, TX⟩
  have XB : Below w.heap.size w X := (bl_tr BW.out O3.out.2).trans (TX.below (bl_tr BW.out O3.out.2).size (fun k e => by omega))
  have sX : W.heap.size ≤ X.heap.size := Nat.le_trans O3.out.2.size TX.size
  have XX := Lib.hid (And.intro x1 (And.intro x2 (And.intro x3 (And.intro o5 (And.intro XB sX)))))
  have IX2 := Lib.hid (show IsV X (.slice A2 c.mo.length n2) c.mo from setI (I2.out.below O3.out.2) ((O3.out.2.block _ l2).trans J.out.2.2) TX)
  clear a0 a1 a2 a3 a4 a5 b0 b1 b2 b3 b4 b5 f0 f1 f2 f3 f4 f5 TX XB
  obtain ⟨⟨a0, a1, a2, a3, a4, a5⟩, _⟩ := cells6 x1
  obtain ⟨⟨b0, b1, b2, b3, b4, b5⟩, _⟩ := cells6 x3
  clear x1 x2 x3 o5
  go_upto_region 4 with (at_builtin; refine wpList_appW rfl X.heap.size _ _ rfl [] c.mo (yv := .slice none 0 0) (sv := .slice A2 c.mo.length n2) rfl rfl (Nat.le_refl _) (World.ownsRow_nil _ _ _ _) IX2.out (by rw [List.nil_append]; exact HF.out.2) ?_; intro A6 n6 w5 o5 t5; have t5' : Below X.heap.size X w5 := t5.below (Nat.le_refl _) (fun k h => by simp [Value.ownBlock] at h); simp only [List.nil_append] at o5 ⊢; have O5 := Lib.hid (And.intro o5 t5'); obtain ⟨_, f0, f1, f2, f3, f4, f5⟩ := cells6 ((t5'.block _ (by omega)).trans XX.out.2.2.1); clear o5 t5 t5')
  refine wp_world (fun Y => Y.heap[w.heap.size + 1 + 1]? = some (cellO c.k c.sh c.fl c.ag (.slice A5 c.sl.length n5) (.slice A6 c.mo.length n6)) ∧ Touch (fun b => b = w.heap.size + 1 + 1) w5 Y)
    ⟨heap_setCell_same _ _ _ _ _ _ ((O5.out.2.block _ (by omega)).trans XX.out.2.2.1), (Touch.refl (fun b => b = w.heap.size + 1 + 1) w5).set1 _ _⟩ ?_
  rintro Y ⟨y1, TY⟩
  obtain ⟨x1, x2, x3, o5, XB, _⟩ := XX.out
  have q1 : OwnV Y W.heap.size (.slice A5 c.sl.length n5) c.sl := ownsRow_touch (ownsRow_below o5 O5.out.2) TY (fun g hg (e : g = _) => own_ne o5 hg x3 (by decide) e)
  have q2 : OwnV Y W.heap.size (.slice A6 c.mo.length n6) c.mo := ownsRow_low (ownsRow_touch O5.out.1 TY (fun g hg (e : g = _) => by have := (O5.out.1.lt _ hg).1; omega)) sX
  have q3 : ∀ b, Value.ownBlock (.slice A5 c.sl.length n5) = some b → Value.ownBlock (.slice A6 c.mo.length n6) ≠ some b := fun b e1 e2 => by have := (o5.lt _ e1).2; have := (O5.out.1.lt _ e2).1; omega
  have q4 : Below w.heap.size w Y := (bl_tr XB O5.out.2).trans (TY.below (bl_tr XB O5.out.2).size (fun k (e : k = _) => by omega))
  have q5 : Y.heap[w.heap.size + 1]? = some (cellO 0 0 0 0 (.slice none 0 0) (.slice none 0 0)) := (TY.block _ (by have := O5.out.2.size; omega) (fun (e : _ = _) => by omega)).trans ((O5.out.2.block _ (by omega)).trans x2)
  have QQ := Lib.hid (And.intro q1 (And.intro q2 (And.intro q3 (And.intro q4 q5))))
  have lY := TY.size
  have lY2 := O5.out.2.size
  clear a0 a1 a2 a3 a4 a5 b0 b1 b2 b3 b4 b5 f0 f1 f2 f3 f4 f5 x1 x2 x3 o5 XB q1 q2 q3 q4 q5 TY
  obtain ⟨⟨d0, d1, d2, d3, d4, d5⟩, _⟩ := cells6 y1
  obtain ⟨⟨x0, x1, x2, x3, x4, x5⟩, y0, y1, y2, y3, y4, y5⟩ := cells6 QQ.out.2.2.2.2
  go_wp2
  refine wp_post (fun Y2 => Y2.heap[w.heap.size + 1]? = some (cellO c.k c.sh c.fl c.ag (.slice A5 c.sl.length n5) (.slice A6 c.mo.length n6)) ∧ Touch (fun b => b = w.heap.size + 1) Y Y2 ∧ Below w.heap.size w Y2) (put6 QQ.out.2.2.2.1 (by omega) QQ.out.2.2.2.2) ?_
  rintro Y2 ⟨r1, rt, rb⟩
  obtain ⟨q1, q2, q3, q4, q5⟩ := QQ.out
  have g1 := ownsRow_low (ownsRow_touch q1 rt (fun g hg (e : g = _) => own_ne q1 hg q5 (by decide) e)) (b' := w.heap.size) (by omega)
  have g2 := ownsRow_low (ownsRow_touch q2 rt (fun g hg (e : g = _) => own_ne q2 hg q5 (by decide) e)) (b' := w.heap.size) (by omega)
  have FF := Lib.hid (And.intro g1 (And.intro g2 (And.intro q3 rb)))
  clear d0 d1 d2 d3 d4 d5 x0 x1 x2 x3 x4 x5 y0 y1 y2 y3 y4 y5 rt rb q1 q2 q3 q4 q5 g1 g2
  obtain ⟨⟨b0, b1, b2, b3, b4, b5⟩, _⟩ := cells6 r1
  refine bodyPost_ret (v := cellV c.k c.sh c.fl c.ag (.slice A5 c.sl.length n5) (.slice A6 c.mo.length n6)) (by clear r1; simp [results, Try.results9, go_sem, *]) rfl ⟨_, _, _, _, rfl, FF.out.1, FF.out.2.1, FF.out.2.2.1, FF.out.2.2.2⟩
end Go.Proofs.Ytdikdkllbhanfaa
