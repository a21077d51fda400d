/- Inline caches: one operation of both sides, walked: Note, Drop, Flush, none. -/
import Derived.Test.YtbgcjgnhblhohaaCaX
namespace Go.Proofs.Ytbgcjgnhblhohaa
set_option linter.all false
open Go.RowKit Go.Sort Go.Deep Go.Shelf

set_option maxRecDepth 100000 in
set_option maxHeartbeats 16000000 in
theorem does_note {C S : Nat} {c : CacheD} (sv : Value) (a : ActD) (w : World) (hk : a.kd = 1) (hf : FineC 1000 c) (hc : CacheIn w C S c) (hR : IsR w sv c.sites) :
    Calls Try.prog 18 #[.pointer (some ⟨C, 0, none⟩), refV c.most sv c.hits c.miss, a.agg] w (RetDoes C S c a w) := by
  obtain ⟨A, cap, rfl, _, _⟩ := hR.form
  have k0 : (a.kd == 0) = false := by rw [hk]; rfl
  have k1 : (a.kd == 1) = true := by rw [hk]; rfl
  obtain ⟨f1, f2, f3, f4, f5, f6, f7⟩ := hf
  have EA := Lib.hid (show actC c a = (noteC c a.st a.x).1 by rw [actC, if_neg (by omega), if_pos hk])
  obtain ⟨s1, s2, s3⟩ := note_same c a.st a.x
  have NK := Lib.hid (fun W h => note_any (C := C) (S := S) (c := c) a.st a.x W h f1)
  have RK := Lib.hid (fun W h => rnote_any c (.slice A c.sites.length cap) a.st a.x f3 (by omega) W h)
  unfold RetNote at NK
  unfold RetRNote at RK
  have SS := Lib.hid (And.intro s1 (And.intro s2 s3))
  have HC := Lib.hid hc
  have HR := Lib.hid hR
  have lC := hc.ltC
  have lS := hc.ltS
  generalize (noteC c a.st a.x).1 = c' at *
  generalize (noteC c a.st a.x).2 = b at *
  clear hk f1 f2 f3 f4 f5 f6 f7 s1 s2 s3 hc hR
  go_enter Try.func18, Try.ntmps18
  go_upto_region 1 with fail
  refine wp_world (doesO c A cap a w) (does_start c A cap a w) ?_
  rintro W ⟨j1, j2, j3, jb⟩
  have J := Lib.hid (And.intro j1 (And.intro j2 (And.intro j3 jb)))
  have l0 := (Array.getElem?_eq_some_iff.1 j1).1
  have l1 := (Array.getElem?_eq_some_iff.1 j2).1
  have l2 := (Array.getElem?_eq_some_iff.1 j3).1
  obtain ⟨b0, b1, b2, b3, b4, b5, b6, b7, b8, b9⟩ := cells10 j2
  obtain ⟨⟨a0, a1, a2, a3⟩, _⟩ := cells4 j1
  clear j1 j2 j3 jb
  go_upto_region 8 with (go_at_call 25; refine (RK.out _ (HR.out.below J.out.2.2.2)).mono ?_; rintro e2 W2 ⟨sv2, rfl, hr2, hb2⟩; obtain ⟨A2, n2, rfl, _, _⟩ := hr2.form; have G2 := Lib.hid (And.intro hr2 (show Below W.heap.size W W2 from hb2)); clear hr2 hb2)
  refine wp_world (fun X => X.heap[W2.heap.size]? = some (refO c.most (.slice A2 c'.sites.length n2) c.hits c.miss) ∧ Below W2.heap.size W2 X) ⟨heap_alloc_new _ _, bl_al (Below.refl _ _) _⟩ ?_
  rintro X ⟨x0, xb⟩
  have BX := Lib.hid (bl_tr G2.out.2 xb)
  have LX : W2.heap.size < X.heap.size := (Array.getElem?_eq_some_iff.1 x0).1
  have L2 : W.heap.size ≤ W2.heap.size := G2.out.2.size
  have X0 := Lib.hid x0
  have X1 := Lib.hid ((BX.out.block _ l1).trans J.out.2.1)
  have X2 := Lib.hid ((BX.out.block _ l2).trans J.out.2.2.1)
  have XC := Lib.hid ((HC.out.below J.out.2.2.2).below BX.out)
  have XR := Lib.hid (G2.out.1.below xb)
  have XB := Lib.hid (bl_tr J.out.2.2.2 BX.out)
  clear b0 b1 b2 b3 b4 b5 b6 b7 b8 b9 a0 a1 a2 a3 x0 xb G2
  have mX1 : w.heap.size + 1 < X.heap.size := Nat.lt_of_lt_of_le l1 BX.out.size
  have mX2 : w.heap.size + 1 + 1 < X.heap.size := Nat.lt_of_lt_of_le l2 BX.out.size
  (refine wp_region_held_drew (S := (fun Z : World => Touch (fun k => k = C ∨ k = S ∨ k = w.heap.size + 1 + 1) X Z)) Try.mixed (by (repeat (with_reducible first | exact Touch.refl _ _ | refine Touch.drew ?_))) (fun hS => ?_); (refine wpAnyH_take (i := 0) (v := ?_) rfl (by kernel_rfl) (by kernel_rfl) (by kernel_rfl) (fun _ _ _ h => h) ?_ (by assumption) ?_; rotate_left; (next => (refine Or.inl ⟨by kernel_rfl, ?_⟩; ((intro w hSw; (try dsimp only at hSw); (obtain ⟨⟨a0, a1, a2, a3⟩, _⟩ := cells4 ((hSw.block _ LX (by omega)).trans X0.out); obtain ⟨b0, b1, b2, b3, b4, b5, b6, b7, b8, b9⟩ := cells10 ((hSw.block _ mX1 (by omega)).trans X1.out)); go_simp) <;> with_reducible rfl))); (try simp only [Act.put, List.setIfInBounds_toArray, List.set_cons_zero, List.set_cons_succ])); (refine wpAnyH_take (i := 1) (v := ?_) rfl (by kernel_rfl) (by kernel_rfl) (by kernel_rfl) (fun _ _ _ h => h) ?_ (by assumption) ?_; rotate_left; (next => (refine Or.inl ⟨by kernel_rfl, ?_⟩; ((intro w hSw; (try dsimp only at hSw); go_simp) <;> with_reducible rfl))); (try simp only [Act.put, List.setIfInBounds_toArray, List.set_cons_zero, List.set_cons_succ])); (refine wpAnyH_take (i := 2) (v := ?_) rfl (by kernel_rfl) (by kernel_rfl) (by kernel_rfl) (fun _ _ _ h => h) ?_ (by assumption) ?_; rotate_left; (next => (refine Or.inl ⟨by kernel_rfl, ?_⟩; ((intro w hSw; (try dsimp only at hSw); go_simp) <;> with_reducible rfl))); (try simp only [Act.put, List.setIfInBounds_toArray, List.set_cons_zero, List.set_cons_succ])); (refine wpAnyH_take (i := 3) (v := ?_) rfl (by kernel_rfl) (by kernel_rfl) (by kernel_rfl) (fun _ _ _ h => h) ?_ (by assumption) ?_; rotate_left; (next => (refine Or.inl ⟨by kernel_rfl, ?_⟩; ((intro w hSw; (try dsimp only at hSw); (obtain ⟨⟨a0, a1, a2, a3⟩, _⟩ := cells4 ((hSw.block _ LX (by omega)).trans X0.out); obtain ⟨b0, b1, b2, b3, b4, b5, b6, b7, b8, b9⟩ := cells10 ((hSw.block _ mX1 (by omega)).trans X1.out)); go_simp) <;> with_reducible rfl))); (try simp only [Act.put, List.setIfInBounds_toArray, List.set_cons_zero, List.set_cons_succ])); (refine wpAnyH_take (i := 4) (v := ?_) rfl (by kernel_rfl) (by kernel_rfl) (by kernel_rfl) (fun _ _ _ h => h) ?_ (by assumption) ?_; rotate_left; (next => (refine Or.inl ⟨by kernel_rfl, ?_⟩; ((intro w hSw; (try dsimp only at hSw); go_simp) <;> with_reducible rfl))); (try simp only [Act.put, List.setIfInBounds_toArray, List.set_cons_zero, List.set_cons_succ])); (refine wpAnyH_take (i := 5) (v := ?_) rfl (by kernel_rfl) (by kernel_rfl) (by kernel_rfl) (fun _ _ _ h => h) ?_ (by assumption) ?_; rotate_left; (next => (refine Or.inl ⟨by kernel_rfl, ?_⟩; ((intro w hSw; (try dsimp only at hSw); (obtain ⟨⟨a0, a1, a2, a3⟩, _⟩ := cells4 ((hSw.block _ LX (by omega)).trans X0.out); obtain ⟨b0, b1, b2, b3, b4, b5, b6, b7, b8, b9⟩ := cells10 ((hSw.block _ mX1 (by omega)).trans X1.out)); go_simp) <;> with_reducible rfl))); (try simp only [Act.put, List.setIfInBounds_toArray, List.set_cons_zero, List.set_cons_succ])); (refine wpAnyH_take (i := 7) (v := ?_) rfl (by kernel_rfl) (by kernel_rfl) (by kernel_rfl) (fun _ _ _ h => h) ?_ (by assumption) ?_; rotate_left; (next => (refine Or.inl ⟨by kernel_rfl, ?_⟩; ((intro w hSw; (try dsimp only at hSw); go_simp) <;> with_reducible rfl))); (try simp only [Act.put, List.setIfInBounds_toArray, List.set_cons_zero, List.set_cons_succ])); refine wpAnyH_ready (rs := [6]) (by kernel_rfl) (by simp) ?_; refine AllReadyH.cons rfl (fun K hK => ?_) AllReadyH.nil; go_simp; ((go_at_call 8; refine (NK.out _ (XC.out.below (by (repeat (with_reducible first  | exact Below.refl _ _ | refine bl_rapp ?_ | (refine bl_set ?_ (by first | omega | (simp; done) | (simp; omega)) _) | refine bl_gr ?_ _ | refine bl_al ?_ _ | refine bl_drewN ?_ _ | refine Below.drew ?_))))).mono ?_; rintro e3 W3 ⟨rfl, h3, t3⟩; have T3 := Lib.hid (show Tch C S X W3 from Touch.trans (by (repeat (with_reducible first | exact Touch.refl _ _ | refine Touch.drew ?_))) t3 (fun _ _ h => h)); have C3 := Lib.hid h3; have U3 := Lib.hid (show Touch (fun k => k = C ∨ k = S ∨ k = w.heap.size + 1 + 1) X W3 from T3.out.mono (fun i _ h => h.elim .inl (fun h => .inr (.inl h)))); have Y2 := Lib.hid ((T3.out.block _ mX2 (by omega)).trans X2.out); clear h3 t3; obtain ⟨_, g0, g1, g2, g3⟩ := cells4 Y2.out)); refine hK.out _ _ (by exact U3.out) (fun hS => ?_); clear hK K; (try simp only [Act.put, List.setIfInBounds_toArray, List.set_cons_zero, List.set_cons_succ]); (refine wpAnyH_take (i := 8) (v := ?_) rfl (by kernel_rfl) (by kernel_rfl) (by kernel_rfl) (fun _ _ _ h => h) ?_ (by assumption) ?_; rotate_left; (next => (refine Or.inl ⟨by kernel_rfl, ?_⟩; ((intro w hSw; (try dsimp only at hSw); go_simp) <;> with_reducible rfl))); (try simp only [Act.put, List.setIfInBounds_toArray, List.set_cons_zero, List.set_cons_succ])); refine wpAnyH_ready (rs := [9]) (by kernel_rfl) (by simp) ?_; refine AllReadyH.cons rfl (fun K hK => ?_) AllReadyH.nil; go_simp; refine hK.out _ _ (by (repeat (with_reducible first | exact U3.out | refine Touch.drew ?_ | refine Touch.set ?_ (.inl (.inr (.inr rfl))) _))) (fun hS => ?_); clear hK K; (try simp only [Act.put, List.setIfInBounds_toArray, List.set_cons_zero, List.set_cons_succ]); (refine wpAnyH_take (i := 10) (v := ?_) rfl (by kernel_rfl) (by kernel_rfl) (by kernel_rfl) (fun _ _ _ h => h) ?_ (by assumption) ?_; rotate_left; (next => (refine Or.inl ⟨by kernel_rfl, ?_⟩; ((intro w hSw; (try dsimp only at hSw); go_simp) <;> with_reducible rfl))); (try simp only [Act.put, List.setIfInBounds_toArray, List.set_cons_zero, List.set_cons_succ])); refine wpAnyH_done (by kernel_rfl) ?_ _)
  go_simp
  clear hS
  go_wp2
  have DE := Lib.hid (does_end (w := w) (m := c.most) (x := c.hits) (y := c.miss) Y2.out (by omega) lC lS ((Tch.of_below (C := C) (S := S) XB.out).trans T3.out (fun _ _ h => h)) C3.out (XR.out.tch XC.out T3.out))
  refine wp_post (DoesE C S (w.heap.size + 1 + 1) c.most (.slice A2 c'.sites.length n2) c.hits c.miss c'.sites c' w) (by first | exact DE.out.drew | exact DE.out) ?_
  rintro V ⟨z, vc, vr, vt⟩
  have ZZ := Lib.hid (And.intro vc (And.intro vr vt))
  obtain ⟨⟨a0, a1, a2, a3⟩, _⟩ := cells4 z
  clear z vc vr vt g0 g1 g2 g3
  refine bodyPost_ret (v := .tuple #[refV c.most (.slice A2 c'.sites.length n2) c.hits c.miss, .bool true]) (by simp [results, Try.results18, go_sem, *]) rfl ⟨_, by rw [EA.out, SS.out.1, SS.out.2.1, SS.out.2.2], by rw [EA.out]; exact ZZ.out.1, by rw [EA.out]; exact ZZ.out.2.1, ZZ.out.2.2⟩

set_option maxRecDepth 100000 in
set_option maxHeartbeats 16000000 in
theorem does_drop {C S : Nat} {c : CacheD} (sv : Value) (a : ActD) (w : World) (hk : a.kd = 2) (hf : FineC 1000 c) (hc : CacheIn w C S c) (hR : IsR w sv c.sites) :
    Calls Try.prog 18 #[.pointer (some ⟨C, 0, none⟩), refV c.most sv c.hits c.miss, a.agg] w (RetDoes C S c a w) := by
  obtain ⟨A, cap, rfl, _, _⟩ := hR.form
  have k0 : (a.kd == 0) = false := by rw [hk]; rfl
  have k1 : (a.kd == 1) = false := by rw [hk]; rfl
  have k2 : (a.kd == 2) = true := by rw [hk]; rfl
  obtain ⟨f1, f2, f3, f4, f5, f6, f7⟩ := hf
  have EA := Lib.hid (show actC c a = (dropC c a.st).1 by rw [actC, if_neg (by omega), if_neg (by omega), if_pos hk])
  have NK := Lib.hid (fun W h => drop_any (C := C) (S := S) (c := c) a.st W h)
  have RK := Lib.hid (fun W h => rdrop_any c (.slice A c.sites.length cap) a.st (by omega) W h)
  unfold RetDrop at NK
  unfold RetRef at RK
  have HC := Lib.hid hc
  have HR := Lib.hid hR
  have lC := hc.ltC
  have lS := hc.ltS
  generalize (dropC c a.st).1 = c' at *
  generalize (dropC c a.st).2 = b at *
  clear hk f1 f2 f3 f4 f5 f6 f7 hc hR
  go_enter Try.func18, Try.ntmps18
  go_upto_region 1 with fail
  refine wp_world (doesO c A cap a w) (does_start c A cap a w) ?_
  rintro W ⟨j1, j2, j3, jb⟩
  have J := Lib.hid (And.intro j1 (And.intro j2 (And.intro j3 jb)))
  have l0 := (Array.getElem?_eq_some_iff.1 j1).1
  have l1 := (Array.getElem?_eq_some_iff.1 j2).1
  have l2 := (Array.getElem?_eq_some_iff.1 j3).1
  obtain ⟨b0, b1, b2, b3, b4, b5, b6, b7, b8, b9⟩ := cells10 j2
  obtain ⟨⟨a0, a1, a2, a3⟩, _⟩ := cells4 j1
  clear j1 j2 j3 jb
  go_upto_region 11 with (go_at_call 26; refine (RK.out _ (HR.out.below J.out.2.2.2)).mono ?_; rintro e2 W2 ⟨sv2, rfl, hr2, hb2⟩; obtain ⟨A2, n2, rfl, _, _⟩ := hr2.form; have G2 := Lib.hid (And.intro hr2 (show Below W.heap.size W W2 from hb2)); clear hr2 hb2)
  refine wp_world (fun X => X.heap[W2.heap.size]? = some (refO c'.most (.slice A2 c'.sites.length n2) c'.hits c'.miss) ∧ Below W2.heap.size W2 X) ⟨heap_alloc_new _ _, bl_al (Below.refl _ _) _⟩ ?_
  rintro X ⟨x0, xb⟩
  have BX := Lib.hid (bl_tr G2.out.2 xb)
  have LX : W2.heap.size < X.heap.size := (Array.getElem?_eq_some_iff.1 x0).1
  have L2 : W.heap.size ≤ W2.heap.size := G2.out.2.size
  have X0 := Lib.hid x0
  have X1 := Lib.hid ((BX.out.block _ l1).trans J.out.2.1)
  have X2 := Lib.hid ((BX.out.block _ l2).trans J.out.2.2.1)
  have XC := Lib.hid ((HC.out.below J.out.2.2.2).below BX.out)
  have XR := Lib.hid (G2.out.1.below xb)
  have XB := Lib.hid (bl_tr J.out.2.2.2 BX.out)
  clear b0 b1 b2 b3 b4 b5 b6 b7 b8 b9 a0 a1 a2 a3 x0 xb G2
  have mX1 : w.heap.size + 1 < X.heap.size := Nat.lt_of_lt_of_le l1 BX.out.size
  have mX2 : w.heap.size + 1 + 1 < X.heap.size := Nat.lt_of_lt_of_le l2 BX.out.size
  (refine wp_region_held_drew (S := (fun Z : World => Touch (fun k => k = C ∨ k = S ∨ k = w.heap.size + 1 + 1) X Z)) Try.mixed (by (repeat (with_reducible first | exact Touch.refl _ _ | refine Touch.drew ?_))) (fun hS => ?_); (refine wpAnyH_take (i := 0) (v := ?_) rfl (by kernel_rfl) (by kernel_rfl) (by kernel_rfl) (fun _ _ _ h => h) ?_ (by assumption) ?_; rotate_left; (next => (refine Or.inl ⟨by kernel_rfl, ?_⟩; ((intro w hSw; (try dsimp only at hSw); (obtain ⟨⟨a0, a1, a2, a3⟩, _⟩ := cells4 ((hSw.block _ LX (by omega)).trans X0.out); obtain ⟨b0, b1, b2, b3, b4, b5, b6, b7, b8, b9⟩ := cells10 ((hSw.block _ mX1 (by omega)).trans X1.out)); go_simp) <;> with_reducible rfl))); (try simp only [Act.put, List.setIfInBounds_toArray, List.set_cons_zero, List.set_cons_succ])); (refine wpAnyH_take (i := 1) (v := ?_) rfl (by kernel_rfl) (by kernel_rfl) (by kernel_rfl) (fun _ _ _ h => h) ?_ (by assumption) ?_; rotate_left; (next => (refine Or.inl ⟨by kernel_rfl, ?_⟩; ((intro w hSw; (try dsimp only at hSw); go_simp) <;> with_reducible rfl))); (try simp only [Act.put, List.setIfInBounds_toArray, List.set_cons_zero, List.set_cons_succ])); (refine wpAnyH_take (i := 2) (v := ?_) rfl (by kernel_rfl) (by kernel_rfl) (by kernel_rfl) (fun _ _ _ h => h) ?_ (by assumption) ?_; rotate_left; (next => (refine Or.inl ⟨by kernel_rfl, ?_⟩; ((intro w hSw; (try dsimp only at hSw); go_simp) <;> with_reducible rfl))); (try simp only [Act.put, List.setIfInBounds_toArray, List.set_cons_zero, List.set_cons_succ])); (refine wpAnyH_take (i := 3) (v := ?_) rfl (by kernel_rfl) (by kernel_rfl) (by kernel_rfl) (fun _ _ _ h => h) ?_ (by assumption) ?_; rotate_left; (next => (refine Or.inl ⟨by kernel_rfl, ?_⟩; ((intro w hSw; (try dsimp only at hSw); (obtain ⟨⟨a0, a1, a2, a3⟩, _⟩ := cells4 ((hSw.block _ LX (by omega)).trans X0.out); obtain ⟨b0, b1, b2, b3, b4, b5, b6, b7, b8, b9⟩ := cells10 ((hSw.block _ mX1 (by omega)).trans X1.out)); go_simp) <;> with_reducible rfl))); (try simp only [Act.put, List.setIfInBounds_toArray, List.set_cons_zero, List.set_cons_succ])); (refine wpAnyH_take (i := 5) (v := ?_) rfl (by kernel_rfl) (by kernel_rfl) (by kernel_rfl) (fun _ _ _ h => h) ?_ (by assumption) ?_; rotate_left; (next => (refine Or.inl ⟨by kernel_rfl, ?_⟩; ((intro w hSw; (try dsimp only at hSw); go_simp) <;> with_reducible rfl))); (try simp only [Act.put, List.setIfInBounds_toArray, List.set_cons_zero, List.set_cons_succ])); refine wpAnyH_ready (rs := [4]) (by kernel_rfl) (by simp) ?_; refine AllReadyH.cons rfl (fun K hK => ?_) AllReadyH.nil; go_simp; ((go_at_call 11; refine (NK.out _ (XC.out.below (by (repeat (with_reducible first  | exact Below.refl _ _ | refine bl_rapp ?_ | (refine bl_set ?_ (by first | omega | (simp; done) | (simp; omega)) _) | refine bl_gr ?_ _ | refine bl_al ?_ _ | refine bl_drewN ?_ _ | refine Below.drew ?_))))).mono ?_; rintro e3 W3 ⟨rfl, h3, t3⟩; have T3 := Lib.hid (show Tch C S X W3 from Touch.trans (by (repeat (with_reducible first | exact Touch.refl _ _ | refine Touch.drew ?_))) t3 (fun _ _ h => h)); have C3 := Lib.hid h3; have U3 := Lib.hid (show Touch (fun k => k = C ∨ k = S ∨ k = w.heap.size + 1 + 1) X W3 from T3.out.mono (fun i _ h => h.elim .inl (fun h => .inr (.inl h)))); have Y2 := Lib.hid ((T3.out.block _ mX2 (by omega)).trans X2.out); clear h3 t3; obtain ⟨_, g0, g1, g2, g3⟩ := cells4 Y2.out)); refine hK.out _ _ (by exact U3.out) (fun hS => ?_); clear hK K; (try simp only [Act.put, List.setIfInBounds_toArray, List.set_cons_zero, List.set_cons_succ]); (refine wpAnyH_take (i := 6) (v := ?_) rfl (by kernel_rfl) (by kernel_rfl) (by kernel_rfl) (fun _ _ _ h => h) ?_ (by assumption) ?_; rotate_left; (next => (refine Or.inl ⟨by kernel_rfl, ?_⟩; ((intro w hSw; (try dsimp only at hSw); go_simp) <;> with_reducible rfl))); (try simp only [Act.put, List.setIfInBounds_toArray, List.set_cons_zero, List.set_cons_succ])); refine wpAnyH_ready (rs := [7]) (by kernel_rfl) (by simp) ?_; refine AllReadyH.cons rfl (fun K hK => ?_) AllReadyH.nil; go_simp; refine hK.out _ _ (by (repeat (with_reducible first | exact U3.out | refine Touch.drew ?_ | refine Touch.set ?_ (.inl (.inr (.inr rfl))) _))) (fun hS => ?_); clear hK K; (try simp only [Act.put, List.setIfInBounds_toArray, List.set_cons_zero, List.set_cons_succ]); (refine wpAnyH_take (i := 8) (v := ?_) rfl (by kernel_rfl) (by kernel_rfl) (by kernel_rfl) (fun _ _ _ h => h) ?_ (by assumption) ?_; rotate_left; (next => (refine Or.inl ⟨by kernel_rfl, ?_⟩; ((intro w hSw; (try dsimp only at hSw); go_simp) <;> with_reducible rfl))); (try simp only [Act.put, List.setIfInBounds_toArray, List.set_cons_zero, List.set_cons_succ])); refine wpAnyH_done (by kernel_rfl) ?_ _)
  go_simp
  clear hS
  go_wp2
  have DE := Lib.hid (does_end (w := w) (m := c'.most) (x := c'.hits) (y := c'.miss) Y2.out (by omega) lC lS ((Tch.of_below (C := C) (S := S) XB.out).trans T3.out (fun _ _ h => h)) C3.out (XR.out.tch XC.out T3.out))
  refine wp_post (DoesE C S (w.heap.size + 1 + 1) c'.most (.slice A2 c'.sites.length n2) c'.hits c'.miss c'.sites c' w) (by first | exact DE.out.drew | exact DE.out) ?_
  rintro V ⟨z, vc, vr, vt⟩
  have ZZ := Lib.hid (And.intro vc (And.intro vr vt))
  obtain ⟨⟨a0, a1, a2, a3⟩, _⟩ := cells4 z
  clear z vc vr vt g0 g1 g2 g3
  refine bodyPost_ret (v := .tuple #[refV c'.most (.slice A2 c'.sites.length n2) c'.hits c'.miss, .bool true]) (by simp [results, Try.results18, go_sem, *]) rfl ⟨_, by rw [EA.out], by rw [EA.out]; exact ZZ.out.1, by rw [EA.out]; exact ZZ.out.2.1, ZZ.out.2.2⟩

set_option maxRecDepth 100000 in
set_option maxHeartbeats 16000000 in
theorem does_flush {C S : Nat} {c : CacheD} (sv : Value) (a : ActD) (w : World) (hk : a.kd = 3) (hf : FineC 1000 c) (hc : CacheIn w C S c) (hR : IsR w sv c.sites) :
    Calls Try.prog 18 #[.pointer (some ⟨C, 0, none⟩), refV c.most sv c.hits c.miss, a.agg] w (RetDoes C S c a w) := by
  obtain ⟨A, cap, rfl, _, _⟩ := hR.form
  have k0 : (a.kd == 0) = false := by rw [hk]; rfl
  have k1 : (a.kd == 1) = false := by rw [hk]; rfl
  have k2 : (a.kd == 2) = false := by rw [hk]; rfl
  have k3 : (a.kd == 3) = true := by rw [hk]; rfl
  obtain ⟨f1, f2, f3, f4, f5, f6, f7⟩ := hf
  have EA := Lib.hid (show actC c a = flushC c by rw [actC, if_neg (by omega), if_neg (by omega), if_neg (by omega), if_pos hk])
  have SS := Lib.hid (show (flushC c).most = c.most ∧ (flushC c).hits = c.hits ∧ (flushC c).miss = c.miss from ⟨rfl, rfl, rfl⟩)
  have NK := Lib.hid (fun W h => flush_any (C := C) (S := S) (c := c) W h)
  have RK := Lib.hid (fun W h => rflush_any c (.slice A c.sites.length cap) (by omega) W h)
  unfold RetFlush at NK
  have HC := Lib.hid hc
  have HR := Lib.hid hR
  have lC := hc.ltC
  have lS := hc.ltS
  generalize flushC c = c' at *
  clear hk f1 f2 f3 f4 f5 f6 f7 hc hR
  go_enter Try.func18, Try.ntmps18
  go_upto_region 1 with fail
  refine wp_world (doesO c A cap a w) (does_start c A cap a w) ?_
  rintro W ⟨j1, j2, j3, jb⟩
  have J := Lib.hid (And.intro j1 (And.intro j2 (And.intro j3 jb)))
  have l0 := (Array.getElem?_eq_some_iff.1 j1).1
  have l1 := (Array.getElem?_eq_some_iff.1 j2).1
  have l2 := (Array.getElem?_eq_some_iff.1 j3).1
  obtain ⟨b0, b1, b2, b3, b4, b5, b6, b7, b8, b9⟩ := cells10 j2
  clear j1 j2 j3 jb
  go_upto_region 14 with (go_at_call 20; refine (NK.out _ (HC.out.below J.out.2.2.2)).mono ?_; rintro e1 W1 ⟨rfl, hc1, ht1⟩; have G1 := Lib.hid (And.intro hc1 (show Tch C S W W1 from ht1)); clear hc1 ht1)
  have L1 : W.heap.size ≤ W1.heap.size := G1.out.2.size
  have X0 := Lib.hid (((G1.out.2.block _ l0 (by omega)).trans J.out.1))
  have X2 := Lib.hid (((G1.out.2.block _ l2 (by omega)).trans J.out.2.2.1))
  have XR := Lib.hid ((HR.out.below J.out.2.2.2).tch (HC.out.below J.out.2.2.2) G1.out.2)
  clear b0 b1 b2 b3 b4 b5 b6 b7 b8 b9
  obtain ⟨⟨a0, a1, a2, a3⟩, _⟩ := cells4 X0.out
  go_wp2_with (go_at_call 27; refine (RK.out _ XR.out).mono ?_; rintro e2 W2 ⟨sv2, rfl, hr2, hb2⟩; obtain ⟨A2, n2, rfl, _, _⟩ := hr2.form; have G2 := Lib.hid (And.intro hr2 (show Below W1.heap.size W1 W2 from hb2)); have Y2 := Lib.hid ((G2.out.2.block _ (by omega)).trans X2.out); clear hr2 hb2; obtain ⟨⟨c0, c1, c2, c3⟩, g0, g1, g2, g3⟩ := cells4 Y2.out)
  have DE := Lib.hid (does_end (w := w) (m := c.most) (x := c.hits) (y := c.miss) Y2.out (by omega) lC lS ((Tch.of_below (C := C) (S := S) J.out.2.2.2).trans (G1.out.2.trans (Tch.of_below (C := C) (S := S) G2.out.2) (fun _ _ h => h)) (fun _ _ h => h)) (G1.out.1.below G2.out.2) G2.out.1)
  refine wp_post (DoesE C S (w.heap.size + 1 + 1) c.most (.slice A2 c'.sites.length n2) c.hits c.miss c'.sites c' w) (by first | exact DE.out.drew | exact DE.out) ?_
  rintro V ⟨z, vc, vr, vt⟩
  have ZZ := Lib.hid (And.intro vc (And.intro vr vt))
  clear a0 a1 a2 a3 c0 c1 c2 c3 g0 g1 g2 g3
  obtain ⟨⟨a0, a1, a2, a3⟩, _⟩ := cells4 z
  clear z vc vr vt
  refine bodyPost_ret (v := .tuple #[refV c.most (.slice A2 c'.sites.length n2) c.hits c.miss, .bool true]) (by simp [results, Try.results18, go_sem, *]) rfl ⟨_, by rw [EA.out, SS.out.1, SS.out.2.1, SS.out.2.2], by rw [EA.out]; exact ZZ.out.1, by rw [EA.out]; exact ZZ.out.2.1, ZZ.out.2.2⟩

set_option maxRecDepth 100000 in
set_option maxHeartbeats 16000000 in
theorem does_none {C S : Nat} {c : CacheD} (sv : Value) (a : ActD) (w : World) (hk0 : a.kd ≠ 0) (hk1 : a.kd ≠ 1) (hk2 : a.kd ≠ 2) (hk3 : a.kd ≠ 3) (hc : CacheIn w C S c) (hR : IsR w sv c.sites) :
    Calls Try.prog 18 #[.pointer (some ⟨C, 0, none⟩), refV c.most sv c.hits c.miss, a.agg] w (RetDoes C S c a w) := by
  obtain ⟨A, cap, rfl, _, _⟩ := hR.form
  have EA := Lib.hid (show actC c a = c by rw [actC, if_neg hk0, if_neg hk1, if_neg hk2, if_neg hk3])
  have k0 : (a.kd == 0) = false := beq_eq_false_iff_ne.2 hk0
  have k1 : (a.kd == 1) = false := beq_eq_false_iff_ne.2 hk1
  have k2 : (a.kd == 2) = false := beq_eq_false_iff_ne.2 hk2
  have k3 : (a.kd == 3) = false := beq_eq_false_iff_ne.2 hk3
  have HC := Lib.hid hc
  have HR := Lib.hid hR
  have lC := hc.ltC
  have lS := hc.ltS
  clear hk0 hk1 hk2 hk3 hc hR
  go_enter Try.func18, Try.ntmps18
  go_upto_region 1 with fail
  refine wp_world (doesO c A cap a w) (does_start c A cap a w) ?_
  rintro W ⟨j1, j2, j3, jb⟩
  have J := Lib.hid (And.intro j1 (And.intro j2 (And.intro j3 jb)))
  have l0 := (Array.getElem?_eq_some_iff.1 j1).1
  have l1 := (Array.getElem?_eq_some_iff.1 j2).1
  have l2 := (Array.getElem?_eq_some_iff.1 j3).1
  obtain ⟨b0, b1, b2, b3, b4, b5, b6, b7, b8, b9⟩ := cells10 j2
  obtain ⟨⟨a0, a1, a2, a3⟩, _⟩ := cells4 j1
  obtain ⟨_, g0, g1, g2, g3⟩ := cells4 j3
  clear j1 j2 j3 jb
  go_wp2
  have DE := Lib.hid (does_end (w := w) (m := c.most) (x := c.hits) (y := c.miss) J.out.2.2.1 (by omega) lC lS (Tch.of_below (C := C) (S := S) J.out.2.2.2) (HC.out.below J.out.2.2.2) (HR.out.below J.out.2.2.2))
  refine wp_post (DoesE C S (w.heap.size + 1 + 1) c.most (.slice A c.sites.length cap) c.hits c.miss c.sites c w) (by first | exact DE.out.drew | exact DE.out) ?_
  rintro V ⟨z, vc, vr, vt⟩
  have ZZ := Lib.hid (And.intro vc (And.intro vr vt))
  clear a0 a1 a2 a3 g0 g1 g2 g3
  obtain ⟨⟨a0, a1, a2, a3⟩, _⟩ := cells4 z
  clear z vc vr vt b0 b1 b2 b3 b4 b5 b6 b7 b8 b9
  refine bodyPost_ret (v := .tuple #[refV c.most (.slice A c.sites.length cap) c.hits c.miss, .bool true]) (by simp [results, Try.results18, go_sem, *]) rfl ⟨_, by rw [EA.out], by rw [EA.out]; exact ZZ.out.1, by rw [EA.out]; exact ZZ.out.2.1, ZZ.out.2.2⟩
theorem does_any {C S : Nat} {c : CacheD} (sv : Value) (a : ActD) (w : World) (hf : FineC 1000 c) (hc : CacheIn w C S c) (hR : IsR w sv c.sites) :
    Calls Try.prog 18 #[.pointer (some ⟨C, 0, none⟩), refV c.most sv c.hits c.miss, a.agg] w (RetDoes C S c a w) := by
  by_cases h0 : a.kd = 0
  · exact does_look sv a w h0 hf hc hR
  by_cases h1 : a.kd = 1
  · exact does_note sv a w h1 hf hc hR
  by_cases h2 : a.kd = 2
  · exact does_drop sv a w h2 hf hc hR
  by_cases h3 : a.kd = 3
  · exact does_flush sv a w h3 hf hc hR
  exact does_none sv a w h0 h1 h2 h3 hc hR
end Go.Proofs.Ytbgcjgnhblhohaa
