/- Inline caches: one operation of both sides, walked. -/
import Derived.Test.YtbgcjgnhblhohaaCaW
namespace Go.Proofs.Ytbgcjgnhblhohaa
set_option linter.all false
open Go.RowKit Go.Sort Go.Deep Go.Shelf

abbrev doesO (c : CacheD) (A : Option Addr) (cap : Nat) (a : ActD) (w W : World) : Prop := W.heap[w.heap.size]? = some (refO c.most (.slice A c.sites.length cap) c.hits c.miss) ∧ W.heap[w.heap.size + 1]? = some (actO a) ∧ W.heap[w.heap.size + 1 + 1]? = some (refO 0 (.slice none 0 0) 0 0) ∧ Below w.heap.size w W
theorem does_start (c : CacheD) (A : Option Addr) (cap : Nat) (a : ActD) (w : World) : doesO c A cap a w (((w.alloc (refO c.most (.slice A c.sites.length cap) c.hits c.miss)).alloc (actO a)).alloc (refO 0 (.slice none 0 0) 0 0)) := by
  obtain ⟨_, h2, h3⟩ := heapN w [refO c.most (.slice A c.sites.length cap) c.hits c.miss, actO a, refO 0 (.slice none 0 0) 0 0]
  exact ⟨h3 0 _ rfl, h3 1 _ rfl, h3 2 _ rfl, h2⟩

set_option maxRecDepth 100000 in
set_option maxHeartbeats 16000000 in
theorem does_look {C S : Nat} {c : CacheD} (sv : Value) (a : ActD) (w : World) (hk : a.kd = 0) (hf : FineC 1000 c) (hc : CacheIn w C S c) (hR : IsR w sv c.sites) :
    Calls Try.prog 18 #[.pointer (some ⟨C, 0, none⟩), refV c.most sv c.hits c.miss, a.agg] w (RetDoes C S c a w) := by
  obtain ⟨A, cap, rfl, _, _⟩ := hR.form
  have k0 : (a.kd == 0) = true := by rw [hk]; rfl
  obtain ⟨f1, f2, f3, f4, f5, f6, f7⟩ := hf
  have EA := Lib.hid (show actC c a = lookC c a.st a.x.k a.x.sh a.x.ep by rw [actC, if_pos hk])
  obtain ⟨s1, s2, s3, s4, s5, s6⟩ := look_same c a.st a.x.k a.x.sh a.x.ep
  have LK := Lib.hid (fun W h => look_any (C := C) (S := S) (c := c) a.st a.x.k a.x.sh a.x.ep W h f4 (by omega) f6 (by omega))
  have RK := Lib.hid (fun W h => rlook_any c (.slice A c.sites.length cap) a.st a.x.k a.x.sh a.x.ep f4 (by omega) f6 (by omega) f3 W h)
  unfold RetLook at LK
  unfold RetRLook at RK
  have SS := Lib.hid (And.intro s1 s2)
  have HC := Lib.hid hc
  have HR := Lib.hid hR
  have lC := hc.ltC
  have lS := hc.ltS
  generalize (lookS c a.st a.x.k a.x.sh a.x.ep).getD .zero = e at *
  generalize (lookS c a.st a.x.k a.x.sh a.x.ep).isSome = b at *
  generalize lookC c a.st a.x.k a.x.sh a.x.ep = c' at *
  clear hk f1 f2 f3 f4 f5 f6 f7 s1 s2 s3 s4 s5 s6 hc hR
  go_enter Try.func18, Try.ntmps18
  go_upto_region 1 with fail
  refine wp_world (doesO c A cap a w) (does_start c A cap a w) ?_
  rintro W ⟨j1, j2, j3, jb⟩
  have J := Lib.hid (And.intro j1 (And.intro j2 (And.intro j3 jb)))
  have l0 := (Array.getElem?_eq_some_iff.1 j1).1
  have l1 := (Array.getElem?_eq_some_iff.1 j2).1
  have l2 := (Array.getElem?_eq_some_iff.1 j3).1
  obtain ⟨b0, b1, b2, b3, b4, b5, b6, b7, b8, b9⟩ := cells10 j2
  clear j1 j2 j3 jb
  go_upto_region 4 with (go_at_call 9; refine (LK.out _ (HC.out.below J.out.2.2.2)).mono ?_; rintro e1 W1 ⟨rfl, hc1, ht1⟩; have G1 := Lib.hid (And.intro hc1 (show Tch C S W W1 from ht1)); clear hc1 ht1)
  refine wp_world (fun X => X.heap[W1.heap.size]? = some (entO e 33) ∧ Below W1.heap.size W1 X) ⟨heap_alloc_new _ _, bl_al (Below.refl _ _) _⟩ ?_
  rintro X ⟨x1, xb⟩
  have L1 : W.heap.size ≤ W1.heap.size := G1.out.2.size
  have LX : W1.heap.size < X.heap.size := (Array.getElem?_eq_some_iff.1 x1).1
  have T1 := Lib.hid (show Tch C S W X from G1.out.2.trans (Tch.of_below (C := C) (S := S) xb) (fun _ _ h => h))
  have X0 := Lib.hid (((T1.out.block _ l0 (by omega)).trans J.out.1))
  have X1 := Lib.hid (((T1.out.block _ l1 (by omega)).trans J.out.2.1))
  have X2 := Lib.hid (((T1.out.block _ l2 (by omega)).trans J.out.2.2.1))
  have XC := Lib.hid (G1.out.1.below xb)
  have XE := Lib.hid x1
  have XR := Lib.hid ((HR.out.below J.out.2.2.2).tch (HC.out.below J.out.2.2.2) T1.out)
  clear b0 b1 b2 b3 b4 b5 b6 b7 b8 b9 x1 xb G1
  obtain ⟨b0, b1, b2, b3, b4, b5, b6, b7, b8, b9⟩ := cells10 X1.out
  obtain ⟨⟨a0, a1, a2, a3⟩, _⟩ := cells4 X0.out
  go_upto_region 5 with (go_at_call 24; refine (RK.out _ XR.out).mono ?_; rintro e2 W2 ⟨sv2, rfl, hr2, hb2⟩; obtain ⟨A2, n2, rfl, _, _⟩ := hr2.form; have G2 := Lib.hid (And.intro hr2 (show Below X.heap.size X W2 from hb2)); clear hr2 hb2)
  refine wp_world (fun Y => Y.heap[W2.heap.size]? = some (refO c.most (.slice A2 c.sites.length n2) c'.hits c'.miss) ∧ Y.heap[W2.heap.size + 1]? = some (entO e 25) ∧ Below W2.heap.size W2 Y) (by
    obtain ⟨_, h2, h3⟩ := heapN W2 [refO c.most (.slice A2 c.sites.length n2) c'.hits c'.miss, entO e 25]
    exact ⟨h3 0 _ rfl, h3 1 _ rfl, h2⟩) ?_
  rintro Y ⟨y0, y1, yb⟩
  have L2 : X.heap.size ≤ W2.heap.size := G2.out.2.size
  have BY := Lib.hid (bl_tr G2.out.2 yb)
  have Y2 := Lib.hid ((BY.out.block _ (by omega)).trans X2.out)
  have YE := Lib.hid ((BY.out.block _ LX).trans XE.out)
  have YC := Lib.hid (XC.out.below BY.out)
  have YR := Lib.hid (G2.out.1.below yb)
  have YT := Lib.hid (show Tch C S w Y from (Tch.of_below (C := C) (S := S) J.out.2.2.2).trans (T1.out.trans (Tch.of_below (C := C) (S := S) BY.out) (fun _ _ h => h)) (fun _ _ h => h))
  have m0 := (Array.getElem?_eq_some_iff.1 y0).1
  have m1 := (Array.getElem?_eq_some_iff.1 y1).1
  have mX : W1.heap.size < Y.heap.size := Nat.lt_of_lt_of_le LX BY.out.size
  have m2 := (Array.getElem?_eq_some_iff.1 Y2.out).1
  have Y0 := Lib.hid y0
  have Y1 := Lib.hid y1
  have ex := Ent.eq_cols e
  clear b0 b1 b2 b3 b4 b5 b6 b7 b8 b9 a0 a1 a2 a3 y0 y1 yb G2
  obtain ⟨_, g0, g1, g2, g3⟩ := cells4 Y2.out
  (refine wp_region_held_drew (S := (fun Z : World => Touch (fun k => k = w.heap.size + 1 + 1) Y Z)) Try.mixed (by (repeat (with_reducible first | exact Touch.refl _ _ | refine Touch.drew ?_ | refine Touch.set1 ?_ _ _))) (fun hS => ?_); (refine wpAnyH_take (i := 0) (v := ?_) rfl (by kernel_rfl) (by kernel_rfl) (by kernel_rfl) (fun _ _ _ h => h) ?_ (by assumption) ?_; rotate_left; (next => (refine Or.inl ⟨by kernel_rfl, ?_⟩; ((intro w hSw; (try dsimp only at hSw); (obtain ⟨⟨a0, a1, a2, a3⟩, _⟩ := cells4 ((hSw.block _ m0 (by omega)).trans Y0.out); obtain ⟨⟨x0, x1, x2, x3, x4, x5, x6, x7⟩, _⟩ := cells8 (e := e) ((hSw.block _ mX (by omega)).trans YE.out); obtain ⟨⟨z0, z1, z2, z3, z4, z5, z6, z7⟩, _⟩ := cells8 (e := e) ((hSw.block _ m1 (by omega)).trans Y1.out)); go_simp) <;> with_reducible rfl))); (try simp only [Act.put, List.setIfInBounds_toArray, List.set_cons_zero, List.set_cons_succ])); (refine wpAnyH_take (i := 1) (v := ?_) rfl (by kernel_rfl) (by kernel_rfl) (by kernel_rfl) (fun _ _ _ h => h) ?_ (by assumption) ?_; rotate_left; (next => (refine Or.inl ⟨by kernel_rfl, ?_⟩; ((intro w hSw; (try dsimp only at hSw); (obtain ⟨⟨a0, a1, a2, a3⟩, _⟩ := cells4 ((hSw.block _ m0 (by omega)).trans Y0.out); obtain ⟨⟨x0, x1, x2, x3, x4, x5, x6, x7⟩, _⟩ := cells8 (e := e) ((hSw.block _ mX (by omega)).trans YE.out); obtain ⟨⟨z0, z1, z2, z3, z4, z5, z6, z7⟩, _⟩ := cells8 (e := e) ((hSw.block _ m1 (by omega)).trans Y1.out)); go_simp) <;> with_reducible rfl))); (try simp only [Act.put, List.setIfInBounds_toArray, List.set_cons_zero, List.set_cons_succ])); (refine wpAnyH_take (i := 2) (v := ?_) rfl (by kernel_rfl) (by kernel_rfl) (by kernel_rfl) (fun _ _ _ h => h) ?_ (by assumption) ?_; rotate_left; (next => (refine Or.inl ⟨by kernel_rfl, ?_⟩; ((intro w hSw; (try dsimp only at hSw); (obtain ⟨⟨a0, a1, a2, a3⟩, _⟩ := cells4 ((hSw.block _ m0 (by omega)).trans Y0.out); obtain ⟨⟨x0, x1, x2, x3, x4, x5, x6, x7⟩, _⟩ := cells8 (e := e) ((hSw.block _ mX (by omega)).trans YE.out); obtain ⟨⟨z0, z1, z2, z3, z4, z5, z6, z7⟩, _⟩ := cells8 (e := e) ((hSw.block _ m1 (by omega)).trans Y1.out)); go_simp) <;> with_reducible rfl))); (try simp only [Act.put, List.setIfInBounds_toArray, List.set_cons_zero, List.set_cons_succ])); refine wpAnyH_ready (rs := [3]) (by kernel_rfl) (by simp) ?_; refine AllReadyH.cons rfl (fun K hK => ?_) AllReadyH.nil; go_simp; refine hK.out _ _ (by (repeat (with_reducible first | exact Touch.refl _ _ | refine Touch.drew ?_ | refine Touch.set1 ?_ _ _))) (fun hS => ?_); clear hK K; (try simp only [Act.put, List.setIfInBounds_toArray, List.set_cons_zero, List.set_cons_succ]); (refine wpAnyH_take (i := 4) (v := ?_) rfl (by kernel_rfl) (by kernel_rfl) (by kernel_rfl) (fun _ _ _ h => h) ?_ (by assumption) ?_; rotate_left; (next => (refine Or.inl ⟨by kernel_rfl, ?_⟩; ((intro w hSw; (try dsimp only at hSw); go_simp) <;> with_reducible rfl))); (try simp only [Act.put, List.setIfInBounds_toArray, List.set_cons_zero, List.set_cons_succ])); (refine wpAnyH_take (i := 5) (v := ?_) rfl (by kernel_rfl) (by kernel_rfl) (by kernel_rfl) (fun _ _ _ h => h) ?_ (by assumption) ?_; rotate_left; (next => (refine Or.inl ⟨by kernel_rfl, ?_⟩; ((intro w hSw; (try dsimp only at hSw); go_simp) <;> with_reducible rfl))); (try simp only [Act.put, List.setIfInBounds_toArray, List.set_cons_zero, List.set_cons_succ])); (refine wpAnyH_take (i := 6) (v := ?_) rfl (by kernel_rfl) (by kernel_rfl) (by kernel_rfl) (fun _ _ _ h => h) ?_ (by assumption) ?_; rotate_left; (next => (refine Or.inl ⟨by kernel_rfl, ?_⟩; ((intro w hSw; (try dsimp only at hSw); go_simp) <;> with_reducible rfl))); (try simp only [Act.put, List.setIfInBounds_toArray, List.set_cons_zero, List.set_cons_succ])); (refine wpAnyH_take (i := 7) (v := ?_) rfl (by kernel_rfl) (by kernel_rfl) (by kernel_rfl) (fun _ _ _ h => h) ?_ (by assumption) ?_; rotate_left; (next => (refine Or.inl ⟨by kernel_rfl, ?_⟩; ((intro w hSw; (try dsimp only at hSw); go_simp) <;> with_reducible rfl))); (try simp only [Act.put, List.setIfInBounds_toArray, List.set_cons_zero, List.set_cons_succ])); (refine wpAnyH_take (i := 8) (v := ?_) rfl (by kernel_rfl) (by kernel_rfl) (by kernel_rfl) (fun _ _ _ h => h) ?_ (by assumption) ?_; rotate_left; (next => (refine Or.inl ⟨by kernel_rfl, ?_⟩; ((intro w hSw; (try dsimp only at hSw); go_simp) <;> with_reducible rfl))); (try simp only [Act.put, List.setIfInBounds_toArray, List.set_cons_zero, List.set_cons_succ])); refine wpAnyH_ready (rs := [9]) (by kernel_rfl) (by simp) ?_; refine AllReadyH.cons rfl (fun K hK => ?_) AllReadyH.nil; go_simp; refine hK.out _ _ (by (repeat (with_reducible first | exact Touch.refl _ _ | refine Touch.drew ?_ | refine Touch.set1 ?_ _ _))) (fun hS => ?_); clear hK K; (try simp only [Act.put, List.setIfInBounds_toArray, List.set_cons_zero, List.set_cons_succ]); (refine wpAnyH_take (i := 10) (v := ?_) rfl (by kernel_rfl) (by kernel_rfl) (by kernel_rfl) (fun _ _ _ h => h) ?_ (by assumption) ?_; rotate_left; (next => (refine Or.inl ⟨by kernel_rfl, ?_⟩; ((intro w hSw; (try dsimp only at hSw); go_simp) <;> with_reducible rfl))); (try simp only [Act.put, List.setIfInBounds_toArray, List.set_cons_zero, List.set_cons_succ])); refine wpAnyH_done (by kernel_rfl) ?_ _)
  go_simp
  clear hS
  go_wp2
  have DE := Lib.hid (does_end (m := c.most) (x := c'.hits) (y := c'.miss) Y2.out (by omega) lC lS YT.out YC.out YR.out)
  refine wp_post (DoesE C S (w.heap.size + 1 + 1) c.most (.slice A2 c.sites.length n2) c'.hits c'.miss c.sites c' w) (by first | exact DE.out.drew | exact DE.out) ?_
  rintro V ⟨z, vc, vr, vt⟩
  have ZZ := Lib.hid (And.intro vc (And.intro vr vt))
  obtain ⟨⟨a0, a1, a2, a3⟩, _⟩ := cells4 z
  clear z vc vr vt g0 g1 g2 g3
  refine bodyPost_ret (v := .tuple #[refV c.most (.slice A2 c.sites.length n2) c'.hits c'.miss, .bool true]) (by simp [results, Try.results18, go_sem, *]) rfl ⟨_, by rw [EA.out, SS.out.1], by rw [EA.out]; exact ZZ.out.1, by rw [EA.out, SS.out.2]; exact ZZ.out.2.1, ZZ.out.2.2⟩
end Go.Proofs.Ytbgcjgnhblhohaa
