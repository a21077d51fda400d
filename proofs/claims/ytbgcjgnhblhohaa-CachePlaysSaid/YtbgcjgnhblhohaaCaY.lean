/- Inline caches: the comparison of both sides, walked. -/
import Derived.Test.YtbgcjgnhblhohaaCaXb
namespace Go.Proofs.Ytbgcjgnhblhohaa
set_option linter.all false
open Go.RowKit Go.Sort Go.Deep Go.Shelf

/-- Entries of the reference, its list as it stood before -/
theorem rentries_from (c : CacheD) (sv : Value) (m h s n : Int) (w0 w : World) (hR : IsR w0 sv c.sites) (hb0 : Below w0.heap.size w0 w) : Calls Try.prog 28 #[refV m sv h s, .int .i64 n] w fun e w' => ∃ A k, e = .returned (.slice A (entriesD c n).length k) ∧ IsE w0 (.slice A (entriesD c n).length k) (entriesD c n) ∧ Below w.heap.size w w' := by
  obtain ⟨A, cap, rfl, _, _⟩ := hR.form
  cases hs : siteD c n with
  | none =>
    have E := Lib.hid (show entriesD c n = [] by simp [entriesD, hs])
    have HA := Lib.hid (fun W => hasC (W := w0) hR false (by rw [hs]; rfl) m h s W)
    clear hs hR hb0
    go_enter Try.func28, Try.ntmps28
    go_wp2_with (go_at_call 31; refine (callGr (HA.out _)).mono ?_; rintro e w' ⟨pp, rfl, rfl⟩)
    go_ret
    rw [E.out]
    exact ⟨none, 0, rfl, .nil_, by (repeat (with_reducible first | exact Below.refl _ _ | (refine bl_set ?_ (by first | omega | (simp; done) | (simp; omega)) _) | refine bl_gr ?_ _ | refine bl_al ?_ _ | refine below_setRow ?_ (by first | omega | (simp; done) | (simp; omega)) _ | refine bl_drewN ?_ _ | refine Below.drew ?_ | (refine bl_tr ?_ (by assumption))))⟩
  | some st =>
    obtain ⟨j, rfl, hj, hsj⟩ := siteD_some hs
    obtain ⟨b, off, cap', A2, n2, e, hb, c0, c1, hE⟩ := hR.at_ hsj
    simp only [Value.slice.injEq, true_and] at e
    obtain ⟨rfl, rfl⟩ := e
    have HA := Lib.hid (fun W => hasC (W := w0) hR true (by rw [hs]; rfl) m h s W)
    have E := Lib.hid (show entriesD c j = st.l by simp [entriesD, hs])
    have HE := Lib.hid hE
    replace c0 := (hb0.cell (p := ⟨b, off + j * 2, none⟩) hb).trans c0
    replace c1 := (hb0.cell (p := ⟨b, off + j * 2 + 1, none⟩) hb).trans c1
    have hbw := Nat.lt_of_lt_of_le hb hb0.size
    have j0 : ¬ (j : Int) < 0 := by omega
    have j1 : (j : Int) < c.sites.length := by omega
    have lb : ∀ n, b < w.heap.size + n := fun n => by omega
    clear hs hR hsj hE hb hb0
    go_enter Try.func28, Try.ntmps28
    go_wp2_with (go_at_call 31; refine (callGr (HA.out _)).mono ?_; rintro e w' ⟨pp, rfl, rfl⟩)
    go_ret
    rw [E.out]
    exact ⟨A2, n2, rfl, HE.out, by (repeat (with_reducible first | exact Below.refl _ _ | (refine bl_set ?_ (by first | omega | (simp; done) | (simp; omega)) _) | refine bl_gr ?_ _ | refine bl_al ?_ _ | refine below_setRow ?_ (by first | omega | (simp; done) | (simp; omega)) _ | refine bl_drewN ?_ _ | refine Below.drew ?_ | (refine bl_tr ?_ (by assumption))))⟩
theorem ent_le {k : Int} {c : CacheD} (h : FineC k c) (n : Int) : (entriesD c n).length ≤ 4 := by
  unfold entriesD
  cases hs : siteD c n with
  | none => simp
  | some s =>
    obtain ⟨j, _, _, hj⟩ := siteD_some hs
    exact h.2.2.1 s (List.mem_of_getElem? hj)
/-- the program's list is turned from its head on -/
def SmI (w : World) (lo : Nat) (g n5 : Nat) (L : List Ent) (a : Nat) (wr : World) : Prop := ∃ M : List Ent, M.length = L.length ∧ (∀ q, a ≤ q → M[q]? = L[q]?) ∧ wr.ownsRow lo 33 8 (.slice (some ⟨g, 0, none⟩) L.length n5) L.length (flat Ent.cs M) ∧ Below w.heap.size w wr
theorem SmI.drew {w : World} {lo g n5 : Nat} {L : List Ent} {a : Nat} {wr : World} (h : SmI w lo g n5 L a wr) : SmI w lo g n5 L a wr.drew := by
  obtain ⟨M, h1, h2, h3, h4⟩ := h
  exact ⟨M, h1, h2, h3.drew, h4.drew⟩
theorem SmI.put {w wr : World} {lo g n5 a : Nat} {L M : List Ent} (x : Ent) (h1 : M.length = L.length) (h2 : ∀ q, a ≤ q → M[q]? = L[q]?) (h3 : wr.ownsRow lo 33 8 (.slice (some ⟨g, 0, none⟩) L.length n5) L.length (flat Ent.cs M)) (h4 : Below w.heap.size w wr) (hg : w.heap.size ≤ g) (ha : a < L.length) : SmI w lo g n5 L (a + 1) (put8 wr g (a * 8) x) := by
  refine ⟨M.set a x, by rw [List.length_set, h1], fun q hq => ?_, owns_put8 x h3 (by omega) h1, h4.trans ((put8_touch wr g (a * 8) x).below h4.size (by omega))⟩
  rw [List.getElem?_set_ne (by omega)]
  exact h2 q (by omega)

set_option maxRecDepth 100000 in
set_option maxHeartbeats 16000000 in
theorem same_any {C S : Nat} {c : CacheD} (sv : Value) (n : Int) (w : World) (hf : FineC 1000 c) (hc : CacheIn w C S c) (hR : IsR w sv c.sites) :
    Calls Try.prog 19 #[.pointer (some ⟨C, 0, none⟩), refV c.most sv c.hits c.miss, .int .i64 n] w fun e w' => e = .returned (.bool true) ∧ Below w.heap.size w w' := by
  obtain ⟨A, cap, rfl, _, _⟩ := hR.form
  have h4 := ent_le hf n
  have EK := Lib.hid (fun W h => entries_any (C := C) (S := S) (c := c) n W h)
  unfold RetEnts at EK
  have RE := Lib.hid (fun W h => rentries_from c (.slice A c.sites.length cap) c.most c.hits c.miss n w W hR h)
  have SK := Lib.hid (fun W h => state_any (C := C) (S := S) (c := c) n W h)
  have RS := Lib.hid (fun W h => rstate_any c (.slice A c.sites.length cap) c.most c.hits c.miss n W h)
  have HK := Lib.hid (fun W h => hits_any (C := C) (S := S) (c := c) W h)
  have MK := Lib.hid (fun W h => misses_any (C := C) (S := S) (c := c) W h)
  have HC := Lib.hid hc
  have HR := Lib.hid hR
  generalize entriesD c n = L at *
  generalize stateD c n = sn at *
  clear hf hc hR
  go_enter Try.func19, Try.ntmps19
  go_upto_region 1 with fail
  refine wp_world (fun W => W.heap[w.heap.size]? = some (refO c.most (.slice A c.sites.length cap) c.hits c.miss) ∧ Below w.heap.size w W) ⟨heap_alloc_new _ _, bl_al (Below.refl _ _) _⟩ ?_
  rintro W ⟨j1, jb⟩
  have J := Lib.hid (And.intro j1 jb)
  have l0 := (Array.getElem?_eq_some_iff.1 j1).1
  clear j1 jb
  (refine wp_region_held_drew (S := (fun Z : World => Below W.heap.size W Z)) Try.mixed (by ((repeat (with_reducible first  | exact Below.refl _ _ | refine bl_rapp ?_ | (refine bl_set ?_ (by first | omega | (simp; done) | (simp; omega)) _) | refine bl_gr ?_ _ | refine bl_al ?_ _ | refine bl_drewN ?_ _ | refine Below.drew ?_)))) (fun hS => ?_); (refine wpAnyH_take (i := 0) (v := ?_) rfl (by kernel_rfl) (by kernel_rfl) (by kernel_rfl) (fun _ _ _ h => h) ?_ (by assumption) ?_; rotate_left; (next => (refine Or.inl ⟨by kernel_rfl, ?_⟩; ((intro w hSw; (try dsimp only at hSw); go_simp) <;> with_reducible rfl))); (try simp only [Act.put, List.setIfInBounds_toArray, List.set_cons_zero, List.set_cons_succ])); (refine wpAnyH_take (i := 1) (v := ?_) rfl (by kernel_rfl) (by kernel_rfl) (by kernel_rfl) (fun _ _ _ h => h) ?_ (by assumption) ?_; rotate_left; (next => (refine Or.inl ⟨by kernel_rfl, ?_⟩; ((intro w hSw; (try dsimp only at hSw); go_simp) <;> with_reducible rfl))); (try simp only [Act.put, List.setIfInBounds_toArray, List.set_cons_zero, List.set_cons_succ])); (refine wpAnyH_take (i := 3) (v := ?_) rfl (by kernel_rfl) (by kernel_rfl) (by kernel_rfl) (fun _ _ _ h => h) ?_ (by assumption) ?_; rotate_left; (next => (refine Or.inl ⟨by kernel_rfl, ?_⟩; ((intro w hSw; (try dsimp only at hSw); (obtain ⟨⟨a0, a1, a2, a3⟩, _⟩ := cells4 ((hSw.block _ l0).trans J.out.1)); go_simp) <;> with_reducible rfl))); (try simp only [Act.put, List.setIfInBounds_toArray, List.set_cons_zero, List.set_cons_succ])); (refine wpAnyH_take (i := 4) (v := ?_) rfl (by kernel_rfl) (by kernel_rfl) (by kernel_rfl) (fun _ _ _ h => h) ?_ (by assumption) ?_; rotate_left; (next => (refine Or.inl ⟨by kernel_rfl, ?_⟩; ((intro w hSw; (try dsimp only at hSw); go_simp) <;> with_reducible rfl))); (try simp only [Act.put, List.setIfInBounds_toArray, List.set_cons_zero, List.set_cons_succ])); refine wpAnyH_ready (rs := [2]) (by kernel_rfl) (by simp) ?_; refine AllReadyH.cons rfl (fun K hK => ?_) AllReadyH.nil; go_simp; ((go_at_call 14; refine (EK.out _ (HC.out.below (bl_tr J.out.2 (by (repeat (with_reducible first  | exact Below.refl _ _ | refine bl_rapp ?_ | (refine bl_set ?_ (by first | omega | (simp; done) | (simp; omega)) _) | refine bl_gr ?_ _ | refine bl_al ?_ _ | refine bl_drewN ?_ _ | refine Below.drew ?_)))))).mono ?_; rintro e1 W1 ⟨v, rfl, ho, hb⟩; obtain ⟨A5, n5, rfl⟩ := ownsRow_form ho; have B1 := Lib.hid (show Below W.heap.size W W1 from bl_tr (by (repeat (with_reducible first  | exact Below.refl _ _ | refine bl_rapp ?_ | (refine bl_set ?_ (by first | omega | (simp; done) | (simp; omega)) _) | refine bl_gr ?_ _ | refine bl_al ?_ _ | refine bl_drewN ?_ _ | refine Below.drew ?_))) hb); have O1 := Lib.hid (ownsRow_low (b' := w.heap.size) ho (Nat.le_trans J.out.2.size (by (first | exact Nat.le_refl _ | simp)))); clear ho hb)); refine hK.out _ _ (by (repeat (with_reducible first | exact B1.out | exact Below.refl _ _ | refine bl_rapp ?_ | (refine bl_set ?_ (by first | omega | (simp; done) | (simp; omega)) _) | refine bl_gr ?_ _ | refine bl_al ?_ _ | refine bl_drewN ?_ _ | refine Below.drew ?_))) (fun hS => ?_); clear hK K; (try simp only [Act.put, List.setIfInBounds_toArray, List.set_cons_zero, List.set_cons_succ]); refine wpAnyH_ready (rs := [5]) (by kernel_rfl) (by simp) ?_; refine AllReadyH.cons rfl (fun K hK => ?_) AllReadyH.nil; go_simp; ((go_at_call 28; refine (RE.out _ (bl_tr J.out.2 (by (repeat (with_reducible first | exact B1.out | exact Below.refl _ _ | refine bl_rapp ?_ | (refine bl_set ?_ (by first | omega | (simp; done) | (simp; omega)) _) | refine bl_gr ?_ _ | refine bl_al ?_ _ | refine bl_drewN ?_ _ | refine Below.drew ?_))))).mono ?_; rintro e2 W2 ⟨A6, n6, rfl, hE, hb⟩; have HE := Lib.hid hE; have B2 := Lib.hid (show Below W1.heap.size W1 W2 from bl_tr (by (repeat (with_reducible first  | exact Below.refl _ _ | refine bl_rapp ?_ | (refine bl_set ?_ (by first | omega | (simp; done) | (simp; omega)) _) | refine bl_gr ?_ _ | refine bl_al ?_ _ | refine bl_drewN ?_ _ | refine Below.drew ?_))) hb); clear hE hb)); refine hK.out _ _ (by exact bl_tr B1.out B2.out) (fun hS => ?_); clear hK K; (try simp only [Act.put, List.setIfInBounds_toArray, List.set_cons_zero, List.set_cons_succ]); (refine wpAnyH_take (i := 6) (v := ?_) rfl (by kernel_rfl) (by kernel_rfl) (by kernel_rfl) (fun _ _ _ h => h) ?_ (by assumption) ?_; rotate_left; (next => (refine Or.inl ⟨by kernel_rfl, ?_⟩; ((intro w hSw; (try dsimp only at hSw); go_simp) <;> with_reducible rfl))); (try simp only [Act.put, List.setIfInBounds_toArray, List.set_cons_zero, List.set_cons_succ])); (refine wpAnyH_take (i := 7) (v := ?_) rfl (by kernel_rfl) (by kernel_rfl) (by kernel_rfl) (fun _ _ _ h => h) ?_ (by assumption) ?_; rotate_left; (next => (refine Or.inl ⟨by kernel_rfl, ?_⟩; ((intro w hSw; (try dsimp only at hSw); go_simp) <;> with_reducible rfl))); (try simp only [Act.put, List.setIfInBounds_toArray, List.set_cons_zero, List.set_cons_succ])); refine wpAnyH_done (by kernel_rfl) ?_ _)
  go_simp
  clear hS
  have O2 := Lib.hid (ownsRow_below O1.out B2.out)
  have BW := Lib.hid (bl_tr J.out.2 (bl_tr B1.out B2.out))
  have J2 := Lib.hid (((bl_tr B1.out B2.out).block _ l0).trans J.out.1)
  have l2 := (Array.getElem?_eq_some_iff.1 J2.out).1
  clear l0
  go_upto_region 2 with fail
  (refine wp_region_held_drew (S := (fun Z : World => Below W2.heap.size W2 Z)) Try.mixed (by ((repeat (with_reducible first  | exact Below.refl _ _ | refine bl_rapp ?_ | (refine bl_set ?_ (by first | omega | (simp; done) | (simp; omega)) _) | refine bl_gr ?_ _ | refine bl_al ?_ _ | refine bl_drewN ?_ _ | refine Below.drew ?_)))) (fun hS => ?_); (refine wpAnyH_take (i := 0) (v := ?_) rfl (by kernel_rfl) (by kernel_rfl) (by kernel_rfl) (fun _ _ _ h => h) ?_ (by assumption) ?_; rotate_left; (next => (refine Or.inl ⟨by kernel_rfl, ?_⟩; ((intro w hSw; (try dsimp only at hSw); go_simp) <;> with_reducible rfl))); (try simp only [Act.put, List.setIfInBounds_toArray, List.set_cons_zero, List.set_cons_succ])); (refine wpAnyH_take (i := 1) (v := ?_) rfl (by kernel_rfl) (by kernel_rfl) (by kernel_rfl) (fun _ _ _ h => h) ?_ (by assumption) ?_; rotate_left; (next => (refine Or.inl ⟨by kernel_rfl, ?_⟩; ((intro w hSw; (try dsimp only at hSw); go_simp) <;> with_reducible rfl))); (try simp only [Act.put, List.setIfInBounds_toArray, List.set_cons_zero, List.set_cons_succ])); (refine wpAnyH_take (i := 2) (v := ?_) rfl (by kernel_rfl) (by kernel_rfl) (by kernel_rfl) (fun _ _ _ h => h) ?_ (by assumption) ?_; rotate_left; (next => (refine Or.inl ⟨by kernel_rfl, ?_⟩; ((intro w hSw; (try dsimp only at hSw); go_simp) <;> with_reducible rfl))); (try simp only [Act.put, List.setIfInBounds_toArray, List.set_cons_zero, List.set_cons_succ])); (refine wpAnyH_take (i := 3) (v := ?_) rfl (by kernel_rfl) (by kernel_rfl) (by kernel_rfl) (fun _ _ _ h => h) ?_ (by assumption) ?_; rotate_left; (next => (refine Or.inl ⟨by kernel_rfl, ?_⟩; ((intro w hSw; (try dsimp only at hSw); go_simp) <;> with_reducible rfl))); (try simp only [Act.put, List.setIfInBounds_toArray, List.set_cons_zero, List.set_cons_succ])); (refine wpAnyH_take (i := 4) (v := ?_) rfl (by kernel_rfl) (by kernel_rfl) (by kernel_rfl) (fun _ _ _ h => h) ?_ (by assumption) ?_; rotate_left; (next => (refine Or.inl ⟨by kernel_rfl, ?_⟩; ((intro w hSw; (try dsimp only at hSw); go_simp) <;> with_reducible rfl))); (try simp only [Act.put, List.setIfInBounds_toArray, List.set_cons_zero, List.set_cons_succ])); (refine wpAnyH_take (i := 5) (v := ?_) rfl (by kernel_rfl) (by kernel_rfl) (by kernel_rfl) (fun _ _ _ h => h) ?_ (by assumption) ?_; rotate_left; (next => (refine Or.inl ⟨by kernel_rfl, ?_⟩; ((intro w hSw; (try dsimp only at hSw); go_simp) <;> with_reducible rfl))); (try simp only [Act.put, List.setIfInBounds_toArray, List.set_cons_zero, List.set_cons_succ])); (refine wpAnyH_take (i := 6) (v := ?_) rfl (by kernel_rfl) (by kernel_rfl) (by kernel_rfl) (fun _ _ _ h => h) ?_ (by assumption) ?_; rotate_left; (next => (refine Or.inl ⟨by kernel_rfl, ?_⟩; ((intro w hSw; (try dsimp only at hSw); go_simp) <;> with_reducible rfl))); (try simp only [Act.put, List.setIfInBounds_toArray, List.set_cons_zero, List.set_cons_succ])); (refine wpAnyH_take (i := 7) (v := ?_) rfl (by kernel_rfl) (by kernel_rfl) (by kernel_rfl) (fun _ _ _ h => h) ?_ (by assumption) ?_; rotate_left; (next => (refine Or.inl ⟨by kernel_rfl, ?_⟩; ((intro w hSw; (try dsimp only at hSw); go_simp) <;> with_reducible rfl))); (try simp only [Act.put, List.setIfInBounds_toArray, List.set_cons_zero, List.set_cons_succ])); (refine wpAnyH_take (i := 9) (v := ?_) rfl (by kernel_rfl) (by kernel_rfl) (by kernel_rfl) (fun _ _ _ h => h) ?_ (by assumption) ?_; rotate_left; (next => (refine Or.inl ⟨by kernel_rfl, ?_⟩; ((intro w hSw; (try dsimp only at hSw); (obtain ⟨⟨a0, a1, a2, a3⟩, _⟩ := cells4 ((hSw.block _ l2).trans J2.out)); go_simp) <;> with_reducible rfl))); (try simp only [Act.put, List.setIfInBounds_toArray, List.set_cons_zero, List.set_cons_succ])); (refine wpAnyH_take (i := 10) (v := ?_) rfl (by kernel_rfl) (by kernel_rfl) (by kernel_rfl) (fun _ _ _ h => h) ?_ (by assumption) ?_; rotate_left; (next => (refine Or.inl ⟨by kernel_rfl, ?_⟩; ((intro w hSw; (try dsimp only at hSw); go_simp) <;> with_reducible rfl))); (try simp only [Act.put, List.setIfInBounds_toArray, List.set_cons_zero, List.set_cons_succ])); refine wpAnyH_ready (rs := [8]) (by kernel_rfl) (by simp) ?_; refine AllReadyH.cons rfl (fun K hK => ?_) AllReadyH.nil; go_simp; ((first | (go_at_call 10; refine (callGr (SK.out _ (HC.out.below (bl_tr BW.out (by (repeat (with_reducible first  | exact Below.refl _ _ | refine bl_rapp ?_ | (refine bl_set ?_ (by first | omega | (simp; done) | (simp; omega)) _) | refine bl_gr ?_ _ | refine bl_al ?_ _ | refine bl_drewN ?_ _ | refine Below.drew ?_))))))).mono ?_; rintro e w' ⟨pp, rfl, rfl⟩) | (go_at_call 29; refine (callGr (RS.out _ (HR.out.below (bl_tr BW.out (by (repeat (with_reducible first  | exact Below.refl _ _ | refine bl_rapp ?_ | (refine bl_set ?_ (by first | omega | (simp; done) | (simp; omega)) _) | refine bl_gr ?_ _ | refine bl_al ?_ _ | refine bl_drewN ?_ _ | refine Below.drew ?_))))))).mono ?_; rintro e w' ⟨pp, rfl, rfl⟩) | (go_at_call 15; refine (callGr (HK.out _ (HC.out.below (bl_tr BW.out (by (repeat (with_reducible first  | exact Below.refl _ _ | refine bl_rapp ?_ | (refine bl_set ?_ (by first | omega | (simp; done) | (simp; omega)) _) | refine bl_gr ?_ _ | refine bl_al ?_ _ | refine bl_drewN ?_ _ | refine Below.drew ?_))))))).mono ?_; rintro e w' ⟨pp, rfl, rfl⟩) | (go_at_call 16; refine (callGr (MK.out _ (HC.out.below (bl_tr BW.out (by (repeat (with_reducible first  | exact Below.refl _ _ | refine bl_rapp ?_ | (refine bl_set ?_ (by first | omega | (simp; done) | (simp; omega)) _) | refine bl_gr ?_ _ | refine bl_al ?_ _ | refine bl_drewN ?_ _ | refine Below.drew ?_))))))).mono ?_; rintro e w' ⟨pp, rfl, rfl⟩))); refine hK.out _ _ (by ((repeat (with_reducible first  | exact Below.refl _ _ | refine bl_rapp ?_ | (refine bl_set ?_ (by first | omega | (simp; done) | (simp; omega)) _) | refine bl_gr ?_ _ | refine bl_al ?_ _ | refine bl_drewN ?_ _ | refine Below.drew ?_)))) (fun hS => ?_); clear hK K; (try simp only [Act.put, List.setIfInBounds_toArray, List.set_cons_zero, List.set_cons_succ]); refine wpAnyH_ready (rs := [11]) (by kernel_rfl) (by simp) ?_; refine AllReadyH.cons rfl (fun K hK => ?_) AllReadyH.nil; go_simp; ((first | (go_at_call 10; refine (callGr (SK.out _ (HC.out.below (bl_tr BW.out (by (repeat (with_reducible first  | exact Below.refl _ _ | refine bl_rapp ?_ | (refine bl_set ?_ (by first | omega | (simp; done) | (simp; omega)) _) | refine bl_gr ?_ _ | refine bl_al ?_ _ | refine bl_drewN ?_ _ | refine Below.drew ?_))))))).mono ?_; rintro e w' ⟨pp, rfl, rfl⟩) | (go_at_call 29; refine (callGr (RS.out _ (HR.out.below (bl_tr BW.out (by (repeat (with_reducible first  | exact Below.refl _ _ | refine bl_rapp ?_ | (refine bl_set ?_ (by first | omega | (simp; done) | (simp; omega)) _) | refine bl_gr ?_ _ | refine bl_al ?_ _ | refine bl_drewN ?_ _ | refine Below.drew ?_))))))).mono ?_; rintro e w' ⟨pp, rfl, rfl⟩) | (go_at_call 15; refine (callGr (HK.out _ (HC.out.below (bl_tr BW.out (by (repeat (with_reducible first  | exact Below.refl _ _ | refine bl_rapp ?_ | (refine bl_set ?_ (by first | omega | (simp; done) | (simp; omega)) _) | refine bl_gr ?_ _ | refine bl_al ?_ _ | refine bl_drewN ?_ _ | refine Below.drew ?_))))))).mono ?_; rintro e w' ⟨pp, rfl, rfl⟩) | (go_at_call 16; refine (callGr (MK.out _ (HC.out.below (bl_tr BW.out (by (repeat (with_reducible first  | exact Below.refl _ _ | refine bl_rapp ?_ | (refine bl_set ?_ (by first | omega | (simp; done) | (simp; omega)) _) | refine bl_gr ?_ _ | refine bl_al ?_ _ | refine bl_drewN ?_ _ | refine Below.drew ?_))))))).mono ?_; rintro e w' ⟨pp, rfl, rfl⟩))); refine hK.out _ _ (by ((repeat (with_reducible first  | exact Below.refl _ _ | refine bl_rapp ?_ | (refine bl_set ?_ (by first | omega | (simp; done) | (simp; omega)) _) | refine bl_gr ?_ _ | refine bl_al ?_ _ | refine bl_drewN ?_ _ | refine Below.drew ?_)))) (fun hS => ?_); clear hK K; (try simp only [Act.put, List.setIfInBounds_toArray, List.set_cons_zero, List.set_cons_succ]); (refine wpAnyH_take (i := 12) (v := ?_) rfl (by kernel_rfl) (by kernel_rfl) (by kernel_rfl) (fun _ _ _ h => h) ?_ (by assumption) ?_; rotate_left; (next => (refine Or.inl ⟨by kernel_rfl, ?_⟩; ((intro w hSw; (try dsimp only at hSw); go_simp) <;> with_reducible rfl))); (try simp only [Act.put, List.setIfInBounds_toArray, List.set_cons_zero, List.set_cons_succ])); (refine wpAnyH_take (i := 13) (v := ?_) rfl (by kernel_rfl) (by kernel_rfl) (by kernel_rfl) (fun _ _ _ h => h) ?_ (by assumption) ?_; rotate_left; (next => (refine Or.inl ⟨by kernel_rfl, ?_⟩; ((intro w hSw; (try dsimp only at hSw); go_simp) <;> with_reducible rfl))); (try simp only [Act.put, List.setIfInBounds_toArray, List.set_cons_zero, List.set_cons_succ])); (refine wpAnyH_take (i := 14) (v := ?_) rfl (by kernel_rfl) (by kernel_rfl) (by kernel_rfl) (fun _ _ _ h => h) ?_ (by assumption) ?_; rotate_left; (next => (refine Or.inl ⟨by kernel_rfl, ?_⟩; ((intro w hSw; (try dsimp only at hSw); go_simp) <;> with_reducible rfl))); (try simp only [Act.put, List.setIfInBounds_toArray, List.set_cons_zero, List.set_cons_succ])); (refine wpAnyH_take (i := 15) (v := ?_) rfl (by kernel_rfl) (by kernel_rfl) (by kernel_rfl) (fun _ _ _ h => h) ?_ (by assumption) ?_; rotate_left; (next => (refine Or.inl ⟨by kernel_rfl, ?_⟩; ((intro w hSw; (try dsimp only at hSw); go_simp) <;> with_reducible rfl))); (try simp only [Act.put, List.setIfInBounds_toArray, List.set_cons_zero, List.set_cons_succ])); (refine wpAnyH_take (i := 17) (v := ?_) rfl (by kernel_rfl) (by kernel_rfl) (by kernel_rfl) (fun _ _ _ h => h) ?_ (by assumption) ?_; rotate_left; (next => (refine Or.inl ⟨by kernel_rfl, ?_⟩; ((intro w hSw; (try dsimp only at hSw); go_simp) <;> with_reducible rfl))); (try simp only [Act.put, List.setIfInBounds_toArray, List.set_cons_zero, List.set_cons_succ])); (refine wpAnyH_take (i := 18) (v := ?_) rfl (by kernel_rfl) (by kernel_rfl) (by kernel_rfl) (fun _ _ _ h => h) ?_ (by assumption) ?_; rotate_left; (next => (refine Or.inl ⟨by kernel_rfl, ?_⟩; ((intro w hSw; (try dsimp only at hSw); (obtain ⟨⟨a0, a1, a2, a3⟩, _⟩ := cells4 ((hSw.block _ l2).trans J2.out)); go_simp) <;> with_reducible rfl))); (try simp only [Act.put, List.setIfInBounds_toArray, List.set_cons_zero, List.set_cons_succ])); refine wpAnyH_ready (rs := [16]) (by kernel_rfl) (by simp) ?_; refine AllReadyH.cons rfl (fun K hK => ?_) AllReadyH.nil; go_simp; ((first | (go_at_call 10; refine (callGr (SK.out _ (HC.out.below (bl_tr BW.out (by (repeat (with_reducible first  | exact Below.refl _ _ | refine bl_rapp ?_ | (refine bl_set ?_ (by first | omega | (simp; done) | (simp; omega)) _) | refine bl_gr ?_ _ | refine bl_al ?_ _ | refine bl_drewN ?_ _ | refine Below.drew ?_))))))).mono ?_; rintro e w' ⟨pp, rfl, rfl⟩) | (go_at_call 29; refine (callGr (RS.out _ (HR.out.below (bl_tr BW.out (by (repeat (with_reducible first  | exact Below.refl _ _ | refine bl_rapp ?_ | (refine bl_set ?_ (by first | omega | (simp; done) | (simp; omega)) _) | refine bl_gr ?_ _ | refine bl_al ?_ _ | refine bl_drewN ?_ _ | refine Below.drew ?_))))))).mono ?_; rintro e w' ⟨pp, rfl, rfl⟩) | (go_at_call 15; refine (callGr (HK.out _ (HC.out.below (bl_tr BW.out (by (repeat (with_reducible first  | exact Below.refl _ _ | refine bl_rapp ?_ | (refine bl_set ?_ (by first | omega | (simp; done) | (simp; omega)) _) | refine bl_gr ?_ _ | refine bl_al ?_ _ | refine bl_drewN ?_ _ | refine Below.drew ?_))))))).mono ?_; rintro e w' ⟨pp, rfl, rfl⟩) | (go_at_call 16; refine (callGr (MK.out _ (HC.out.below (bl_tr BW.out (by (repeat (with_reducible first  | exact Below.refl _ _ | refine bl_rapp ?_ | (refine bl_set ?_ (by first | omega | (simp; done) | (simp; omega)) _) | refine bl_gr ?_ _ | refine bl_al ?_ _ | refine bl_drewN ?_ _ | refine Below.drew ?_))))))).mono ?_; rintro e w' ⟨pp, rfl, rfl⟩))); refine hK.out _ _ (by ((repeat (with_reducible first  | exact Below.refl _ _ | refine bl_rapp ?_ | (refine bl_set ?_ (by first | omega | (simp; done) | (simp; omega)) _) | refine bl_gr ?_ _ | refine bl_al ?_ _ | refine bl_drewN ?_ _ | refine Below.drew ?_)))) (fun hS => ?_); clear hK K; (try simp only [Act.put, List.setIfInBounds_toArray, List.set_cons_zero, List.set_cons_succ]); (refine wpAnyH_take (i := 19) (v := ?_) rfl (by kernel_rfl) (by kernel_rfl) (by kernel_rfl) (fun _ _ _ h => h) ?_ (by assumption) ?_; rotate_left; (next => (refine Or.inl ⟨by kernel_rfl, ?_⟩; ((intro w hSw; (try dsimp only at hSw); go_simp) <;> with_reducible rfl))); (try simp only [Act.put, List.setIfInBounds_toArray, List.set_cons_zero, List.set_cons_succ])); (refine wpAnyH_take (i := 20) (v := ?_) rfl (by kernel_rfl) (by kernel_rfl) (by kernel_rfl) (fun _ _ _ h => h) ?_ (by assumption) ?_; rotate_left; (next => (refine Or.inl ⟨by kernel_rfl, ?_⟩; ((intro w hSw; (try dsimp only at hSw); go_simp) <;> with_reducible rfl))); (try simp only [Act.put, List.setIfInBounds_toArray, List.set_cons_zero, List.set_cons_succ])); (refine wpAnyH_take (i := 21) (v := ?_) rfl (by kernel_rfl) (by kernel_rfl) (by kernel_rfl) (fun _ _ _ h => h) ?_ (by assumption) ?_; rotate_left; (next => (refine Or.inl ⟨by kernel_rfl, ?_⟩; ((intro w hSw; (try dsimp only at hSw); go_simp) <;> with_reducible rfl))); (try simp only [Act.put, List.setIfInBounds_toArray, List.set_cons_zero, List.set_cons_succ])); (refine wpAnyH_take (i := 22) (v := ?_) rfl (by kernel_rfl) (by kernel_rfl) (by kernel_rfl) (fun _ _ _ h => h) ?_ (by assumption) ?_; rotate_left; (next => (refine Or.inl ⟨by kernel_rfl, ?_⟩; ((intro w hSw; (try dsimp only at hSw); go_simp) <;> with_reducible rfl))); (try simp only [Act.put, List.setIfInBounds_toArray, List.set_cons_zero, List.set_cons_succ])); (refine wpAnyH_take (i := 24) (v := ?_) rfl (by kernel_rfl) (by kernel_rfl) (by kernel_rfl) (fun _ _ _ h => h) ?_ (by assumption) ?_; rotate_left; (next => (refine Or.inl ⟨by kernel_rfl, ?_⟩; ((intro w hSw; (try dsimp only at hSw); go_simp) <;> with_reducible rfl))); (try simp only [Act.put, List.setIfInBounds_toArray, List.set_cons_zero, List.set_cons_succ])); (refine wpAnyH_take (i := 25) (v := ?_) rfl (by kernel_rfl) (by kernel_rfl) (by kernel_rfl) (fun _ _ _ h => h) ?_ (by assumption) ?_; rotate_left; (next => (refine Or.inl ⟨by kernel_rfl, ?_⟩; ((intro w hSw; (try dsimp only at hSw); (obtain ⟨⟨a0, a1, a2, a3⟩, _⟩ := cells4 ((hSw.block _ l2).trans J2.out)); go_simp) <;> with_reducible rfl))); (try simp only [Act.put, List.setIfInBounds_toArray, List.set_cons_zero, List.set_cons_succ])); refine wpAnyH_ready (rs := [23]) (by kernel_rfl) (by simp) ?_; refine AllReadyH.cons rfl (fun K hK => ?_) AllReadyH.nil; go_simp; ((first | (go_at_call 10; refine (callGr (SK.out _ (HC.out.below (bl_tr BW.out (by (repeat (with_reducible first  | exact Below.refl _ _ | refine bl_rapp ?_ | (refine bl_set ?_ (by first | omega | (simp; done) | (simp; omega)) _) | refine bl_gr ?_ _ | refine bl_al ?_ _ | refine bl_drewN ?_ _ | refine Below.drew ?_))))))).mono ?_; rintro e w' ⟨pp, rfl, rfl⟩) | (go_at_call 29; refine (callGr (RS.out _ (HR.out.below (bl_tr BW.out (by (repeat (with_reducible first  | exact Below.refl _ _ | refine bl_rapp ?_ | (refine bl_set ?_ (by first | omega | (simp; done) | (simp; omega)) _) | refine bl_gr ?_ _ | refine bl_al ?_ _ | refine bl_drewN ?_ _ | refine Below.drew ?_))))))).mono ?_; rintro e w' ⟨pp, rfl, rfl⟩) | (go_at_call 15; refine (callGr (HK.out _ (HC.out.below (bl_tr BW.out (by (repeat (with_reducible first  | exact Below.refl _ _ | refine bl_rapp ?_ | (refine bl_set ?_ (by first | omega | (simp; done) | (simp; omega)) _) | refine bl_gr ?_ _ | refine bl_al ?_ _ | refine bl_drewN ?_ _ | refine Below.drew ?_))))))).mono ?_; rintro e w' ⟨pp, rfl, rfl⟩) | (go_at_call 16; refine (callGr (MK.out _ (HC.out.below (bl_tr BW.out (by (repeat (with_reducible first  | exact Below.refl _ _ | refine bl_rapp ?_ | (refine bl_set ?_ (by first | omega | (simp; done) | (simp; omega)) _) | refine bl_gr ?_ _ | refine bl_al ?_ _ | refine bl_drewN ?_ _ | refine Below.drew ?_))))))).mono ?_; rintro e w' ⟨pp, rfl, rfl⟩))); refine hK.out _ _ (by ((repeat (with_reducible first  | exact Below.refl _ _ | refine bl_rapp ?_ | (refine bl_set ?_ (by first | omega | (simp; done) | (simp; omega)) _) | refine bl_gr ?_ _ | refine bl_al ?_ _ | refine bl_drewN ?_ _ | refine Below.drew ?_)))) (fun hS => ?_); clear hK K; (try simp only [Act.put, List.setIfInBounds_toArray, List.set_cons_zero, List.set_cons_succ]); (refine wpAnyH_take (i := 26) (v := ?_) rfl (by kernel_rfl) (by kernel_rfl) (by kernel_rfl) (fun _ _ _ h => h) ?_ (by assumption) ?_; rotate_left; (next => (refine Or.inl ⟨by kernel_rfl, ?_⟩; ((intro w hSw; (try dsimp only at hSw); go_simp) <;> with_reducible rfl))); (try simp only [Act.put, List.setIfInBounds_toArray, List.set_cons_zero, List.set_cons_succ])); (refine wpAnyH_take (i := 27) (v := ?_) rfl (by kernel_rfl) (by kernel_rfl) (by kernel_rfl) (fun _ _ _ h => h) ?_ (by assumption) ?_; rotate_left; (next => (refine Or.inl ⟨by kernel_rfl, ?_⟩; ((intro w hSw; (try dsimp only at hSw); go_simp) <;> with_reducible rfl))); (try simp only [Act.put, List.setIfInBounds_toArray, List.set_cons_zero, List.set_cons_succ])); refine wpAnyH_done (by kernel_rfl) ?_ _)
  go_simp
  clear hS
  go_upto_region 4 with fail
  refine wp_world (fun Z => Below W2.heap.size W2 Z) (by (repeat (with_reducible first  | exact Below.refl _ _ | refine bl_rapp ?_ | (refine bl_set ?_ (by first | omega | (simp; done) | (simp; omega)) _) | refine bl_gr ?_ _ | refine bl_al ?_ _ | refine bl_drewN ?_ _ | refine Below.drew ?_))) ?_
  intro Z hb
  have hZ : SmI w w.heap.size (A5.elim 0 Addr.block) n5 L 0 Z ∨ L = [] ∧ Below w.heap.size w Z := by
    have o := ownsRow_below O2.out hb
    cases L with
    | nil => exact .inr ⟨rfl, bl_tr BW.out hb⟩
    | cons y L =>
      obtain ⟨g, rfl⟩ : ∃ g, A5 = some ⟨g, 0, none⟩ := by
        rcases o.2 with ⟨h0, h1⟩ | ⟨g, cap, cur, e, _⟩
        · simp at h1
        · simp only [Value.slice.injEq] at e
          exact ⟨g, e.1⟩
      exact .inl ⟨y :: L, rfl, fun _ _ => rfl, o, bl_tr BW.out hb⟩
  have ZZ := Lib.hid hZ
  have AF := Lib.hid (show 0 < L.length → ∃ g, A5 = some ⟨g, 0, none⟩ ∧ w.heap.size ≤ g from fun h => by
    rcases O2.out.2 with ⟨h0, h1⟩ | ⟨g, cap, cur, e, hg, _⟩
    · omega
    · simp only [Value.slice.injEq] at e
      exact ⟨g, e.1, hg⟩)
  clear hZ hb l2 J J2 O1 O2 BW
  have hL64 : (L.length : Int) ≤ 4 := by omega
  go_wp2
  go_loopw [46] (fun i wr => ∃ a : Nat, a ≤ L.length ∧ i = .int .i64 a ∧ (SmI w w.heap.size (A5.elim 0 Addr.block) n5 L a wr ∨ L = [] ∧ Below w.heap.size w wr)) (fun i _ => L.length - (intOf i).toNat)
  case atStart => exact ⟨0, by omega, rfl, ZZ.out⟩
  case round =>
    obtain ⟨a, ha, rfl, hI⟩ := hrel
    by_cases hlt : a < L.length
    · have i0 : ¬ (a : Int) < 0 := by omega
      have i1 : (a : Int) < L.length := by omega
      obtain ⟨M, m1, m2, mo, mb⟩ : SmI w w.heap.size (A5.elim 0 Addr.block) n5 L a wr := by
        rcases hI with h | ⟨h, _⟩
        · exact h
        · rw [h] at hlt
          simp at hlt
      clear hI
      obtain ⟨g, rfl, hg⟩ := AF.out (by omega)
      replace mo : wr.ownsRow w.heap.size 33 8 (.slice (some ⟨g, 0, none⟩) L.length n5) L.length (flat Ent.cs M) := mo
      obtain ⟨g0, g1, gf, gc⟩ := owns_at mo
      obtain ⟨e, he⟩ : ∃ e, L[a]? = some e := ⟨_, List.getElem?_eq_getElem hlt⟩
      obtain ⟨b5, o5, cap5, e5, _, hb5, hx5⟩ := (ownsRow_slOf (xs := M) ent_len (by rw [m1]; exact mo)).at_ (by omega)
      simp only [Value.slice.injEq, Option.some.injEq, Addr.mk.injEq, true_and, and_true] at e5
      obtain ⟨⟨rfl, rfl⟩, -, rfl⟩ := e5
      obtain ⟨b6, o6, cap6, e6, _, hb6, hx6⟩ := (HE.out.below mb).at_ (by omega)
      simp only [Value.slice.injEq, true_and] at e6
      obtain ⟨rfl, rfl⟩ := e6
      have he5 := (m2 a (Nat.le_refl _)).trans he
      have x0 := hx5 a e he5 0 _ rfl
      have x1 := hx5 a e he5 1 _ rfl
      have x2 := hx5 a e he5 2 _ rfl
      have x3 := hx5 a e he5 3 _ rfl
      have x4 := hx5 a e he5 4 _ rfl
      have x5 := hx5 a e he5 5 _ rfl
      have x6 := hx5 a e he5 6 _ rfl
      have x7 := hx5 a e he5 7 _ rfl
      rw [Nat.zero_add] at x0 x1 x2 x3 x4 x5 x6 x7
      have y0 := hx6 a e he 0 _ rfl
      have y1 := hx6 a e he 1 _ rfl
      have y2 := hx6 a e he 2 _ rfl
      have y3 := hx6 a e he 3 _ rfl
      have y4 := hx6 a e he 4 _ rfl
      have y5 := hx6 a e he 5 _ rfl
      have y6 := hx6 a e he 6 _ rfl
      have y7 := hx6 a e he 7 _ rfl
      rw [Nat.add_zero] at x0 y0
      have f0 := gf (a * 8)
      have f1 := gf (a * 8 + 1)
      have f2 := gf (a * 8 + 2)
      have f3 := gf (a * 8 + 3)
      have f4 := gf (a * 8 + 4)
      have f5 := gf (a * 8 + 5)
      have f6 := gf (a * 8 + 6)
      have f7 := gf (a * 8 + 7)
      have ex := Ent.eq_cols e
      have PU := Lib.hid (SmI.put ⟨.zero, -7, 0, 0, 0, 0⟩ m1 m2 mo mb hg hlt)
      clear m1 m2 mo mb hx5 hx6 gf gc he he5 hb5 hb6
      go_upto_region 7 with fail
      (refine wp_region_held_drew (S := (fun Z : World => Z.cell? ⟨g, a * 8, none⟩ = some (.int .i64 e.k.k) ∧ Z.cell? ⟨g, a * 8 + 1, none⟩ = some (.int .i64 e.k.n) ∧ Z.cell? ⟨g, a * 8 + 2, none⟩ = some (.string e.k.s) ∧ Z.cell? ⟨g, a * 8 + 3, none⟩ = some (.int .i64 e.sh) ∧ Z.cell? ⟨g, a * 8 + 4, none⟩ = some (.int .i64 e.ep) ∧ Z.cell? ⟨g, a * 8 + 5, none⟩ = some (.int .i64 e.ho) ∧ Z.cell? ⟨g, a * 8 + 6, none⟩ = some (.int .i64 e.sl) ∧ Z.cell? ⟨g, a * 8 + 7, none⟩ = some (.int .i64 e.fo) ∧ Z.cell? ⟨b6, o6 + a * 8, none⟩ = some (.int .i64 e.k.k) ∧ Z.cell? ⟨b6, o6 + a * 8 + 1, none⟩ = some (.int .i64 e.k.n) ∧ Z.cell? ⟨b6, o6 + a * 8 + 2, none⟩ = some (.string e.k.s) ∧ Z.cell? ⟨b6, o6 + a * 8 + 3, none⟩ = some (.int .i64 e.sh) ∧ Z.cell? ⟨b6, o6 + a * 8 + 4, none⟩ = some (.int .i64 e.ep) ∧ Z.cell? ⟨b6, o6 + a * 8 + 5, none⟩ = some (.int .i64 e.ho) ∧ Z.cell? ⟨b6, o6 + a * 8 + 6, none⟩ = some (.int .i64 e.sl) ∧ Z.cell? ⟨b6, o6 + a * 8 + 7, none⟩ = some (.int .i64 e.fo))) Try.mixed (by (and_intros <;> go_simp)) (fun hS => ?_); (refine wpAnyH_take (i := 0) (v := ?_) rfl (by kernel_rfl) (by kernel_rfl) (by kernel_rfl) (fun _ _ _ h => h) ?_ (by assumption) ?_; rotate_left; (next => (refine Or.inl ⟨by kernel_rfl, ?_⟩; ((intro w hSw; (try dsimp only at hSw); go_simp) <;> with_reducible rfl))); (try simp only [Act.put, List.setIfInBounds_toArray, List.set_cons_zero, List.set_cons_succ])); (refine wpAnyH_take (i := 1) (v := ?_) rfl (by kernel_rfl) (by kernel_rfl) (by kernel_rfl) (fun _ _ _ h => h) ?_ (by assumption) ?_; rotate_left; (next => (refine Or.inl ⟨by kernel_rfl, ?_⟩; ((intro w hSw; (try dsimp only at hSw); go_simp) <;> with_reducible rfl))); (try simp only [Act.put, List.setIfInBounds_toArray, List.set_cons_zero, List.set_cons_succ])); (refine wpAnyH_take (i := 2) (v := ?_) rfl (by kernel_rfl) (by kernel_rfl) (by kernel_rfl) (fun _ _ _ h => h) ?_ (by assumption) ?_; rotate_left; (next => (refine Or.inl ⟨by kernel_rfl, ?_⟩; ((intro w hSw; (try dsimp only at hSw); go_simp) <;> with_reducible rfl))); (try simp only [Act.put, List.setIfInBounds_toArray, List.set_cons_zero, List.set_cons_succ])); (refine wpAnyH_take (i := 3) (v := ?_) rfl (by kernel_rfl) (by kernel_rfl) (by kernel_rfl) (fun _ _ _ h => h) ?_ (by assumption) ?_; rotate_left; (next => (refine Or.inl ⟨by kernel_rfl, ?_⟩; ((intro w hSw; (try dsimp only at hSw); go_simp) <;> with_reducible rfl))); (try simp only [Act.put, List.setIfInBounds_toArray, List.set_cons_zero, List.set_cons_succ])); (refine wpAnyH_take (i := 4) (v := ?_) rfl (by kernel_rfl) (by kernel_rfl) (by kernel_rfl) (fun _ _ _ h => h) ?_ (by assumption) ?_; rotate_left; (next => (refine Or.inl ⟨by kernel_rfl, ?_⟩; ((intro w hSw; (try dsimp only at hSw); go_simp) <;> with_reducible rfl))); (try simp only [Act.put, List.setIfInBounds_toArray, List.set_cons_zero, List.set_cons_succ])); (refine wpAnyH_take (i := 5) (v := ?_) rfl (by kernel_rfl) (by kernel_rfl) (by kernel_rfl) (fun _ _ _ h => h) ?_ (by assumption) ?_; rotate_left; (next => (refine Or.inl ⟨by kernel_rfl, ?_⟩; ((intro w hSw; (try dsimp only at hSw); go_simp) <;> with_reducible rfl))); (try simp only [Act.put, List.setIfInBounds_toArray, List.set_cons_zero, List.set_cons_succ])); (refine wpAnyH_take (i := 6) (v := ?_) rfl (by kernel_rfl) (by kernel_rfl) (by kernel_rfl) (fun _ _ _ h => h) ?_ (by assumption) ?_; rotate_left; (next => (refine Or.inl ⟨by kernel_rfl, ?_⟩; ((intro w hSw; (try dsimp only at hSw); go_simp) <;> with_reducible rfl))); (try simp only [Act.put, List.setIfInBounds_toArray, List.set_cons_zero, List.set_cons_succ])); (refine wpAnyH_take (i := 7) (v := ?_) rfl (by kernel_rfl) (by kernel_rfl) (by kernel_rfl) (fun _ _ _ h => h) ?_ (by assumption) ?_; rotate_left; (next => (refine Or.inl ⟨by kernel_rfl, ?_⟩; ((intro w hSw; (try dsimp only at hSw); go_simp) <;> with_reducible rfl))); (try simp only [Act.put, List.setIfInBounds_toArray, List.set_cons_zero, List.set_cons_succ])); refine wpAnyH_ready (rs := [8]) (by kernel_rfl) (by simp) ?_; refine AllReadyH.cons rfl (fun K hK => ?_) AllReadyH.nil; go_simp; refine hK.out _ _ (by (and_intros <;> go_simp)) (fun hS => ?_); clear hK K; (try simp only [Act.put, List.setIfInBounds_toArray, List.set_cons_zero, List.set_cons_succ]); refine wpAnyH_done (by kernel_rfl) ?_ _)
      go_simp
      clear hS
      go_wp2
      go_roundw
      case rel => exact ⟨a + 1, by omega, by go_num, by first | exact .inl PU.out.drew | exact .inl PU.out⟩
      case measure => simp [intOf]; omega
    · have i1 : ¬ (a : Int) < L.length := by omega
      have hb : Below w.heap.size w wr := by
        rcases hI with ⟨_, _, _, _, h⟩ | ⟨_, h⟩
        · exact h
        · exact h
      have HB := Lib.hid hb
      clear hI hb
      go_wp2
      go_ret
      exact ⟨rfl, by (repeat (with_reducible first | exact HB.out | exact Below.refl _ _ | refine bl_rapp ?_ | (refine bl_set ?_ (by first | omega | (simp; done) | (simp; omega)) _) | refine bl_gr ?_ _ | refine bl_al ?_ _ | refine bl_drewN ?_ _ | refine Below.drew ?_))⟩
end Go.Proofs.Ytbgcjgnhblhohaa
