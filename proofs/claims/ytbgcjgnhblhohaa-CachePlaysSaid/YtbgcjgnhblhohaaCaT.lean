/- Inline caches: the reference's Look. -/
import Derived.Test.YtbgcjgnhblhohaaCaS
namespace Go.Proofs.Ytbgcjgnhblhohaa
set_option linter.all false
open Go.RowKit Go.Sort Go.Deep Go.Shelf

/-- the first that fits, searched place by place -/
theorem find_here {l : List Ent} {q : Ent → Bool} {k : Nat} {e : Ent} (hp : ∀ j x, j < k → l[j]? = some x → q x = false) (he : l[k]? = some e) (hq : q e = true) : l.find? q = some e ∧ l.findIdx? q = some k := by
  obtain ⟨hk, rfl⟩ := List.getElem?_eq_some_iff.1 he
  constructor
  · rw [List.find?_eq_some_iff_getElem]
    exact ⟨hq, k, hk, rfl, fun j hj => by rw [hp j _ hj (List.getElem?_eq_getElem (by omega))]; rfl⟩
  · rw [List.findIdx?_eq_some_iff_getElem]
    exact ⟨hk, hq, fun j hj => by rw [hp j _ hj (List.getElem?_eq_getElem (by omega))]; decide⟩
theorem find_no {l : List Ent} {q : Ent → Bool} (hp : ∀ j x, j < l.length → l[j]? = some x → q x = false) : l.find? q = none ∧ l.findIdx? q = none := by
  have h : ∀ x ∈ l, q x = false := fun x hx => by
    obtain ⟨i, hi, rfl⟩ := List.getElem_of_mem hx
    exact hp i _ hi (List.getElem?_eq_getElem hi)
  constructor
  · rw [List.find?_eq_none]
    intro x hx
    rw [h x hx]
    decide
  · rw [List.findIdx?_eq_none_iff]
    exact h
def RetRLook (c : CacheD) (n : Int) (k : Val) (sh ep : Int) (w : World) (e : Ending) (w' : World) : Prop :=
  ∃ sv, e = .returned (.tuple #[refV c.most sv (lookC c n k sh ep).hits (lookC c n k sh ep).miss, ((lookS c n k sh ep).getD .zero).agg, .bool (lookS c n k sh ep).isSome]) ∧ IsR w' sv c.sites ∧ Below w.heap.size w w'

/-- the two results that lie in memory are written -/
def RlE (w : World) (b2 b3 : Nat) (m x y : Int) (sv : Value) (e : Ent) (Z : World) : Prop := Z.heap[b2]? = some (refO m sv x y) ∧ Z.heap[b3]? = some (entO e 25) ∧ Below w.heap.size w Z
theorem RlE.drew {w : World} {b2 b3 : Nat} {m x y : Int} {sv : Value} {e : Ent} {Z : World} (h : RlE w b2 b3 m x y sv e Z) : RlE w b2 b3 m x y sv e Z.drew := by
  obtain ⟨h1, h2, h3⟩ := h
  exact ⟨h1, h2, h3.drew⟩
theorem rl_end {w Y : World} {b2 b3 k n : Nat} {m0 x0 y0 m x y : Int} {A : Option Addr} {sv : Value} {e0 e : Ent} (h2 : Y.heap[b2]? = some (refO m0 (.slice A n k) x0 y0)) (h3 : Y.heap[b3]? = some (entO e0 25)) (hn : b2 ≠ b3) (l2 : w.heap.size ≤ b2) (l3 : w.heap.size ≤ b3) (hY : Below w.heap.size w Y) :
    RlE w b2 b3 m x y sv e (put8 (put4 Y b2 m sv x y) b3 0 e) := by
  obtain ⟨p1, p2⟩ := put4_all (m := m) (x := x) (y := y) (sv := sv) h2
  have q2 := put8_touch (put4 Y b2 m sv x y) b3 0 e
  have q1 := put8_heap (e := e) ((p2.block b3 (Array.getElem?_eq_some_iff.1 h3).1 (fun h => hn h.symm)).trans h3)
  have hp := hY.trans (p2.below hY.size (by omega))
  exact ⟨(q2.block b2 (Array.getElem?_eq_some_iff.1 p1).1 hn).trans p1, q1, hp.trans (q2.below hp.size (by omega))⟩

set_option maxRecDepth 100000 in
set_option maxHeartbeats 8000000 in
theorem rlook_any (c : CacheD) (sv : Value) (n : Int) (k : Val) (sh ep : Int) (hh0 : 0 ≤ c.hits) (hh1 : c.hits < 1000000) (hm0 : 0 ≤ c.miss) (hm1 : c.miss < 1000000) (h4 : ∀ s ∈ c.sites, s.l.length ≤ 4) (w : World) (hR : IsR w sv c.sites) :
    Calls Try.prog 24 #[refV c.most sv c.hits c.miss, .int .i64 n, k.agg, .int .i64 sh, .int .i64 ep] w (RetRLook c n k sh ep w) := by
  obtain ⟨A, cap, rfl, _, _⟩ := hR.form
  have H := Lib.hid hR
  cases hs : siteD c n with
  | none =>
    have E := Lib.hid (show lookC c n k sh ep = c ∧ lookS c n k sh ep = none by simp [lookC, lookS, hs])
    have HA := Lib.hid (fun W => hasC (W := w) hR false (by rw [hs]; rfl) c.most c.hits c.miss W)
    clear hs hR
    go_enter Try.func24, Try.ntmps24
    go_wp2_with (go_at_call 31; refine (callGr (HA.out _)).mono ?_; rintro e w' ⟨pp, rfl, rfl⟩)
    refine bodyPost_ret (v := .tuple #[refV c.most (.slice A c.sites.length cap) c.hits c.miss, Ent.zero.agg, .bool false]) (by simp [results, Try.results24, go_sem]) rfl ⟨_, by rw [E.out.1, E.out.2]; rfl, H.out.below (by (repeat (with_reducible first | exact Below.refl _ _ | (refine bl_set ?_ (by first | omega | (simp; done) | (simp; omega)) _) | refine bl_gr ?_ _ | refine bl_al ?_ _ | refine below_setRow ?_ (by first | omega | (simp; done) | (simp; omega)) _ | refine bl_drewN ?_ _ | refine Below.drew ?_ | (refine bl_tr ?_ (by assumption))))), by (repeat (with_reducible first | exact Below.refl _ _ | (refine bl_set ?_ (by first | omega | (simp; done) | (simp; omega)) _) | refine bl_gr ?_ _ | refine bl_al ?_ _ | refine below_setRow ?_ (by first | omega | (simp; done) | (simp; omega)) _ | refine bl_drewN ?_ _ | refine Below.drew ?_ | (refine bl_tr ?_ (by assumption))))⟩
  | some st =>
    obtain ⟨j, rfl, hj, hsj⟩ := siteD_some hs
    have h44 := h4 st (List.mem_of_getElem? hsj)
    obtain ⟨b, off, cap', A2, n2, e, hb, c0, c1, hE⟩ := hR.at_ hsj
    simp only [Value.slice.injEq, true_and] at e
    obtain ⟨rfl, rfl⟩ := e
    have HA := Lib.hid (fun W => hasC (W := w) hR true (by rw [hs]; rfl) c.most c.hits c.miss W)
    have HE := Lib.hid (And.intro hE (And.intro c1 hb))
    have HS := Lib.hid hs
    have j0 : ¬ (j : Int) < 0 := by omega
    have j1 : (j : Int) < c.sites.length := by omega
    clear hs hR hsj hE c0 c1 h4
    go_enter Try.func24, Try.ntmps24
    go_upto_region 3 with (go_at_call 31; refine (callGr (HA.out _)).mono ?_; rintro e w' ⟨pp, rfl, rfl⟩)
    refine wp_world (fun W => Lays w.heap.size [(#[.int .i64 c.most, .slice (some ⟨b, off, none⟩) c.sites.length cap, .int .i64 c.hits, .int .i64 c.miss], 50), (#[.int .i64 k.k, .int .i64 k.n, .string k.s], 23), (#[.int .i64 0, .slice none 0 0, .int .i64 0, .int .i64 0], 50), (entA .zero, 25)] W ∧ Below w.heap.size w W) (by
      have h := laysN w [(#[.int .i64 c.most, .slice (some ⟨b, off, none⟩) c.sites.length cap, .int .i64 c.hits, .int .i64 c.miss], 50), (#[.int .i64 k.k, .int .i64 k.n, .string k.s], 23), (#[.int .i64 0, .slice none 0 0, .int .i64 0, .int .i64 0], 50), (entA .zero, 25)]
      exact ⟨h.2.2.below (below_gr _ _), bl_tr h.2.1 (below_gr _ _)⟩) ?_
    rintro W ⟨hh, jb⟩
    obtain ⟨z0, z1, z2, z3⟩ := lays4 hh
    have J := Lib.hid (And.intro hh jb)
    have l3 : w.heap.size + 1 + 1 + 1 < W.heap.size := (Array.getElem?_eq_some_iff.1 z3).1
    have KW := Lib.hid (show ∀ Z, Below W.heap.size W Z → Lays w.heap.size [(#[.int .i64 c.most, .slice (some ⟨b, off, none⟩) c.sites.length cap, .int .i64 c.hits, .int .i64 c.miss], 50), (#[.int .i64 k.k, .int .i64 k.n, .string k.s], 23), (#[.int .i64 0, .slice none 0 0, .int .i64 0, .int .i64 0], 50), (entA .zero, 25)] Z from fun Z hZ => hh.below hZ)
    obtain ⟨⟨a0, a1, a2, a3⟩, _⟩ := cells4 z0
    have c1 : W.cell? ⟨b, off + j * 2 + 1, none⟩ = some (.slice A2 st.l.length n2) := (jb.cell (p := ⟨b, _, none⟩) HE.out.2.2).trans HE.out.2.1
    have lb : b < W.heap.size := Nat.lt_of_lt_of_le HE.out.2.2 jb.size
    clear z0 z1 z2 z3 hh jb
    go_wp2
    go_loopw [14] (fun i wr => ∃ q : Nat, q ≤ st.l.length ∧ i = .int .i64 q ∧ Hid (∀ p x, p < q → st.l[p]? = some x → fitB x k sh ep = false) ∧ Below W.heap.size W wr) (fun i _ => st.l.length - (intOf i).toNat)
    case atStart => exact ⟨0, by omega, rfl, Lib.hid (fun p x hp _ => by omega), Below.refl _ _⟩
    case round =>
      obtain ⟨q, hq, rfl, HQ, hB⟩ := hrel
      have HB := Lib.hid hB
      have BW := Lib.hid (bl_tr J.out.2 hB)
      clear hB a0 a1 a2 a3 c1
      by_cases hlt : q < st.l.length
      · have q0 : ¬ (q : Int) < 0 := by omega
        have q1 : (q : Int) < st.l.length := by omega
        obtain ⟨b5, o5, cap5, e5, _, hb5, hx5⟩ := HE.out.1.at_ (by omega)
        simp only [Value.slice.injEq, true_and] at e5
        obtain ⟨rfl, rfl⟩ := e5
        obtain ⟨x, hx⟩ : ∃ x, st.l[q]? = some x := ⟨_, List.getElem?_eq_getElem hlt⟩
        have KL := Lib.hid (show ∀ Z, Below w.heap.size w Z → Z.cell? ⟨b5, o5 + q * 8, none⟩ = some (.int .i64 x.k.k) ∧ Z.cell? ⟨b5, o5 + q * 8 + 1, none⟩ = some (.int .i64 x.k.n) ∧ Z.cell? ⟨b5, o5 + q * 8 + 2, none⟩ = some (.string x.k.s) ∧ Z.cell? ⟨b5, o5 + q * 8 + 3, none⟩ = some (.int .i64 x.sh) ∧ Z.cell? ⟨b5, o5 + q * 8 + 4, none⟩ = some (.int .i64 x.ep) ∧ Z.cell? ⟨b5, o5 + q * 8 + 5, none⟩ = some (.int .i64 x.ho) ∧ Z.cell? ⟨b5, o5 + q * 8 + 6, none⟩ = some (.int .i64 x.sl) ∧ Z.cell? ⟨b5, o5 + q * 8 + 7, none⟩ = some (.int .i64 x.fo) from fun Z hZ =>
          ⟨(hZ.cell (p := ⟨b5, _, none⟩) hb5).trans (hx5 q x hx 0 _ rfl), (hZ.cell (p := ⟨b5, _, none⟩) hb5).trans (hx5 q x hx 1 _ rfl), (hZ.cell (p := ⟨b5, _, none⟩) hb5).trans (hx5 q x hx 2 _ rfl), (hZ.cell (p := ⟨b5, _, none⟩) hb5).trans (hx5 q x hx 3 _ rfl), (hZ.cell (p := ⟨b5, _, none⟩) hb5).trans (hx5 q x hx 4 _ rfl), (hZ.cell (p := ⟨b5, _, none⟩) hb5).trans (hx5 q x hx 5 _ rfl), (hZ.cell (p := ⟨b5, _, none⟩) hb5).trans (hx5 q x hx 6 _ rfl), (hZ.cell (p := ⟨b5, _, none⟩) hb5).trans (hx5 q x hx 7 _ rfl)⟩)
        have HX := Lib.hid hx
        have hE5 := hb5
        clear hb5 hx5 hx
        cases hf : fitB x k sh ep
        · have FI := Lib.hid (fun W => by have := fits_any x k sh ep W; rw [hf] at this; exact this : ∀ W, Calls Try.prog 13 #[x.agg, k.agg, .int .i64 sh, .int .i64 ep] W fun e w' => e = .returned (.bool false) ∧ Below W.heap.size W w')
          have HF := Lib.hid hf
          clear hf
          go_upto_region 7 with fail
          (refine wp_region_held_drew (S := (fun Z : World => Below W.heap.size W Z)) Try.mixed (by ((repeat (with_reducible first | exact HB.out | exact Below.refl _ _ | refine bl_rapp ?_ | (refine bl_set ?_ (by first | omega | (simp; done) | (simp; omega)) _) | refine bl_gr ?_ _ | refine bl_al ?_ _ | refine bl_drewN ?_ _ | refine Below.drew ?_)))) (fun hS => ?_); (refine wpAnyH_take (i := 0) (v := ?_) rfl (by kernel_rfl) (by kernel_rfl) (by kernel_rfl) (fun _ _ _ h => h) ?_ (by assumption) ?_; rotate_left; (next => (refine Or.inl ⟨by kernel_rfl, ?_⟩; ((intro w hSw; (try dsimp only at hSw); go_simp) <;> with_reducible rfl))); (try simp only [Act.put, List.setIfInBounds_toArray, List.set_cons_zero, List.set_cons_succ])); (refine wpAnyH_take (i := 1) (v := ?_) rfl (by kernel_rfl) (by kernel_rfl) (by kernel_rfl) (fun _ _ _ h => h) ?_ (by assumption) ?_; rotate_left; (next => (refine Or.inl ⟨by kernel_rfl, ?_⟩; ((intro w hSw; (try dsimp only at hSw); go_simp) <;> with_reducible rfl))); (try simp only [Act.put, List.setIfInBounds_toArray, List.set_cons_zero, List.set_cons_succ])); (refine wpAnyH_take (i := 2) (v := ?_) rfl (by kernel_rfl) (by kernel_rfl) (by kernel_rfl) (fun _ _ _ h => h) ?_ (by assumption) ?_; rotate_left; (next => (refine Or.inl ⟨by kernel_rfl, ?_⟩; ((intro w hSw; (try dsimp only at hSw); go_simp) <;> with_reducible rfl))); (try simp only [Act.put, List.setIfInBounds_toArray, List.set_cons_zero, List.set_cons_succ])); (refine wpAnyH_take (i := 3) (v := ?_) rfl (by kernel_rfl) (by kernel_rfl) (by kernel_rfl) (fun _ _ _ h => h) ?_ (by assumption) ?_; rotate_left; (next => (refine Or.inl ⟨by kernel_rfl, ?_⟩; ((intro w hSw; (try dsimp only at hSw); (obtain ⟨r0, r1, r2, r3, r4, r5, r6, r7⟩ := KL.out _ (bl_tr J.out.2 hSw); obtain ⟨_, z1, _, _⟩ := lays4 (KW.out _ hSw); obtain ⟨k0, k1, k2⟩ := cells3 z1); go_simp) <;> with_reducible rfl))); (try simp only [Act.put, List.setIfInBounds_toArray, List.set_cons_zero, List.set_cons_succ])); (refine wpAnyH_take (i := 4) (v := ?_) rfl (by kernel_rfl) (by kernel_rfl) (by kernel_rfl) (fun _ _ _ h => h) ?_ (by assumption) ?_; rotate_left; (next => (refine Or.inl ⟨by kernel_rfl, ?_⟩; ((intro w hSw; (try dsimp only at hSw); (obtain ⟨r0, r1, r2, r3, r4, r5, r6, r7⟩ := KL.out _ (bl_tr J.out.2 hSw); obtain ⟨_, z1, _, _⟩ := lays4 (KW.out _ hSw); obtain ⟨k0, k1, k2⟩ := cells3 z1); go_simp) <;> with_reducible rfl))); (try simp only [Act.put, List.setIfInBounds_toArray, List.set_cons_zero, List.set_cons_succ])); (refine wpAnyH_take (i := 5) (v := ?_) rfl (by kernel_rfl) (by kernel_rfl) (by kernel_rfl) (fun _ _ _ h => h) ?_ (by assumption) ?_; rotate_left; (next => (refine Or.inl ⟨by kernel_rfl, ?_⟩; ((intro w hSw; (try dsimp only at hSw); go_simp) <;> with_reducible rfl))); (try simp only [Act.put, List.setIfInBounds_toArray, List.set_cons_zero, List.set_cons_succ])); (refine wpAnyH_take (i := 6) (v := ?_) rfl (by kernel_rfl) (by kernel_rfl) (by kernel_rfl) (fun _ _ _ h => h) ?_ (by assumption) ?_; rotate_left; (next => (refine Or.inl ⟨by kernel_rfl, ?_⟩; ((intro w hSw; (try dsimp only at hSw); go_simp) <;> with_reducible rfl))); (try simp only [Act.put, List.setIfInBounds_toArray, List.set_cons_zero, List.set_cons_succ])); refine wpAnyH_ready (rs := [7]) (by kernel_rfl) (by simp) ?_; refine AllReadyH.cons rfl (fun K hK => ?_) AllReadyH.nil; go_simp; (((go_at_call 13; refine (callGr (FI.out _)).mono ?_; rintro e w' ⟨pp, rfl, rfl⟩))); refine hK.out _ _ (by ((repeat (with_reducible first | exact HB.out | exact Below.refl _ _ | refine bl_rapp ?_ | (refine bl_set ?_ (by first | omega | (simp; done) | (simp; omega)) _) | refine bl_gr ?_ _ | refine bl_al ?_ _ | refine bl_drewN ?_ _ | refine Below.drew ?_)))) (fun hS => ?_); clear hK K; (try simp only [Act.put, List.setIfInBounds_toArray, List.set_cons_zero, List.set_cons_succ]); refine wpAnyH_done (by kernel_rfl) ?_ _)
          go_simp
          clear hS
          go_wp2
          go_roundw
          case rel => exact ⟨q + 1, by omega, by go_num, Lib.hid (fun p y hp hy => by
            by_cases h : p = q
            · subst h
              rw [HX.out] at hy
              cases hy
              exact HF.out
            · exact HQ.out p y (by omega) hy), by (repeat (with_reducible first | exact HB.out | exact Below.refl _ _ | refine bl_rapp ?_ | (refine bl_set ?_ (by first | omega | (simp; done) | (simp; omega)) _) | refine bl_gr ?_ _ | refine bl_al ?_ _ | refine bl_drewN ?_ _ | refine Below.drew ?_))⟩
          case measure => simp [intOf]; omega
        · have FI := Lib.hid (fun W => by have := fits_any x k sh ep W; rw [hf] at this; exact this : ∀ W, Calls Try.prog 13 #[x.agg, k.agg, .int .i64 sh, .int .i64 ep] W fun e w' => e = .returned (.bool true) ∧ Below W.heap.size W w')
          have HF := Lib.hid (find_here (q := fun y => fitB y k sh ep) HQ.out HX.out hf).1
          clear hf
          go_upto_region 7 with fail
          (refine wp_region_held_drew (S := (fun Z : World => Below W.heap.size W Z)) Try.mixed (by ((repeat (with_reducible first | exact HB.out | exact Below.refl _ _ | refine bl_rapp ?_ | (refine bl_set ?_ (by first | omega | (simp; done) | (simp; omega)) _) | refine bl_gr ?_ _ | refine bl_al ?_ _ | refine bl_drewN ?_ _ | refine Below.drew ?_)))) (fun hS => ?_); (refine wpAnyH_take (i := 0) (v := ?_) rfl (by kernel_rfl) (by kernel_rfl) (by kernel_rfl) (fun _ _ _ h => h) ?_ (by assumption) ?_; rotate_left; (next => (refine Or.inl ⟨by kernel_rfl, ?_⟩; ((intro w hSw; (try dsimp only at hSw); go_simp) <;> with_reducible rfl))); (try simp only [Act.put, List.setIfInBounds_toArray, List.set_cons_zero, List.set_cons_succ])); (refine wpAnyH_take (i := 1) (v := ?_) rfl (by kernel_rfl) (by kernel_rfl) (by kernel_rfl) (fun _ _ _ h => h) ?_ (by assumption) ?_; rotate_left; (next => (refine Or.inl ⟨by kernel_rfl, ?_⟩; ((intro w hSw; (try dsimp only at hSw); go_simp) <;> with_reducible rfl))); (try simp only [Act.put, List.setIfInBounds_toArray, List.set_cons_zero, List.set_cons_succ])); (refine wpAnyH_take (i := 2) (v := ?_) rfl (by kernel_rfl) (by kernel_rfl) (by kernel_rfl) (fun _ _ _ h => h) ?_ (by assumption) ?_; rotate_left; (next => (refine Or.inl ⟨by kernel_rfl, ?_⟩; ((intro w hSw; (try dsimp only at hSw); go_simp) <;> with_reducible rfl))); (try simp only [Act.put, List.setIfInBounds_toArray, List.set_cons_zero, List.set_cons_succ])); (refine wpAnyH_take (i := 3) (v := ?_) rfl (by kernel_rfl) (by kernel_rfl) (by kernel_rfl) (fun _ _ _ h => h) ?_ (by assumption) ?_; rotate_left; (next => (refine Or.inl ⟨by kernel_rfl, ?_⟩; ((intro w hSw; (try dsimp only at hSw); (obtain ⟨r0, r1, r2, r3, r4, r5, r6, r7⟩ := KL.out _ (bl_tr J.out.2 hSw); obtain ⟨_, z1, _, _⟩ := lays4 (KW.out _ hSw); obtain ⟨k0, k1, k2⟩ := cells3 z1); go_simp) <;> with_reducible rfl))); (try simp only [Act.put, List.setIfInBounds_toArray, List.set_cons_zero, List.set_cons_succ])); (refine wpAnyH_take (i := 4) (v := ?_) rfl (by kernel_rfl) (by kernel_rfl) (by kernel_rfl) (fun _ _ _ h => h) ?_ (by assumption) ?_; rotate_left; (next => (refine Or.inl ⟨by kernel_rfl, ?_⟩; ((intro w hSw; (try dsimp only at hSw); (obtain ⟨r0, r1, r2, r3, r4, r5, r6, r7⟩ := KL.out _ (bl_tr J.out.2 hSw); obtain ⟨_, z1, _, _⟩ := lays4 (KW.out _ hSw); obtain ⟨k0, k1, k2⟩ := cells3 z1); go_simp) <;> with_reducible rfl))); (try simp only [Act.put, List.setIfInBounds_toArray, List.set_cons_zero, List.set_cons_succ])); (refine wpAnyH_take (i := 5) (v := ?_) rfl (by kernel_rfl) (by kernel_rfl) (by kernel_rfl) (fun _ _ _ h => h) ?_ (by assumption) ?_; rotate_left; (next => (refine Or.inl ⟨by kernel_rfl, ?_⟩; ((intro w hSw; (try dsimp only at hSw); go_simp) <;> with_reducible rfl))); (try simp only [Act.put, List.setIfInBounds_toArray, List.set_cons_zero, List.set_cons_succ])); (refine wpAnyH_take (i := 6) (v := ?_) rfl (by kernel_rfl) (by kernel_rfl) (by kernel_rfl) (fun _ _ _ h => h) ?_ (by assumption) ?_; rotate_left; (next => (refine Or.inl ⟨by kernel_rfl, ?_⟩; ((intro w hSw; (try dsimp only at hSw); go_simp) <;> with_reducible rfl))); (try simp only [Act.put, List.setIfInBounds_toArray, List.set_cons_zero, List.set_cons_succ])); refine wpAnyH_ready (rs := [7]) (by kernel_rfl) (by simp) ?_; refine AllReadyH.cons rfl (fun K hK => ?_) AllReadyH.nil; go_simp; (((go_at_call 13; refine (callGr (FI.out _)).mono ?_; rintro e w' ⟨pp, rfl, rfl⟩))); refine hK.out _ _ (by ((repeat (with_reducible first | exact HB.out | exact Below.refl _ _ | refine bl_rapp ?_ | (refine bl_set ?_ (by first | omega | (simp; done) | (simp; omega)) _) | refine bl_gr ?_ _ | refine bl_al ?_ _ | refine bl_drewN ?_ _ | refine Below.drew ?_)))) (fun hS => ?_); clear hK K; (try simp only [Act.put, List.setIfInBounds_toArray, List.set_cons_zero, List.set_cons_succ]); refine wpAnyH_done (by kernel_rfl) ?_ _)
          go_simp
          clear hS
          go_upto_region 8 with fail
          refine wp_world (fun Z => Below W.heap.size W Z) (by (repeat (with_reducible first | exact HB.out | exact Below.refl _ _ | refine bl_rapp ?_ | (refine bl_set ?_ (by first | omega | (simp; done) | (simp; omega)) _) | refine bl_gr ?_ _ | refine bl_al ?_ _ | refine bl_drewN ?_ _ | refine Below.drew ?_))) ?_
          rintro Z hZ
          obtain ⟨z0, _, z2, z3⟩ := lays4 (KW.out Z hZ)
          have ZB := Lib.hid (And.intro z0 (And.intro z2 (And.intro z3 hZ)))
          obtain ⟨⟨a0, a1, a2, a3⟩, f0, f1, f2, f3⟩ := cells4 z0
          have lZ := hZ.size
          clear z0 z2 z3 hZ
          go_upto_region 9 with fail
          refine wp_world (fun Y => Y.heap[w.heap.size]? = some (refO c.most (.slice (some ⟨b, off, none⟩) c.sites.length cap) (c.hits + 1) c.miss) ∧ Y.heap[w.heap.size + 1 + 1]? = some (refO 0 (.slice none 0 0) 0 0) ∧ Y.heap[w.heap.size + 1 + 1 + 1]? = some (entO .zero 25) ∧ Below w.heap.size w Y) (by
            have T := (Touch.refl (fun k => k = w.heap.size) Z).set1 2 (.int .i64 (c.hits + 1))
            have hb' := bl_tr J.out.2 ZB.out.2.2.2
            exact ⟨heap_setCell_same _ _ _ _ _ _ ZB.out.1, (T.block _ (by omega) (by omega)).trans ZB.out.2.1, (T.block _ (by omega) (by omega)).trans ZB.out.2.2.1, hb'.trans (T.below hb'.size (by omega))⟩) ?_
          rintro Y ⟨z0, z2, z3, hY⟩
          have YB := Lib.hid (And.intro z2 (And.intro z3 hY))
          clear a0 a1 a2 a3 f0 f1 f2 f3
          obtain ⟨⟨a0, a1, a2, a3⟩, _⟩ := cells4 z0
          obtain ⟨⟨b0, b1, b2, b3⟩, f0, f1, f2, f3⟩ := cells4 z2
          obtain ⟨⟨y0, y1, y2, y3, y4, y5, y6, y7⟩, g0, g1, g2, g3, g4, g5, g6, g7⟩ := cells8 (e := .zero) z3
          obtain ⟨r0, r1, r2, r3, r4, r5, r6, r7⟩ := KL.out _ hY
          have nb2 : b5 ≠ w.heap.size + 1 + 1 := by have := HE.out.1; have := hE5; omega
          have nb3 : b5 ≠ w.heap.size + 1 + 1 + 1 := by have := hE5; omega
          clear z0 z2 z3 hY
          (refine wp_region_held_drew (S := (fun Z : World => Z.cell? ⟨w.heap.size, 0, none⟩ = some (.int .i64 c.most) ∧ Z.cell? ⟨w.heap.size, 1, none⟩ = some (.slice (some ⟨b, off, none⟩) c.sites.length cap) ∧ Z.cell? ⟨w.heap.size, 2, none⟩ = some (.int .i64 (c.hits + 1)) ∧ Z.cell? ⟨w.heap.size, 3, none⟩ = some (.int .i64 c.miss) ∧ Z.cell? ⟨b5, o5 + q * 8, none⟩ = some (.int .i64 x.k.k) ∧ Z.cell? ⟨b5, o5 + q * 8 + 1, none⟩ = some (.int .i64 x.k.n) ∧ Z.cell? ⟨b5, o5 + q * 8 + 2, none⟩ = some (.string x.k.s) ∧ Z.cell? ⟨b5, o5 + q * 8 + 3, none⟩ = some (.int .i64 x.sh) ∧ Z.cell? ⟨b5, o5 + q * 8 + 4, none⟩ = some (.int .i64 x.ep) ∧ Z.cell? ⟨b5, o5 + q * 8 + 5, none⟩ = some (.int .i64 x.ho) ∧ Z.cell? ⟨b5, o5 + q * 8 + 6, none⟩ = some (.int .i64 x.sl) ∧ Z.cell? ⟨b5, o5 + q * 8 + 7, none⟩ = some (.int .i64 x.fo))) Try.mixed (by (and_intros <;> go_simp)) (fun hS => ?_); (refine wpAnyH_take (i := 0) (v := ?_) rfl (by kernel_rfl) (by kernel_rfl) (by kernel_rfl) (fun _ _ _ h => h) ?_ (by assumption) ?_; rotate_left; (next => (refine Or.inl ⟨by kernel_rfl, ?_⟩; ((intro w hSw; (try dsimp only at hSw); go_simp) <;> with_reducible rfl))); (try simp only [Act.put, List.setIfInBounds_toArray, List.set_cons_zero, List.set_cons_succ])); (refine wpAnyH_take (i := 1) (v := ?_) rfl (by kernel_rfl) (by kernel_rfl) (by kernel_rfl) (fun _ _ _ h => h) ?_ (by assumption) ?_; rotate_left; (next => (refine Or.inl ⟨by kernel_rfl, ?_⟩; ((intro w hSw; (try dsimp only at hSw); go_simp) <;> with_reducible rfl))); (try simp only [Act.put, List.setIfInBounds_toArray, List.set_cons_zero, List.set_cons_succ])); (refine wpAnyH_take (i := 2) (v := ?_) rfl (by kernel_rfl) (by kernel_rfl) (by kernel_rfl) (fun _ _ _ h => h) ?_ (by assumption) ?_; rotate_left; (next => (refine Or.inl ⟨by kernel_rfl, ?_⟩; ((intro w hSw; (try dsimp only at hSw); go_simp) <;> with_reducible rfl))); (try simp only [Act.put, List.setIfInBounds_toArray, List.set_cons_zero, List.set_cons_succ])); (refine wpAnyH_take (i := 3) (v := ?_) rfl (by kernel_rfl) (by kernel_rfl) (by kernel_rfl) (fun _ _ _ h => h) ?_ (by assumption) ?_; rotate_left; (next => (refine Or.inl ⟨by kernel_rfl, ?_⟩; ((intro w hSw; (try dsimp only at hSw); go_simp) <;> with_reducible rfl))); (try simp only [Act.put, List.setIfInBounds_toArray, List.set_cons_zero, List.set_cons_succ])); (refine wpAnyH_take (i := 4) (v := ?_) rfl (by kernel_rfl) (by kernel_rfl) (by kernel_rfl) (fun _ _ _ h => h) ?_ (by assumption) ?_; rotate_left; (next => (refine Or.inl ⟨by kernel_rfl, ?_⟩; ((intro w hSw; (try dsimp only at hSw); go_simp) <;> with_reducible rfl))); (try simp only [Act.put, List.setIfInBounds_toArray, List.set_cons_zero, List.set_cons_succ])); refine wpAnyH_ready (rs := [5]) (by kernel_rfl) (by simp) ?_; refine AllReadyH.cons rfl (fun K hK => ?_) AllReadyH.nil; go_simp; refine hK.out _ _ (by (and_intros <;> go_simp)) (fun hS => ?_); clear hK K; (try simp only [Act.put, List.setIfInBounds_toArray, List.set_cons_zero, List.set_cons_succ]); refine wpAnyH_ready (rs := [6]) (by kernel_rfl) (by simp) ?_; refine AllReadyH.cons rfl (fun K hK => ?_) AllReadyH.nil; go_simp; refine hK.out _ _ (by (and_intros <;> go_simp)) (fun hS => ?_); clear hK K; (try simp only [Act.put, List.setIfInBounds_toArray, List.set_cons_zero, List.set_cons_succ]); (refine wpAnyH_take (i := 7) (v := ?_) rfl (by kernel_rfl) (by kernel_rfl) (by kernel_rfl) (fun _ _ _ h => h) ?_ (by assumption) ?_; rotate_left; (next => (refine Or.inl ⟨by kernel_rfl, ?_⟩; ((intro w hSw; (try dsimp only at hSw); go_simp) <;> with_reducible rfl))); (try simp only [Act.put, List.setIfInBounds_toArray, List.set_cons_zero, List.set_cons_succ])); refine wpAnyH_done (by kernel_rfl) ?_ _)
          go_simp
          clear hS
          go_wp2
          refine wp_post (RlE w (w.heap.size + 1 + 1) (w.heap.size + 1 + 1 + 1) c.most (c.hits + 1) c.miss (.slice (some ⟨b, off, none⟩) c.sites.length cap) x) (rl_end YB.out.1 YB.out.2.1 (by omega) (by omega) (by omega) YB.out.2.2).drew ?_
          rintro V ⟨z2, z3, hV⟩
          have VB := Lib.hid hV
          clear a0 a1 a2 a3 b0 b1 b2 b3 f0 f1 f2 f3 y0 y1 y2 y3 y4 y5 y6 y7 g0 g1 g2 g3 g4 g5 g6 g7 r0 r1 r2 r3 r4 r5 r6 r7 hV
          obtain ⟨⟨b0, b1, b2, b3⟩, _⟩ := cells4 z2
          obtain ⟨⟨y0, y1, y2, y3, y4, y5, y6, y7⟩, _⟩ := cells8 z3
          clear z2 z3
          have E1 : lookS c j k sh ep = some x := by simp only [lookS, HS.out]; exact HF.out
          have E2 : lookC c j k sh ep = { c with hits := c.hits + 1 } := by simp only [lookC, HS.out, HF.out]; rfl
          refine bodyPost_ret (v := .tuple #[refV c.most (.slice (some ⟨b, off, none⟩) c.sites.length cap) (c.hits + 1) c.miss, x.agg, .bool true]) (by simp [results, Try.results24, go_sem, *]) rfl ⟨_, by rw [E1, E2]; rfl, H.out.below VB.out, VB.out⟩
      · have hql : q = st.l.length := by omega
        have q1 : ¬ (q : Int) < st.l.length := by omega
        have HF := Lib.hid (find_no (q := fun y => fitB y k sh ep) (fun p x hp hx => HQ.out p x (by omega) hx)).1
        obtain ⟨z0, _, z2, z3⟩ := lays4 (KW.out wr HB.out)
        have lZ := HB.out.size
        have ZB := Lib.hid (And.intro z0 (And.intro z2 z3))
        obtain ⟨⟨a0, a1, a2, a3⟩, f0, f1, f2, f3⟩ := cells4 z0
        clear z0 z2 z3 hql
        go_upto_region 11 with fail
        refine wp_world (fun Y => Y.heap[w.heap.size]? = some (refO c.most (.slice (some ⟨b, off, none⟩) c.sites.length cap) c.hits (c.miss + 1)) ∧ Y.heap[w.heap.size + 1 + 1]? = some (refO 0 (.slice none 0 0) 0 0) ∧ Y.heap[w.heap.size + 1 + 1 + 1]? = some (entO .zero 25) ∧ Below w.heap.size w Y) (by
          have T := (Touch.refl (fun k => k = w.heap.size) wr).set1 3 (.int .i64 (c.miss + 1))
          exact ⟨heap_setCell_same _ _ _ _ _ _ ZB.out.1, (T.block _ (by omega) (by omega)).trans ZB.out.2.1, (T.block _ (by omega) (by omega)).trans ZB.out.2.2, BW.out.trans (T.below BW.out.size (by omega))⟩) ?_
        rintro Y ⟨z0, z2, z3, hY⟩
        have YB := Lib.hid (And.intro z2 (And.intro z3 hY))
        clear a0 a1 a2 a3 f0 f1 f2 f3
        obtain ⟨⟨a0, a1, a2, a3⟩, _⟩ := cells4 z0
        obtain ⟨⟨b0, b1, b2, b3⟩, f0, f1, f2, f3⟩ := cells4 z2
        obtain ⟨⟨y0, y1, y2, y3, y4, y5, y6, y7⟩, g0, g1, g2, g3, g4, g5, g6, g7⟩ := cells8 (e := .zero) z3
        clear z0 z2 z3 hY
        go_wp2
        refine wp_post (RlE w (w.heap.size + 1 + 1) (w.heap.size + 1 + 1 + 1) c.most c.hits (c.miss + 1) (.slice (some ⟨b, off, none⟩) c.sites.length cap) .zero) (rl_end YB.out.1 YB.out.2.1 (by omega) (by omega) (by omega) YB.out.2.2) ?_
        rintro V ⟨z2, z3, hV⟩
        have VB := Lib.hid hV
        clear a0 a1 a2 a3 b0 b1 b2 b3 f0 f1 f2 f3 y0 y1 y2 y3 y4 y5 y6 y7 g0 g1 g2 g3 g4 g5 g6 g7 hV
        obtain ⟨⟨b0, b1, b2, b3⟩, _⟩ := cells4 z2
        obtain ⟨⟨y0, y1, y2, y3, y4, y5, y6, y7⟩, _⟩ := cells8 (e := .zero) z3
        clear z2 z3
        have E1 : lookS c j k sh ep = none := by simp only [lookS, HS.out]; exact HF.out
        have E2 : lookC c j k sh ep = { c with miss := c.miss + 1 } := by simp only [lookC, HS.out, HF.out]; rfl
        refine bodyPost_ret (v := .tuple #[refV c.most (.slice (some ⟨b, off, none⟩) c.sites.length cap) c.hits (c.miss + 1), Ent.zero.agg, .bool false]) (by simp [results, Try.results24, go_sem, *]) rfl ⟨_, by rw [E1, E2]; rfl, H.out.below VB.out, VB.out⟩
end Go.Proofs.Ytbgcjgnhblhohaa
