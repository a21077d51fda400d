/- Property lists: the reference's Same (printed by gen26F.py). Property lists: Same (printed by gen26G.py). Property lists: rows of the call's own that are written; Hard, IsHard. -/
import Derived.Test.YtippimonpdeioaaPmA
import Derived.Test.YtippimonpdeioaaSrS
namespace Go.Proofs.Ytippimonpdeioaa
set_option linter.all false
open Go.ChangeShapes Go.WideShapes Go.ChangeAt Go.RowKit Go.Sort Go.Deep

set_option maxRecDepth 100000 in
set_option maxHeartbeats 8000000 in
theorem rsameP_any (u v : Value) (xs ys : List Prp) (hm : xs.length ≤ 3000) (w : World) (ha : IsP w u xs) (hb : IsP w v ys) : Calls Try.prog 14 #[u, v] w fun e w' => e = .returned (.bool (decide (xs = ys))) ∧ Below w.heap.size w w' := by
  obtain ⟨A, ca, rfl, _, _⟩ := ha.form
  obtain ⟨B, cb, rfl, _, _⟩ := hb.form
  by_cases hl : xs.length = ys.length
  · have HA := Lib.hid ha
    have HB := Lib.hid hb
    have HM := Lib.hid hm
    obtain ⟨n, hn⟩ : ∃ n, n = xs.length := ⟨_, rfl⟩
    rw [← hl, ← hn]
    rw [← hn] at HA
    rw [← hl, ← hn] at HB
    have NN := Lib.hid (And.intro hn hl)
    clear ha hb hm hl hn
    go_enter Try.func14, Try.ntmps14
    go_wp2
    go_loopw [5] (fun i wr => ∃ j : Nat, i = .int .i64 j ∧ Hid (j ≤ n ∧ xs.take j = ys.take j ∧ Below w.heap.size w wr)) (fun i _ => n - (intOf i).toNat)
    case atStart => exact ⟨0, rfl, Lib.hid ⟨Nat.zero_le _, by simp, Below.refl _ _⟩⟩
    case round =>
      obtain ⟨j, rfl, HI⟩ := hrel
      by_cases hlt : j < n
      · have q0 : (j : Int) < (n : Int) := by omega
        have q1 : ¬ (j : Int) < 0 := by omega
        obtain ⟨x, hx⟩ : ∃ x, xs[j]? = some x := ⟨_, List.getElem?_eq_getElem (by rw [← NN.out.1]; exact hlt)⟩
        obtain ⟨y, hy⟩ : ∃ y, ys[j]? = some y := ⟨_, List.getElem?_eq_getElem (by rw [← NN.out.2, ← NN.out.1]; exact hlt)⟩
        obtain ⟨b1, o1, _, e1, _, hmx, c1⟩ := IsP.at13 (show IsP _ (.slice A xs.length ca) xs from by rw [← NN.out.1]; exact HA.out.below HI.out.2.2) hx
        obtain ⟨b2, o2, _, e2, _, hmy, c2⟩ := IsP.at13 (show IsP _ (.slice B ys.length cb) ys from by rw [← NN.out.2, ← NN.out.1]; exact HB.out.below HI.out.2.2) hy
        simp only [Value.slice.injEq] at e1 e2
        obtain ⟨rfl, -, -⟩ := e1
        obtain ⟨rfl, -, -⟩ := e2
        clear hmx hmy
        obtain ⟨x0, x1, x2, x3, x4, x5, x6, x7, x8, x9, x10, x11, x12⟩ := c1
        obtain ⟨y0, y1, y2, y3, y4, y5, y6, y7, y8, y9, y10, y11, y12⟩ := c2
        obtain ⟨jp, hjp, ek1⟩ : ∃ jp : Nat, jp = j + 1 ∧ wrap64 ((j : Int) + 1) = (jp : Int) := ⟨j + 1, rfl, w64 rfl (by have := HM.out; have := NN.out.1; omega)⟩
        have KP := Lib.hid (And.intro hjp hlt)
        have XY := Lib.hid (And.intro hx hy)
        clear hx hy hlt hjp
        cases hp : (Prp.mk ⟨x.k.k, x.k.n, x.k.s⟩ x.a ⟨x.v.k, x.v.n, x.v.s⟩ ⟨x.g.k, x.g.n, x.g.s⟩ ⟨x.t.k, x.t.n, x.t.s⟩).eq (Prp.mk ⟨y.k.k, y.k.n, y.k.s⟩ y.a ⟨y.v.k, y.v.n, y.v.s⟩ ⟨y.g.k, y.g.n, y.g.s⟩ ⟨y.t.k, y.t.n, y.t.s⟩)
        · have NE := Lib.hid (show decide (xs = ys) = false from decide_eq_false fun e => by
            have h1 := XY.out.1
            rw [e, XY.out.2] at h1
            have := Option.some.inj h1
            subst this
            rw [Prp.eq_cols] at hp
            cases hp)
          go_upto_region 6 with fail
          (refine wp_region_held_drew (S := (fun Z : World => Z.cell? ⟨b1, o1 + j * 13, none⟩ = some (.int .i64 x.k.k) ∧ Z.cell? ⟨b1, o1 + j * 13 + 1, none⟩ = some (.int .i64 x.k.n) ∧ Z.cell? ⟨b1, o1 + j * 13 + 2, none⟩ = some (.string x.k.s) ∧ Z.cell? ⟨b1, o1 + j * 13 + 3, none⟩ = some (.int .i64 x.a) ∧ Z.cell? ⟨b1, o1 + j * 13 + 4, none⟩ = some (.int .i64 x.v.k) ∧ Z.cell? ⟨b1, o1 + j * 13 + 5, none⟩ = some (.int .i64 x.v.n) ∧ Z.cell? ⟨b1, o1 + j * 13 + 6, none⟩ = some (.string x.v.s) ∧ Z.cell? ⟨b1, o1 + j * 13 + 7, none⟩ = some (.int .i64 x.g.k) ∧ Z.cell? ⟨b1, o1 + j * 13 + 8, none⟩ = some (.int .i64 x.g.n) ∧ Z.cell? ⟨b1, o1 + j * 13 + 9, none⟩ = some (.string x.g.s) ∧ Z.cell? ⟨b1, o1 + j * 13 + 10, none⟩ = some (.int .i64 x.t.k) ∧ Z.cell? ⟨b1, o1 + j * 13 + 11, none⟩ = some (.int .i64 x.t.n) ∧ Z.cell? ⟨b1, o1 + j * 13 + 12, none⟩ = some (.string x.t.s) ∧ Z.cell? ⟨b2, o2 + j * 13, none⟩ = some (.int .i64 y.k.k) ∧ Z.cell? ⟨b2, o2 + j * 13 + 1, none⟩ = some (.int .i64 y.k.n) ∧ Z.cell? ⟨b2, o2 + j * 13 + 2, none⟩ = some (.string y.k.s) ∧ Z.cell? ⟨b2, o2 + j * 13 + 3, none⟩ = some (.int .i64 y.a) ∧ Z.cell? ⟨b2, o2 + j * 13 + 4, none⟩ = some (.int .i64 y.v.k) ∧ Z.cell? ⟨b2, o2 + j * 13 + 5, none⟩ = some (.int .i64 y.v.n) ∧ Z.cell? ⟨b2, o2 + j * 13 + 6, none⟩ = some (.string y.v.s) ∧ Z.cell? ⟨b2, o2 + j * 13 + 7, none⟩ = some (.int .i64 y.g.k) ∧ Z.cell? ⟨b2, o2 + j * 13 + 8, none⟩ = some (.int .i64 y.g.n) ∧ Z.cell? ⟨b2, o2 + j * 13 + 9, none⟩ = some (.string y.g.s) ∧ Z.cell? ⟨b2, o2 + j * 13 + 10, none⟩ = some (.int .i64 y.t.k) ∧ Z.cell? ⟨b2, o2 + j * 13 + 11, none⟩ = some (.int .i64 y.t.n) ∧ Z.cell? ⟨b2, o2 + j * 13 + 12, none⟩ = some (.string y.t.s))) Try.mixed (by (and_intros <;> go_simp)) (fun hS => ?_); (refine wpAnyH_take (i := 0) (v := ?_) rfl (by kernel_rfl) (by kernel_rfl) (by kernel_rfl) (fun _ _ _ h => h) ?_ (by assumption) ?_; rotate_left; (next => (refine Or.inl ⟨by kernel_rfl, ?_⟩; ((intro w hSw; (try dsimp only at hSw); go_simp) <;> with_reducible rfl))); (try simp only [Act.put, List.setIfInBounds_toArray, List.set_cons_zero, List.set_cons_succ])); (refine wpAnyH_take (i := 1) (v := ?_) rfl (by kernel_rfl) (by kernel_rfl) (by kernel_rfl) (fun _ _ _ h => h) ?_ (by assumption) ?_; rotate_left; (next => (refine Or.inl ⟨by kernel_rfl, ?_⟩; ((intro w hSw; (try dsimp only at hSw); go_simp) <;> with_reducible rfl))); (try simp only [Act.put, List.setIfInBounds_toArray, List.set_cons_zero, List.set_cons_succ])); (refine wpAnyH_take (i := 2) (v := ?_) rfl (by kernel_rfl) (by kernel_rfl) (by kernel_rfl) (fun _ _ _ h => h) ?_ (by assumption) ?_; rotate_left; (next => (refine Or.inl ⟨by kernel_rfl, ?_⟩; ((intro w hSw; (try dsimp only at hSw); go_simp) <;> with_reducible rfl))); (try simp only [Act.put, List.setIfInBounds_toArray, List.set_cons_zero, List.set_cons_succ])); (refine wpAnyH_take (i := 3) (v := ?_) rfl (by kernel_rfl) (by kernel_rfl) (by kernel_rfl) (fun _ _ _ h => h) ?_ (by assumption) ?_; rotate_left; (next => (refine Or.inl ⟨by kernel_rfl, ?_⟩; ((intro w hSw; (try dsimp only at hSw); obtain ⟨s0, s1, s2, s3, s4, s5, s6, s7, s8, s9, s10, s11, s12, r0, r1, r2, r3, r4, r5, r6, r7, r8, r9, r10, r11, r12⟩ := hSw; go_simp) <;> with_reducible rfl))); (try simp only [Act.put, List.setIfInBounds_toArray, List.set_cons_zero, List.set_cons_succ])); (refine wpAnyH_take (i := 4) (v := ?_) rfl (by kernel_rfl) (by kernel_rfl) (by kernel_rfl) (fun _ _ _ h => h) ?_ (by assumption) ?_; rotate_left; (next => (refine Or.inl ⟨by kernel_rfl, ?_⟩; ((intro w hSw; (try dsimp only at hSw); go_simp) <;> with_reducible rfl))); (try simp only [Act.put, List.setIfInBounds_toArray, List.set_cons_zero, List.set_cons_succ])); (refine wpAnyH_take (i := 5) (v := ?_) rfl (by kernel_rfl) (by kernel_rfl) (by kernel_rfl) (fun _ _ _ h => h) ?_ (by assumption) ?_; rotate_left; (next => (refine Or.inl ⟨by kernel_rfl, ?_⟩; ((intro w hSw; (try dsimp only at hSw); go_simp) <;> with_reducible rfl))); (try simp only [Act.put, List.setIfInBounds_toArray, List.set_cons_zero, List.set_cons_succ])); (refine wpAnyH_take (i := 6) (v := ?_) rfl (by kernel_rfl) (by kernel_rfl) (by kernel_rfl) (fun _ _ _ h => h) ?_ (by assumption) ?_; rotate_left; (next => (refine Or.inl ⟨by kernel_rfl, ?_⟩; ((intro w hSw; (try dsimp only at hSw); go_simp) <;> with_reducible rfl))); (try simp only [Act.put, List.setIfInBounds_toArray, List.set_cons_zero, List.set_cons_succ])); (refine wpAnyH_take (i := 7) (v := ?_) rfl (by kernel_rfl) (by kernel_rfl) (by kernel_rfl) (fun _ _ _ h => h) ?_ (by assumption) ?_; rotate_left; (next => (refine Or.inl ⟨by kernel_rfl, ?_⟩; ((intro w hSw; (try dsimp only at hSw); obtain ⟨s0, s1, s2, s3, s4, s5, s6, s7, s8, s9, s10, s11, s12, r0, r1, r2, r3, r4, r5, r6, r7, r8, r9, r10, r11, r12⟩ := hSw; go_simp) <;> with_reducible rfl))); (try simp only [Act.put, List.setIfInBounds_toArray, List.set_cons_zero, List.set_cons_succ])); refine wpAnyH_ready (rs := [8]) (by kernel_rfl) (by simp) ?_; refine AllReadyH.cons rfl (fun K hK => ?_) AllReadyH.nil; go_simp; refine hK.out _ _ (by (and_intros <;> go_simp)) (fun hS => ?_); clear hK K; (try simp only [Act.put, List.setIfInBounds_toArray, List.set_cons_zero, List.set_cons_succ]); refine wpAnyH_done (by kernel_rfl) ?_ _)
          go_simp
          go_wp2
          go_ret
          exact ⟨ret_bool NE.out.symm, HI.out.2.2.drew⟩
        · have EQ := Lib.hid (show xs.take (j + 1) = ys.take (j + 1) from by
            have h0 : x = y := by
              have := Prp.eq_iff.1 hp
              obtain ⟨⟨_, _, _⟩, _, ⟨_, _, _⟩, ⟨_, _, _⟩, ⟨_, _, _⟩⟩ := x
              obtain ⟨⟨_, _, _⟩, _, ⟨_, _, _⟩, ⟨_, _, _⟩, ⟨_, _, _⟩⟩ := y
              exact this
            rw [List.take_add_one, List.take_add_one, XY.out.1, XY.out.2, HI.out.2.1, h0])
          go_upto_region 6 with fail
          (refine wp_region_held_drew (S := (fun Z : World => Z.cell? ⟨b1, o1 + j * 13, none⟩ = some (.int .i64 x.k.k) ∧ Z.cell? ⟨b1, o1 + j * 13 + 1, none⟩ = some (.int .i64 x.k.n) ∧ Z.cell? ⟨b1, o1 + j * 13 + 2, none⟩ = some (.string x.k.s) ∧ Z.cell? ⟨b1, o1 + j * 13 + 3, none⟩ = some (.int .i64 x.a) ∧ Z.cell? ⟨b1, o1 + j * 13 + 4, none⟩ = some (.int .i64 x.v.k) ∧ Z.cell? ⟨b1, o1 + j * 13 + 5, none⟩ = some (.int .i64 x.v.n) ∧ Z.cell? ⟨b1, o1 + j * 13 + 6, none⟩ = some (.string x.v.s) ∧ Z.cell? ⟨b1, o1 + j * 13 + 7, none⟩ = some (.int .i64 x.g.k) ∧ Z.cell? ⟨b1, o1 + j * 13 + 8, none⟩ = some (.int .i64 x.g.n) ∧ Z.cell? ⟨b1, o1 + j * 13 + 9, none⟩ = some (.string x.g.s) ∧ Z.cell? ⟨b1, o1 + j * 13 + 10, none⟩ = some (.int .i64 x.t.k) ∧ Z.cell? ⟨b1, o1 + j * 13 + 11, none⟩ = some (.int .i64 x.t.n) ∧ Z.cell? ⟨b1, o1 + j * 13 + 12, none⟩ = some (.string x.t.s) ∧ Z.cell? ⟨b2, o2 + j * 13, none⟩ = some (.int .i64 y.k.k) ∧ Z.cell? ⟨b2, o2 + j * 13 + 1, none⟩ = some (.int .i64 y.k.n) ∧ Z.cell? ⟨b2, o2 + j * 13 + 2, none⟩ = some (.string y.k.s) ∧ Z.cell? ⟨b2, o2 + j * 13 + 3, none⟩ = some (.int .i64 y.a) ∧ Z.cell? ⟨b2, o2 + j * 13 + 4, none⟩ = some (.int .i64 y.v.k) ∧ Z.cell? ⟨b2, o2 + j * 13 + 5, none⟩ = some (.int .i64 y.v.n) ∧ Z.cell? ⟨b2, o2 + j * 13 + 6, none⟩ = some (.string y.v.s) ∧ Z.cell? ⟨b2, o2 + j * 13 + 7, none⟩ = some (.int .i64 y.g.k) ∧ Z.cell? ⟨b2, o2 + j * 13 + 8, none⟩ = some (.int .i64 y.g.n) ∧ Z.cell? ⟨b2, o2 + j * 13 + 9, none⟩ = some (.string y.g.s) ∧ Z.cell? ⟨b2, o2 + j * 13 + 10, none⟩ = some (.int .i64 y.t.k) ∧ Z.cell? ⟨b2, o2 + j * 13 + 11, none⟩ = some (.int .i64 y.t.n) ∧ Z.cell? ⟨b2, o2 + j * 13 + 12, none⟩ = some (.string y.t.s))) Try.mixed (by (and_intros <;> go_simp)) (fun hS => ?_); (refine wpAnyH_take (i := 0) (v := ?_) rfl (by kernel_rfl) (by kernel_rfl) (by kernel_rfl) (fun _ _ _ h => h) ?_ (by assumption) ?_; rotate_left; (next => (refine Or.inl ⟨by kernel_rfl, ?_⟩; ((intro w hSw; (try dsimp only at hSw); go_simp) <;> with_reducible rfl))); (try simp only [Act.put, List.setIfInBounds_toArray, List.set_cons_zero, List.set_cons_succ])); (refine wpAnyH_take (i := 1) (v := ?_) rfl (by kernel_rfl) (by kernel_rfl) (by kernel_rfl) (fun _ _ _ h => h) ?_ (by assumption) ?_; rotate_left; (next => (refine Or.inl ⟨by kernel_rfl, ?_⟩; ((intro w hSw; (try dsimp only at hSw); go_simp) <;> with_reducible rfl))); (try simp only [Act.put, List.setIfInBounds_toArray, List.set_cons_zero, List.set_cons_succ])); (refine wpAnyH_take (i := 2) (v := ?_) rfl (by kernel_rfl) (by kernel_rfl) (by kernel_rfl) (fun _ _ _ h => h) ?_ (by assumption) ?_; rotate_left; (next => (refine Or.inl ⟨by kernel_rfl, ?_⟩; ((intro w hSw; (try dsimp only at hSw); go_simp) <;> with_reducible rfl))); (try simp only [Act.put, List.setIfInBounds_toArray, List.set_cons_zero, List.set_cons_succ])); (refine wpAnyH_take (i := 3) (v := ?_) rfl (by kernel_rfl) (by kernel_rfl) (by kernel_rfl) (fun _ _ _ h => h) ?_ (by assumption) ?_; rotate_left; (next => (refine Or.inl ⟨by kernel_rfl, ?_⟩; ((intro w hSw; (try dsimp only at hSw); obtain ⟨s0, s1, s2, s3, s4, s5, s6, s7, s8, s9, s10, s11, s12, r0, r1, r2, r3, r4, r5, r6, r7, r8, r9, r10, r11, r12⟩ := hSw; go_simp) <;> with_reducible rfl))); (try simp only [Act.put, List.setIfInBounds_toArray, List.set_cons_zero, List.set_cons_succ])); (refine wpAnyH_take (i := 4) (v := ?_) rfl (by kernel_rfl) (by kernel_rfl) (by kernel_rfl) (fun _ _ _ h => h) ?_ (by assumption) ?_; rotate_left; (next => (refine Or.inl ⟨by kernel_rfl, ?_⟩; ((intro w hSw; (try dsimp only at hSw); go_simp) <;> with_reducible rfl))); (try simp only [Act.put, List.setIfInBounds_toArray, List.set_cons_zero, List.set_cons_succ])); (refine wpAnyH_take (i := 5) (v := ?_) rfl (by kernel_rfl) (by kernel_rfl) (by kernel_rfl) (fun _ _ _ h => h) ?_ (by assumption) ?_; rotate_left; (next => (refine Or.inl ⟨by kernel_rfl, ?_⟩; ((intro w hSw; (try dsimp only at hSw); go_simp) <;> with_reducible rfl))); (try simp only [Act.put, List.setIfInBounds_toArray, List.set_cons_zero, List.set_cons_succ])); (refine wpAnyH_take (i := 6) (v := ?_) rfl (by kernel_rfl) (by kernel_rfl) (by kernel_rfl) (fun _ _ _ h => h) ?_ (by assumption) ?_; rotate_left; (next => (refine Or.inl ⟨by kernel_rfl, ?_⟩; ((intro w hSw; (try dsimp only at hSw); go_simp) <;> with_reducible rfl))); (try simp only [Act.put, List.setIfInBounds_toArray, List.set_cons_zero, List.set_cons_succ])); (refine wpAnyH_take (i := 7) (v := ?_) rfl (by kernel_rfl) (by kernel_rfl) (by kernel_rfl) (fun _ _ _ h => h) ?_ (by assumption) ?_; rotate_left; (next => (refine Or.inl ⟨by kernel_rfl, ?_⟩; ((intro w hSw; (try dsimp only at hSw); obtain ⟨s0, s1, s2, s3, s4, s5, s6, s7, s8, s9, s10, s11, s12, r0, r1, r2, r3, r4, r5, r6, r7, r8, r9, r10, r11, r12⟩ := hSw; go_simp) <;> with_reducible rfl))); (try simp only [Act.put, List.setIfInBounds_toArray, List.set_cons_zero, List.set_cons_succ])); refine wpAnyH_ready (rs := [8]) (by kernel_rfl) (by simp) ?_; refine AllReadyH.cons rfl (fun K hK => ?_) AllReadyH.nil; go_simp; refine hK.out _ _ (by (and_intros <;> go_simp)) (fun hS => ?_); clear hK K; (try simp only [Act.put, List.setIfInBounds_toArray, List.set_cons_zero, List.set_cons_succ]); refine wpAnyH_done (by kernel_rfl) ?_ _)
          go_simp
          go_wp2
          go_roundw
          case rel => exact ⟨jp, by first | with_reducible rfl | rw [ek1], Lib.hid ⟨by rw [KP.out.1]; exact KP.out.2, by rw [KP.out.1]; exact EQ.out, HI.out.2.2.drew⟩⟩
          case measure => ((try rw [ek1]); exact meas_n3 KP.out.1 KP.out.2)
      · have q0 : ¬ (j : Int) < (n : Int) := by omega
        have EQ := Lib.hid (show decide (xs = ys) = true from decide_eq_true (by
          have h := HI.out.2.1
          rwa [List.take_of_length_le (by have := NN.out.1; omega), List.take_of_length_le (by have := NN.out.1; have := NN.out.2; omega)] at h))
        clear hlt
        go_wp2
        go_ret
        exact ⟨ret_bool EQ.out.symm, HI.out.2.2⟩
  · have NE := Lib.hid (show decide (xs = ys) = false from decide_eq_false fun e => hl (by rw [e]))
    have q0 : ¬ (xs.length : Int) = (ys.length : Int) := by omega
    clear hl ha hb hm
    go_enter Try.func14, Try.ntmps14
    go_wp2
    go_ret
    exact ⟨ret_bool NE.out.symm, Below.refl _ _⟩
end Go.Proofs.Ytippimonpdeioaa
namespace Go.Proofs.Ytippimonpdeioaa
set_option linter.all false
open Go.ChangeShapes Go.WideShapes Go.ChangeAt Go.RowKit Go.Sort Go.Deep

set_option maxRecDepth 100000 in
set_option maxHeartbeats 8000000 in
theorem sameP_any (u v : Value) (xs ys : List Prp) (hm : xs.length ≤ 3000) (w : World) (ha : IsP w u xs) (hb : IsP w v ys) : Calls Try.prog 28 #[u, v] w fun e w' => e = .returned (.bool (decide (xs = ys))) ∧ Below w.heap.size w w' := by
  obtain ⟨A, ca, rfl, _, _⟩ := ha.form
  obtain ⟨B, cb, rfl, _, _⟩ := hb.form
  by_cases hl : xs.length = ys.length
  · have HA := Lib.hid ha
    have HB := Lib.hid hb
    have HM := Lib.hid hm
    obtain ⟨n, hn⟩ : ∃ n, n = xs.length := ⟨_, rfl⟩
    rw [← hl, ← hn]
    rw [← hn] at HA
    rw [← hl, ← hn] at HB
    have NN := Lib.hid (And.intro hn hl)
    clear ha hb hm hl hn
    go_enter Try.func28, Try.ntmps28
    go_wp2
    go_loopw [14] (fun i wr => ∃ j : Nat, i = .int .i64 j ∧ Hid (j ≤ n ∧ xs.take j = ys.take j ∧ Below w.heap.size w wr)) (fun i _ => n - (intOf i).toNat)
    case atStart => exact ⟨0, rfl, Lib.hid ⟨Nat.zero_le _, by simp, Below.refl _ _⟩⟩
    case round =>
      obtain ⟨j, rfl, HI⟩ := hrel
      by_cases hlt : j < n
      · have q0 : (j : Int) < (n : Int) := by omega
        have q1 : ¬ (j : Int) < 0 := by omega
        obtain ⟨x, hx⟩ : ∃ x, xs[j]? = some x := ⟨_, List.getElem?_eq_getElem (by rw [← NN.out.1]; exact hlt)⟩
        obtain ⟨y, hy⟩ : ∃ y, ys[j]? = some y := ⟨_, List.getElem?_eq_getElem (by rw [← NN.out.2, ← NN.out.1]; exact hlt)⟩
        obtain ⟨b1, o1, _, e1, _, hmx, c1⟩ := IsP.at13 (show IsP _ (.slice A xs.length ca) xs from by rw [← NN.out.1]; exact HA.out.below HI.out.2.2) hx
        obtain ⟨b2, o2, _, e2, ly, hmy, c2⟩ := IsP.at13 (show IsP _ (.slice B ys.length cb) ys from by rw [← NN.out.2, ← NN.out.1]; exact HB.out.below HI.out.2.2) hy
        simp only [Value.slice.injEq] at e1 e2
        obtain ⟨rfl, -, -⟩ := e1
        obtain ⟨rfl, -, -⟩ := e2
        clear hmx hmy
        obtain ⟨x0, x1, x2, x3, x4, x5, x6, x7, x8, x9, x10, x11, x12⟩ := c1
        have CY := Lib.hid (And.intro ly c2)
        clear c2
        obtain ⟨jp, hjp, ek1⟩ : ∃ jp : Nat, jp = j + 1 ∧ wrap64 ((j : Int) + 1) = (jp : Int) := ⟨j + 1, rfl, w64 rfl (by have := HM.out; have := NN.out.1; omega)⟩
        have KP := Lib.hid (And.intro hjp hlt)
        have XY := Lib.hid (And.intro hx hy)
        clear hx hy hlt hjp
        cases hp : (Prp.mk ⟨x.k.k, x.k.n, x.k.s⟩ x.a ⟨x.v.k, x.v.n, x.v.s⟩ ⟨x.g.k, x.g.n, x.g.s⟩ ⟨x.t.k, x.t.n, x.t.s⟩).eq (Prp.mk ⟨y.k.k, y.k.n, y.k.s⟩ y.a ⟨y.v.k, y.v.n, y.v.s⟩ ⟨y.g.k, y.g.n, y.g.s⟩ ⟨y.t.k, y.t.n, y.t.s⟩)
        · have NE := Lib.hid (show decide (xs = ys) = false from decide_eq_false fun e => by
            have h1 := XY.out.1
            rw [e, XY.out.2] at h1
            have := Option.some.inj h1
            subst this
            rw [Prp.eq_cols] at hp
            cases hp)
          go_upto_region 6 with fail
          refine wp_world3 (fun X => X.heap[wr.heap.size]? = some (prpO x) ∧ Below wr.heap.size wr X) ⟨heap_alloc_new _ _, by (repeat (with_reducible first | exact Below.refl _ _ | (refine bl_set ?_ (by first | omega | (simp; done) | (simp; omega)) _) | refine bl_gr ?_ _ | refine bl_al ?_ _ | refine below_setRow ?_ (by first | omega | (simp; done) | (simp; omega)) _ | refine bl_drewN ?_ _ | refine Below.drew ?_ | (refine bl_tr ?_ (by assumption))))⟩ ?_
          rintro X ⟨j0, jb⟩
          obtain ⟨⟨x0, x1, x2, x3, x4, x5, x6, x7, x8, x9, x10, x11, x12⟩, _⟩ := cells13 j0
          obtain ⟨y0, y1, y2, y3, y4, y5, y6, y7, y8, y9, y10, y11, y12⟩ := At13.below CY.out.2 CY.out.1 jb
          have JB := Lib.hid (bl_tr HI.out.2.2 jb)
          clear j0 jb
          (refine wp_region_held_drew (S := (fun Z : World => Z.cell? ⟨wr.heap.size, 0, none⟩ = some (.int .i64 x.k.k) ∧ Z.cell? ⟨wr.heap.size, 1, none⟩ = some (.int .i64 x.k.n) ∧ Z.cell? ⟨wr.heap.size, 2, none⟩ = some (.string x.k.s) ∧ Z.cell? ⟨wr.heap.size, 3, none⟩ = some (.int .i64 x.a) ∧ Z.cell? ⟨wr.heap.size, 4, none⟩ = some (.int .i64 x.v.k) ∧ Z.cell? ⟨wr.heap.size, 5, none⟩ = some (.int .i64 x.v.n) ∧ Z.cell? ⟨wr.heap.size, 6, none⟩ = some (.string x.v.s) ∧ Z.cell? ⟨wr.heap.size, 7, none⟩ = some (.int .i64 x.g.k) ∧ Z.cell? ⟨wr.heap.size, 8, none⟩ = some (.int .i64 x.g.n) ∧ Z.cell? ⟨wr.heap.size, 9, none⟩ = some (.string x.g.s) ∧ Z.cell? ⟨wr.heap.size, 10, none⟩ = some (.int .i64 x.t.k) ∧ Z.cell? ⟨wr.heap.size, 11, none⟩ = some (.int .i64 x.t.n) ∧ Z.cell? ⟨wr.heap.size, 12, none⟩ = some (.string x.t.s) ∧ Z.cell? ⟨b2, o2 + j * 13, none⟩ = some (.int .i64 y.k.k) ∧ Z.cell? ⟨b2, o2 + j * 13 + 1, none⟩ = some (.int .i64 y.k.n) ∧ Z.cell? ⟨b2, o2 + j * 13 + 2, none⟩ = some (.string y.k.s) ∧ Z.cell? ⟨b2, o2 + j * 13 + 3, none⟩ = some (.int .i64 y.a) ∧ Z.cell? ⟨b2, o2 + j * 13 + 4, none⟩ = some (.int .i64 y.v.k) ∧ Z.cell? ⟨b2, o2 + j * 13 + 5, none⟩ = some (.int .i64 y.v.n) ∧ Z.cell? ⟨b2, o2 + j * 13 + 6, none⟩ = some (.string y.v.s) ∧ Z.cell? ⟨b2, o2 + j * 13 + 7, none⟩ = some (.int .i64 y.g.k) ∧ Z.cell? ⟨b2, o2 + j * 13 + 8, none⟩ = some (.int .i64 y.g.n) ∧ Z.cell? ⟨b2, o2 + j * 13 + 9, none⟩ = some (.string y.g.s) ∧ Z.cell? ⟨b2, o2 + j * 13 + 10, none⟩ = some (.int .i64 y.t.k) ∧ Z.cell? ⟨b2, o2 + j * 13 + 11, none⟩ = some (.int .i64 y.t.n) ∧ Z.cell? ⟨b2, o2 + j * 13 + 12, none⟩ = some (.string y.t.s))) Try.mixed (by (and_intros <;> go_simp)) (fun hS => ?_); (refine wpAnyH_take (i := 0) (v := ?_) rfl (by kernel_rfl) (by kernel_rfl) (by kernel_rfl) (fun _ _ _ h => h) ?_ (by assumption) ?_; rotate_left; (next => (refine Or.inl ⟨by kernel_rfl, ?_⟩; ((intro w hSw; (try dsimp only at hSw); obtain ⟨s0, s1, s2, s3, s4, s5, s6, s7, s8, s9, s10, s11, s12, r0, r1, r2, r3, r4, r5, r6, r7, r8, r9, r10, r11, r12⟩ := hSw; go_simp) <;> with_reducible rfl))); (try simp only [Act.put, List.setIfInBounds_toArray, List.set_cons_zero, List.set_cons_succ])); (refine wpAnyH_take (i := 1) (v := ?_) rfl (by kernel_rfl) (by kernel_rfl) (by kernel_rfl) (fun _ _ _ h => h) ?_ (by assumption) ?_; rotate_left; (next => (refine Or.inl ⟨by kernel_rfl, ?_⟩; ((intro w hSw; (try dsimp only at hSw); go_simp) <;> with_reducible rfl))); (try simp only [Act.put, List.setIfInBounds_toArray, List.set_cons_zero, List.set_cons_succ])); (refine wpAnyH_take (i := 2) (v := ?_) rfl (by kernel_rfl) (by kernel_rfl) (by kernel_rfl) (fun _ _ _ h => h) ?_ (by assumption) ?_; rotate_left; (next => (refine Or.inl ⟨by kernel_rfl, ?_⟩; ((intro w hSw; (try dsimp only at hSw); go_simp) <;> with_reducible rfl))); (try simp only [Act.put, List.setIfInBounds_toArray, List.set_cons_zero, List.set_cons_succ])); (refine wpAnyH_take (i := 3) (v := ?_) rfl (by kernel_rfl) (by kernel_rfl) (by kernel_rfl) (fun _ _ _ h => h) ?_ (by assumption) ?_; rotate_left; (next => (refine Or.inl ⟨by kernel_rfl, ?_⟩; ((intro w hSw; (try dsimp only at hSw); go_simp) <;> with_reducible rfl))); (try simp only [Act.put, List.setIfInBounds_toArray, List.set_cons_zero, List.set_cons_succ])); (refine wpAnyH_take (i := 4) (v := ?_) rfl (by kernel_rfl) (by kernel_rfl) (by kernel_rfl) (fun _ _ _ h => h) ?_ (by assumption) ?_; rotate_left; (next => (refine Or.inl ⟨by kernel_rfl, ?_⟩; ((intro w hSw; (try dsimp only at hSw); obtain ⟨s0, s1, s2, s3, s4, s5, s6, s7, s8, s9, s10, s11, s12, r0, r1, r2, r3, r4, r5, r6, r7, r8, r9, r10, r11, r12⟩ := hSw; go_simp) <;> with_reducible rfl))); (try simp only [Act.put, List.setIfInBounds_toArray, List.set_cons_zero, List.set_cons_succ])); (refine wpAnyH_take (i := 5) (v := ?_) rfl (by kernel_rfl) (by kernel_rfl) (by kernel_rfl) (fun _ _ _ h => h) ?_ (by assumption) ?_; rotate_left; (next => (refine Or.inl ⟨by kernel_rfl, ?_⟩; ((intro w hSw; (try dsimp only at hSw); go_simp) <;> with_reducible rfl))); (try simp only [Act.put, List.setIfInBounds_toArray, List.set_cons_zero, List.set_cons_succ])); refine wpAnyH_done (by kernel_rfl) ?_ _)
          go_simp
          go_wp2
          go_ret
          exact ⟨ret_bool NE.out.symm, JB.out.drew⟩
        · have EQ := Lib.hid (show xs.take (j + 1) = ys.take (j + 1) from by
            have h0 : x = y := by
              have := Prp.eq_iff.1 hp
              obtain ⟨⟨_, _, _⟩, _, ⟨_, _, _⟩, ⟨_, _, _⟩, ⟨_, _, _⟩⟩ := x
              obtain ⟨⟨_, _, _⟩, _, ⟨_, _, _⟩, ⟨_, _, _⟩, ⟨_, _, _⟩⟩ := y
              exact this
            rw [List.take_add_one, List.take_add_one, XY.out.1, XY.out.2, HI.out.2.1, h0])
          go_upto_region 6 with fail
          refine wp_world3 (fun X => X.heap[wr.heap.size]? = some (prpO x) ∧ Below wr.heap.size wr X) ⟨heap_alloc_new _ _, by (repeat (with_reducible first | exact Below.refl _ _ | (refine bl_set ?_ (by first | omega | (simp; done) | (simp; omega)) _) | refine bl_gr ?_ _ | refine bl_al ?_ _ | refine below_setRow ?_ (by first | omega | (simp; done) | (simp; omega)) _ | refine bl_drewN ?_ _ | refine Below.drew ?_ | (refine bl_tr ?_ (by assumption))))⟩ ?_
          rintro X ⟨j0, jb⟩
          obtain ⟨⟨x0, x1, x2, x3, x4, x5, x6, x7, x8, x9, x10, x11, x12⟩, _⟩ := cells13 j0
          obtain ⟨y0, y1, y2, y3, y4, y5, y6, y7, y8, y9, y10, y11, y12⟩ := At13.below CY.out.2 CY.out.1 jb
          have JB := Lib.hid (bl_tr HI.out.2.2 jb)
          clear j0 jb
          (refine wp_region_held_drew (S := (fun Z : World => Z.cell? ⟨wr.heap.size, 0, none⟩ = some (.int .i64 x.k.k) ∧ Z.cell? ⟨wr.heap.size, 1, none⟩ = some (.int .i64 x.k.n) ∧ Z.cell? ⟨wr.heap.size, 2, none⟩ = some (.string x.k.s) ∧ Z.cell? ⟨wr.heap.size, 3, none⟩ = some (.int .i64 x.a) ∧ Z.cell? ⟨wr.heap.size, 4, none⟩ = some (.int .i64 x.v.k) ∧ Z.cell? ⟨wr.heap.size, 5, none⟩ = some (.int .i64 x.v.n) ∧ Z.cell? ⟨wr.heap.size, 6, none⟩ = some (.string x.v.s) ∧ Z.cell? ⟨wr.heap.size, 7, none⟩ = some (.int .i64 x.g.k) ∧ Z.cell? ⟨wr.heap.size, 8, none⟩ = some (.int .i64 x.g.n) ∧ Z.cell? ⟨wr.heap.size, 9, none⟩ = some (.string x.g.s) ∧ Z.cell? ⟨wr.heap.size, 10, none⟩ = some (.int .i64 x.t.k) ∧ Z.cell? ⟨wr.heap.size, 11, none⟩ = some (.int .i64 x.t.n) ∧ Z.cell? ⟨wr.heap.size, 12, none⟩ = some (.string x.t.s) ∧ Z.cell? ⟨b2, o2 + j * 13, none⟩ = some (.int .i64 y.k.k) ∧ Z.cell? ⟨b2, o2 + j * 13 + 1, none⟩ = some (.int .i64 y.k.n) ∧ Z.cell? ⟨b2, o2 + j * 13 + 2, none⟩ = some (.string y.k.s) ∧ Z.cell? ⟨b2, o2 + j * 13 + 3, none⟩ = some (.int .i64 y.a) ∧ Z.cell? ⟨b2, o2 + j * 13 + 4, none⟩ = some (.int .i64 y.v.k) ∧ Z.cell? ⟨b2, o2 + j * 13 + 5, none⟩ = some (.int .i64 y.v.n) ∧ Z.cell? ⟨b2, o2 + j * 13 + 6, none⟩ = some (.string y.v.s) ∧ Z.cell? ⟨b2, o2 + j * 13 + 7, none⟩ = some (.int .i64 y.g.k) ∧ Z.cell? ⟨b2, o2 + j * 13 + 8, none⟩ = some (.int .i64 y.g.n) ∧ Z.cell? ⟨b2, o2 + j * 13 + 9, none⟩ = some (.string y.g.s) ∧ Z.cell? ⟨b2, o2 + j * 13 + 10, none⟩ = some (.int .i64 y.t.k) ∧ Z.cell? ⟨b2, o2 + j * 13 + 11, none⟩ = some (.int .i64 y.t.n) ∧ Z.cell? ⟨b2, o2 + j * 13 + 12, none⟩ = some (.string y.t.s))) Try.mixed (by (and_intros <;> go_simp)) (fun hS => ?_); (refine wpAnyH_take (i := 0) (v := ?_) rfl (by kernel_rfl) (by kernel_rfl) (by kernel_rfl) (fun _ _ _ h => h) ?_ (by assumption) ?_; rotate_left; (next => (refine Or.inl ⟨by kernel_rfl, ?_⟩; ((intro w hSw; (try dsimp only at hSw); obtain ⟨s0, s1, s2, s3, s4, s5, s6, s7, s8, s9, s10, s11, s12, r0, r1, r2, r3, r4, r5, r6, r7, r8, r9, r10, r11, r12⟩ := hSw; go_simp) <;> with_reducible rfl))); (try simp only [Act.put, List.setIfInBounds_toArray, List.set_cons_zero, List.set_cons_succ])); (refine wpAnyH_take (i := 1) (v := ?_) rfl (by kernel_rfl) (by kernel_rfl) (by kernel_rfl) (fun _ _ _ h => h) ?_ (by assumption) ?_; rotate_left; (next => (refine Or.inl ⟨by kernel_rfl, ?_⟩; ((intro w hSw; (try dsimp only at hSw); go_simp) <;> with_reducible rfl))); (try simp only [Act.put, List.setIfInBounds_toArray, List.set_cons_zero, List.set_cons_succ])); (refine wpAnyH_take (i := 2) (v := ?_) rfl (by kernel_rfl) (by kernel_rfl) (by kernel_rfl) (fun _ _ _ h => h) ?_ (by assumption) ?_; rotate_left; (next => (refine Or.inl ⟨by kernel_rfl, ?_⟩; ((intro w hSw; (try dsimp only at hSw); go_simp) <;> with_reducible rfl))); (try simp only [Act.put, List.setIfInBounds_toArray, List.set_cons_zero, List.set_cons_succ])); (refine wpAnyH_take (i := 3) (v := ?_) rfl (by kernel_rfl) (by kernel_rfl) (by kernel_rfl) (fun _ _ _ h => h) ?_ (by assumption) ?_; rotate_left; (next => (refine Or.inl ⟨by kernel_rfl, ?_⟩; ((intro w hSw; (try dsimp only at hSw); go_simp) <;> with_reducible rfl))); (try simp only [Act.put, List.setIfInBounds_toArray, List.set_cons_zero, List.set_cons_succ])); (refine wpAnyH_take (i := 4) (v := ?_) rfl (by kernel_rfl) (by kernel_rfl) (by kernel_rfl) (fun _ _ _ h => h) ?_ (by assumption) ?_; rotate_left; (next => (refine Or.inl ⟨by kernel_rfl, ?_⟩; ((intro w hSw; (try dsimp only at hSw); obtain ⟨s0, s1, s2, s3, s4, s5, s6, s7, s8, s9, s10, s11, s12, r0, r1, r2, r3, r4, r5, r6, r7, r8, r9, r10, r11, r12⟩ := hSw; go_simp) <;> with_reducible rfl))); (try simp only [Act.put, List.setIfInBounds_toArray, List.set_cons_zero, List.set_cons_succ])); (refine wpAnyH_take (i := 5) (v := ?_) rfl (by kernel_rfl) (by kernel_rfl) (by kernel_rfl) (fun _ _ _ h => h) ?_ (by assumption) ?_; rotate_left; (next => (refine Or.inl ⟨by kernel_rfl, ?_⟩; ((intro w hSw; (try dsimp only at hSw); go_simp) <;> with_reducible rfl))); (try simp only [Act.put, List.setIfInBounds_toArray, List.set_cons_zero, List.set_cons_succ])); refine wpAnyH_done (by kernel_rfl) ?_ _)
          go_simp
          go_wp2
          go_roundw
          case rel => exact ⟨jp, by first | with_reducible rfl | rw [ek1], Lib.hid ⟨by rw [KP.out.1]; exact KP.out.2, by rw [KP.out.1]; exact EQ.out, JB.out.drew⟩⟩
          case measure => ((try rw [ek1]); exact meas_n3 KP.out.1 KP.out.2)
      · have q0 : ¬ (j : Int) < (n : Int) := by omega
        have EQ := Lib.hid (show decide (xs = ys) = true from decide_eq_true (by
          have h := HI.out.2.1
          rwa [List.take_of_length_le (by have := NN.out.1; omega), List.take_of_length_le (by have := NN.out.1; have := NN.out.2; omega)] at h))
        clear hlt
        go_wp2
        go_ret
        exact ⟨ret_bool EQ.out.symm, HI.out.2.2⟩
  · have NE := Lib.hid (show decide (xs = ys) = false from decide_eq_false fun e => hl (by rw [e]))
    have q0 : ¬ (xs.length : Int) = (ys.length : Int) := by omega
    clear hl ha hb hm
    go_enter Try.func28, Try.ntmps28
    go_wp2
    go_ret
    exact ⟨ret_bool NE.out.symm, Below.refl _ _⟩
end Go.Proofs.Ytippimonpdeioaa
namespace Go.Proofs.Ytippimonpdeioaa
set_option linter.all false
open Go.ChangeShapes Go.WideShapes Go.ChangeAt Go.RowKit Go.Sort Go.Deep Go.Shelf

/-- a list of the call's own comes back -/
def RetP (w : World) (L : List Prp) : Ending → World → Prop := fun e w' => ∃ A n, e = .returned (.slice A L.length n) ∧ OwnP w' w.heap.size (.slice A L.length n) L ∧ Below w.heap.size w w'
/-- W holds xs in block g, which is the call's own -/
def RowP (w : World) (g n cap : Nat) (xs : List Prp) (W : World) : Prop := n = xs.length ∧ OwnP W w.heap.size (.slice (some ⟨g, 0, none⟩) n cap) xs ∧ w.heap.size ≤ g ∧ Below w.heap.size w W
def pAt (xs : List Prp) (i : Nat) : Prp := xs.getD i .nil
theorem pAt_lt {xs : List Prp} {i : Nat} (h : i < xs.length) : xs[i]? = some (pAt xs i) := by
  unfold pAt
  rw [List.getD_eq_getElem?_getD, List.getElem?_eq_getElem h]
  rfl
theorem RowP.lt {w W : World} {g n cap : Nat} {xs : List Prp} (h : RowP w g n cap xs W) : g < W.heap.size := by
  rcases h.2.1.2 with ⟨e, _⟩ | ⟨g', cap', cur, e, hb, hg, _⟩
  · cases e
  · simp only [Value.slice.injEq, Option.some.injEq, Addr.mk.injEq, true_and, and_true] at e
    obtain ⟨rfl, _, rfl⟩ := e
    exact (Array.getElem?_eq_some_iff.1 hg).1
theorem RowP.fz {w W : World} {g n cap : Nat} {xs : List Prp} (h : RowP w g n cap xs W) (o : Nat) : W.frozen? ⟨g, o, none⟩ = false := by
  rcases h.2.1.2 with ⟨e, _⟩ | ⟨g', cap', cur, e, hb, hg, _⟩
  · cases e
  · simp only [Value.slice.injEq, Option.some.injEq, Addr.mk.injEq, true_and, and_true] at e
    obtain ⟨rfl, _, rfl⟩ := e
    exact frozen_of_row W g o cur _ hg
theorem RowP.at_ {w W : World} {g n cap : Nat} {xs : List Prp} (h : RowP w g n cap xs W) {i : Nat} (hi : i < xs.length) : At13 W g (i * 13) (pAt xs i) := by
  have ho := h.2.1
  have hn := h.1
  subst hn
  obtain ⟨b, off, cap', e, _, _, hx⟩ := IsP.at13 ho.isP (pAt_lt hi)
  simp only [Value.slice.injEq, Option.some.injEq, Addr.mk.injEq, true_and, and_true] at e
  obtain ⟨⟨rfl, rfl⟩, rfl⟩ := e
  rw [Nat.zero_add] at hx
  exact hx
theorem RowP.below {w W W' : World} {g n cap : Nat} {xs : List Prp} (h : RowP w g n cap xs W) (hb : Below W.heap.size W W') : RowP w g n cap xs W' := ⟨h.1, ownsRow_below h.2.1 hb, h.2.2.1, bl_tr h.2.2.2 hb⟩
theorem flat_set1 (f : Prp → Int) : ∀ (xs : List Prp) (i : Nat), i < xs.length → (flat Prp.cs xs).set (i * 13 + 3) (.int .i64 (f (pAt xs i))) = flat Prp.cs (xs.set i { pAt xs i with a := f (pAt xs i) })
  | a :: xs, 0, _ => by simp [flat, Prp.cs, pAt]
  | a :: xs, i + 1, h => by
    have ih := flat_set1 f xs i (by simpa using h)
    have e : pAt (a :: xs) (i + 1) = pAt xs i := by simp [pAt]
    rw [e]
    simp only [flat, List.flatMap_cons, List.set_cons_succ] at ih ⊢
    rw [← ih, List.set_append_right _ _ (by rw [prp_len]; omega), prp_len, show (i + 1) * 13 + 3 - 13 = i * 13 + 3 by omega]
/-- the attributes of the i-th property overwritten -/
theorem RowP.setA {w W : World} {g n cap : Nat} {xs : List Prp} (h : RowP w g n cap xs W) {i : Nat} (hi : i < xs.length) (a : Int) : RowP w g n cap (xs.set i { pAt xs i with a := a }) (W.setCell ⟨g, i * 13 + 3, none⟩ (.int .i64 a)) := by
  have := ownsRow_set h.2.1 (g := g) rfl (j := i * 13 + 3) (by omega) (.int .i64 a)
  rw [flat_set1 (fun _ => a) xs i hi] at this
  refine ⟨by rw [h.1, List.length_set], ?_, h.2.2.1, bl_set h.2.2.2 h.2.2.1 _⟩
  have e : (xs.set i { pAt xs i with a := a }).length = xs.length := List.length_set
  unfold OwnP
  rw [e]
  exact this
/-- a property's cells at place o of block b -/
abbrev at13s (W : World) (b o : Nat) (p : Prp) : World := (((((((((((((W.setCell ⟨b, o, none⟩ (.int .i64 p.k.k)).setCell ⟨b, o + 1, none⟩ (.int .i64 p.k.n)).setCell ⟨b, o + 2, none⟩ (.string p.k.s)).setCell ⟨b, o + 3, none⟩ (.int .i64 p.a)).setCell ⟨b, o + 4, none⟩ (.int .i64 p.v.k)).setCell ⟨b, o + 5, none⟩ (.int .i64 p.v.n)).setCell ⟨b, o + 6, none⟩ (.string p.v.s)).setCell ⟨b, o + 7, none⟩ (.int .i64 p.g.k)).setCell ⟨b, o + 8, none⟩ (.int .i64 p.g.n)).setCell ⟨b, o + 9, none⟩ (.string p.g.s)).setCell ⟨b, o + 10, none⟩ (.int .i64 p.t.k)).setCell ⟨b, o + 11, none⟩ (.int .i64 p.t.n)).setCell ⟨b, o + 12, none⟩ (.string p.t.s))
theorem set_shift {l1 l2 : List Value} (h : l1.length = 13) (j : Nat) (u : Value) : (l1 ++ l2).set (j + 13) u = l1 ++ l2.set j u := by
  rw [List.set_append_right _ _ (by omega), h, Nat.add_sub_cancel]
theorem flat_set13 : ∀ (xs : List Prp) (i : Nat) (p : Prp), i < xs.length → ((((((((((((((flat Prp.cs xs).set (i * 13) (.int .i64 p.k.k)).set (i * 13 + 1) (.int .i64 p.k.n)).set (i * 13 + 2) (.string p.k.s)).set (i * 13 + 3) (.int .i64 p.a)).set (i * 13 + 4) (.int .i64 p.v.k)).set (i * 13 + 5) (.int .i64 p.v.n)).set (i * 13 + 6) (.string p.v.s)).set (i * 13 + 7) (.int .i64 p.g.k)).set (i * 13 + 8) (.int .i64 p.g.n)).set (i * 13 + 9) (.string p.g.s)).set (i * 13 + 10) (.int .i64 p.t.k)).set (i * 13 + 11) (.int .i64 p.t.n)).set (i * 13 + 12) (.string p.t.s)) = flat Prp.cs (xs.set i p)
  | a :: xs, 0, p, _ => by simp [flat, Prp.cs]
  | a :: xs, i + 1, p, h => by
    have ih := flat_set13 xs i p (by simpa using h)
    have e : ∀ q, (i + 1) * 13 + q = (i * 13 + q) + 13 := fun q => by omega
    have e0 : (i + 1) * 13 = i * 13 + 13 := by omega
    have es : (flat Prp.cs (a :: xs)) = Prp.cs a ++ flat Prp.cs xs := by simp [flat]
    have es' : (flat Prp.cs (a :: xs.set i p)) = Prp.cs a ++ flat Prp.cs (xs.set i p) := by simp [flat]
    rw [List.set_cons_succ, es', ← ih, es]
    simp only [e, e0, set_shift (prp_len a)]
/-- the i-th property overwritten -/
theorem RowP.put {w W : World} {g n cap : Nat} {xs : List Prp} (h : RowP w g n cap xs W) {i : Nat} (hi : i < xs.length) (p : Prp) : RowP w g n cap (xs.set i p) (at13s W g (i * 13) p) := by
  have := (ownsRow_set (ownsRow_set (ownsRow_set (ownsRow_set (ownsRow_set (ownsRow_set (ownsRow_set (ownsRow_set (ownsRow_set (ownsRow_set (ownsRow_set (ownsRow_set (ownsRow_set h.2.1 (g := g) rfl (j := i * 13) (by omega) (.int .i64 p.k.k)) (g := g) rfl (j := i * 13 + 1) (by omega) (.int .i64 p.k.n)) (g := g) rfl (j := i * 13 + 2) (by omega) (.string p.k.s)) (g := g) rfl (j := i * 13 + 3) (by omega) (.int .i64 p.a)) (g := g) rfl (j := i * 13 + 4) (by omega) (.int .i64 p.v.k)) (g := g) rfl (j := i * 13 + 5) (by omega) (.int .i64 p.v.n)) (g := g) rfl (j := i * 13 + 6) (by omega) (.string p.v.s)) (g := g) rfl (j := i * 13 + 7) (by omega) (.int .i64 p.g.k)) (g := g) rfl (j := i * 13 + 8) (by omega) (.int .i64 p.g.n)) (g := g) rfl (j := i * 13 + 9) (by omega) (.string p.g.s)) (g := g) rfl (j := i * 13 + 10) (by omega) (.int .i64 p.t.k)) (g := g) rfl (j := i * 13 + 11) (by omega) (.int .i64 p.t.n)) (g := g) rfl (j := i * 13 + 12) (by omega) (.string p.t.s))
  rw [flat_set13 xs i p hi] at this
  refine ⟨by rw [h.1, List.length_set], ?_, h.2.2.1, (bl_set (bl_set (bl_set (bl_set (bl_set (bl_set (bl_set (bl_set (bl_set (bl_set (bl_set (bl_set (bl_set h.2.2.2 h.2.2.1 _) h.2.2.1 _) h.2.2.1 _) h.2.2.1 _) h.2.2.1 _) h.2.2.1 _) h.2.2.1 _) h.2.2.1 _) h.2.2.1 _) h.2.2.1 _) h.2.2.1 _) h.2.2.1 _) h.2.2.1 _)⟩
  have e : (xs.set i p).length = xs.length := List.length_set
  unfold OwnP
  rw [e]
  exact this
theorem RowP.drew {w W : World} {g n cap : Nat} {xs : List Prp} (h : RowP w g n cap xs W) : RowP w g n cap xs W.drew := ⟨h.1, h.2.1, h.2.2.1, h.2.2.2.drew⟩

def hardA (fr : Bool) (a : Int) : Int := if fr && bits .and .i64 (bits .andNot .i64 a 4) 8 == 0 then bits .andNot .i64 (bits .andNot .i64 a 4) 1 else bits .andNot .i64 a 4
def hardP (fr : Bool) (p : Prp) : Prp := { p with a := hardA fr p.a }
def hardM (xs : List Prp) (fr : Bool) : List Prp := xs.map (hardP fr)
/-- behind j properties -/
def hardJ (xs : List Prp) (fr : Bool) (j : Nat) : List Prp := (xs.take j).map (hardP fr) ++ xs.drop j
theorem hardJ_len (xs : List Prp) (fr : Bool) (j : Nat) : (hardJ xs fr j).length = xs.length := by simp [hardJ]; omega
theorem hardJ_at {xs : List Prp} {fr : Bool} {j : Nat} (h : j < xs.length) : pAt (hardJ xs fr j) j = pAt xs j := by
  unfold pAt hardJ
  rw [List.getD_eq_getElem?_getD, List.getD_eq_getElem?_getD, List.getElem?_append_right (by simp; omega)]
  simp
  congr 2
  omega
theorem hardJ_succ {xs : List Prp} {fr : Bool} {j : Nat} (h : j < xs.length) : (hardJ xs fr j).set j (hardP fr (pAt xs j)) = hardJ xs fr (j + 1) := by
  unfold hardJ
  have e : ((xs.take j).map (hardP fr)).length = j := by simp; omega
  have e2 : xs.drop j = pAt xs j :: xs.drop (j + 1) := by rw [List.drop_eq_getElem_cons h]; simp [pAt, h]
  rw [List.set_append_right _ _ (by omega), e, Nat.sub_self, List.take_add_one, pAt_lt h, List.map_append, List.append_assoc, e2]
  rfl
theorem hardJ_all (xs : List Prp) (fr : Bool) : hardJ xs fr xs.length = hardM xs fr := by simp [hardJ, hardM]
theorem hardA_f (a : Int) : hardA false a = bits .andNot .i64 a 4 := by simp [hardA]
theorem set_set_a (xs : List Prp) (i : Nat) (h : i < xs.length) (a b : Int) : (xs.set i { pAt xs i with a := a }).set i { pAt (xs.set i { pAt xs i with a := a }) i with a := b } = xs.set i { pAt xs i with a := b } := by
  have : pAt (xs.set i { pAt xs i with a := a }) i = { pAt xs i with a := a } := by simp [pAt, h]
  rw [this, List.set_set]

theorem pAt_set {xs : List Prp} {i : Nat} (h : i < xs.length) (q : Prp) : pAt (xs.set i q) i = q := by simp [pAt, h]
/-- one round of Hard -/
theorem row_h {w wr : World} {g n cap : Nat} {xs : List Prp} {fr : Bool} {j : Nat} (hx : j < xs.length) (h : RowP w g n cap (hardJ xs fr j) wr) (a1 : Int) :
    ∃ L1, RowP w g n cap L1 (wr.setCell ⟨g, j * 13 + 3, none⟩ (.int .i64 a1)) ∧ ∀ X, RowP w g n cap L1 X → X.cell? ⟨g, j * 13 + 3, none⟩ = some (.int .i64 a1) ∧
      (hardA fr (pAt xs j).a = a1 → RowP w g n cap (hardJ xs fr (j + 1)) X) ∧ ∀ b, hardA fr (pAt xs j).a = b → RowP w g n cap (hardJ xs fr (j + 1)) (X.setCell ⟨g, j * 13 + 3, none⟩ (.int .i64 b)) := by
  have hl : j < (hardJ xs fr j).length := by rw [hardJ_len]; exact hx
  refine ⟨_, h.setA hl a1, fun X hX => ⟨?_, fun e => ?_, fun b e => ?_⟩⟩
  · obtain ⟨-, -, -, h3, -⟩ := hX.at_ (i := j) (by simpa using hl)
    rw [pAt_set hl] at h3
    exact h3
  · have := hX
    rw [hardJ_at hx, ← e] at this
    rw [← hardJ_succ hx]
    exact this
  · have := hX.setA (i := j) (by simpa using hl) b
    rw [set_set_a _ _ hl, hardJ_at hx, ← e] at this
    rw [← hardJ_succ hx, ← e]
    exact this

set_option maxRecDepth 100000 in
set_option maxHeartbeats 8000000 in
theorem hard_any (v : Value) (xs : List Prp) (fr : Bool) (hm : xs.length ≤ 3000) (w : World) (hv : IsP w v xs) : Calls Try.prog 21 #[v, .bool fr] w (RetP w (hardM xs fr)) := by
  obtain ⟨A, cp, rfl, _, _⟩ := hv.form
  have CP := Lib.hid (copied_any _ xs hm w hv)
  have HM := Lib.hid hm
  clear hv hm
  obtain ⟨n, hn⟩ : ∃ n, n = xs.length := ⟨_, rfl⟩
  rw [← hn] at CP ⊢
  have NN := Lib.hid hn
  clear hn
  go_enter Try.func21, Try.ntmps21
  go_upto_region 2 with (go_at_call 32; refine CP.out.mono ?_; rintro e w3 ⟨g, cap, rfl, o3, -, b3⟩; have R3 := Lib.hid (show RowP w g n cap xs w3 from ⟨NN.out, o3, own_lo o3 g rfl, b3⟩); clear o3 b3)
  go_wp2
  go_loopw [11] (fun i wr => ∃ j : Nat, i = .int .i64 j ∧ Hid (j ≤ n ∧ RowP w g n cap (hardJ xs fr j) wr)) (fun i _ => n - (intOf i).toNat)
  case atStart => exact ⟨0, rfl, Lib.hid ⟨Nat.zero_le _, by simpa [hardJ] using R3.out⟩⟩
  case round =>
    obtain ⟨j, rfl, HI⟩ := hrel
    by_cases hlt : j < n
    · have q0 : (j : Int) < (n : Int) := by omega
      have q1 : ¬ (j : Int) < 0 := by omega
      have hx : j < xs.length := by rw [← NN.out]; exact hlt
      have lg := HI.out.2.lt
      obtain ⟨-, -, -, h3, -⟩ := HI.out.2.at_ (i := j) (by rw [hardJ_len]; exact hx)
      rw [hardJ_at hx] at h3
      have fz := HI.out.2.fz
      obtain ⟨jp, hjp, ek1⟩ : ∃ jp : Nat, jp = j + 1 ∧ wrap64 ((j : Int) + 1) = (jp : Int) := ⟨j + 1, rfl, w64 rfl (by have := HM.out; have := NN.out; omega)⟩
      have KP := Lib.hid (And.intro hjp hlt)
      obtain ⟨a1, ha1⟩ : ∃ a1, a1 = bits .andNot .i64 (pAt xs j).a 4 := ⟨_, rfl⟩
      obtain ⟨L1, r1, r2⟩ := row_h hx HI.out.2 a1
      have R1 := Lib.hid r1
      have R2 := Lib.hid r2
      have HX := Lib.hid hx
      have A1 := Lib.hid ha1
      generalize pAt xs j = x at *
      clear hjp hlt hx r1 r2
      go_upto_region 6 with fail
      rw [← ha1]
      refine wp_worldS (fun X => RowP w g n cap L1 X) R1.out ?_
      intro X hX
      have HR := Lib.hid (And.intro hX (R2.out X hX))
      have lX := hX.lt
      have c3 := (R2.out X hX).1
      have fX := hX.fz
      clear hX h3 fz lg ha1
      cases fr
      · have FIN := Lib.hid (HR.out.2.2.1 (by rw [hardA_f, A1.out]))
        go_wp2
        go_roundw
        case rel => exact ⟨jp, by first | with_reducible rfl | rw [ek1], Lib.hid ⟨by rw [KP.out.1]; exact KP.out.2, by rw [KP.out.1]; exact FIN.out⟩⟩
        case measure => ((try rw [ek1]); exact meas_n3 KP.out.1 KP.out.2)
      · cases h8 : bits .and .i64 a1 8 == 0
        · have FIN := Lib.hid (HR.out.2.2.1 (by rw [A1.out] at h8; simp [hardA, h8, A1.out]))
          go_wp2
          go_roundw
          case rel => exact ⟨jp, by first | with_reducible rfl | rw [ek1], Lib.hid ⟨by rw [KP.out.1]; exact KP.out.2, by rw [KP.out.1]; exact FIN.out⟩⟩
          case measure => ((try rw [ek1]); exact meas_n3 KP.out.1 KP.out.2)
        · have FIN := Lib.hid (HR.out.2.2.2 (bits .andNot .i64 a1 1) (by rw [A1.out] at h8; simp [hardA, h8, A1.out]))
          go_wp2
          go_roundw
          case rel => exact ⟨jp, by first | with_reducible rfl | rw [ek1], Lib.hid ⟨by rw [KP.out.1]; exact KP.out.2, by rw [KP.out.1]; exact FIN.out⟩⟩
          case measure => ((try rw [ek1]); exact meas_n3 KP.out.1 KP.out.2)
    · have q0 : ¬ (j : Int) < (n : Int) := by omega
      have hj : j = xs.length := by have := HI.out.1; have := NN.out; omega
      have RW := Lib.hid (show RowP w g n cap (hardM xs fr) wr from by
        have := HI.out.2
        rwa [hj, hardJ_all] at this)
      clear hlt hj
      go_wp2
      go_ret
      exact ⟨some ⟨g, 0, none⟩, cap, by rw [← RW.out.1]; rfl, by rw [← RW.out.1]; exact RW.out.2.1, RW.out.2.2.2⟩
/-- may it be changed still -/
def softM (fr : Bool) (p : Prp) : Bool := bits .and .i64 p.a 4 != 0 || (fr && bits .and .i64 p.a 8 == 0 && bits .and .i64 p.a 1 != 0)
set_option maxRecDepth 100000 in
set_option maxHeartbeats 4000000 in
theorem soft_any (x : Prp) (fr : Bool) (B : Nat) (W : World) (hB : W.heap[B]? = some (.cells #[.bool fr] 4)) : Calls Try.prog 43 #[x.agg, .pointer (some ⟨B, 0, none⟩)] W fun e w' => e = .returned (.bool (softM fr x)) ∧ Below W.heap.size W w' := by
  have lb := (Array.getElem?_eq_some_iff.1 hB).1
  have lbn : ∀ u, B < W.heap.size + u := fun u => Nat.lt_of_lt_of_le lb (Nat.le_add_right _ _)
  have c0 : W.cell? ⟨B, 0, none⟩ = some (.bool fr) := by rw [cell_of_row W B _ _ _ _ hB]; rfl
  clear hB
  have RS := Lib.hid (show softM fr x = softM fr x from rfl)
  cases h1 : bits .and .i64 x.a 4 != 0 <;> cases fr <;> cases h2 : bits .and .i64 x.a 8 == 0 <;> cases h3 : bits .and .i64 x.a 1 != 0
  all_goals as_aux_lemma =>
    go_enter Try.func43, Try.ntmps43
    go_wp2
    go_ret
    exact ⟨by simp [softM, h1, h2, h3], by (repeat (with_reducible first | exact Below.refl _ _ | (refine bl_set ?_ (by first | omega | (simp; done) | (simp; omega)) _) | refine bl_gr ?_ _ | refine bl_al ?_ _ | refine below_setRow ?_ (by first | omega | (simp; done) | (simp; omega)) _ | refine bl_drewN ?_ _ | refine Below.drew ?_ | (refine bl_tr ?_ (by assumption))))⟩
set_option maxRecDepth 100000 in
set_option maxHeartbeats 4000000 in
theorem isHard_any (v : Value) (xs : List Prp) (ext fr : Bool) (hm : xs.length ≤ 3000) (w : World) (hv : IsP w v xs) : Calls Try.prog 23 #[v, .bool ext, .bool fr] w fun e w' => e = .returned (.bool (!ext && decide (placeM (softM fr) xs < 0))) ∧ Below w.heap.size w w' := by
  have PL := Lib.hid (callGr (place_any v xs (softM fr) 43 #[.pointer (some ⟨w.heap.size, 0, none⟩)] (w.alloc (.cells #[.bool fr] 4)) hm (hv.below (bl_al (Below.refl _ _) _)) (fun args W => by go_simp) (fun x _ W hW => soft_any x fr w.heap.size W ((hW.block _ (by simp)).trans (heap_alloc_new _ _)))))
  clear hm hv
  cases ext
  · as_aux_lemma =>
    go_enter Try.func23, Try.ntmps23
    go_wp2_with (go_at_call 41; refine PL.out.mono ?_; rintro e w' ⟨pp, rfl, rfl⟩)
    go_ret
    exact ⟨by simp, by (repeat (with_reducible first | exact Below.refl _ _ | (refine bl_set ?_ (by first | omega | (simp; done) | (simp; omega)) _) | refine bl_gr ?_ _ | refine bl_al ?_ _ | refine below_setRow ?_ (by first | omega | (simp; done) | (simp; omega)) _ | refine bl_drewN ?_ _ | refine Below.drew ?_ | (refine bl_tr ?_ (by assumption))))⟩
  · as_aux_lemma =>
    go_enter Try.func23, Try.ntmps23
    go_wp2
    go_ret
    exact ⟨by simp, by (repeat (with_reducible first | exact Below.refl _ _ | (refine bl_set ?_ (by first | omega | (simp; done) | (simp; omega)) _) | refine bl_gr ?_ _ | refine bl_al ?_ _ | refine below_setRow ?_ (by first | omega | (simp; done) | (simp; omega)) _ | refine bl_drewN ?_ _ | refine Below.drew ?_ | (refine bl_tr ?_ (by assumption))))⟩
end Go.Proofs.Ytippimonpdeioaa
