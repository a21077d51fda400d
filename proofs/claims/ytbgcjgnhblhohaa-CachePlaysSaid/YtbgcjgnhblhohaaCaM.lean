/- Inline caches: the law CacheTold, walked. -/
import Derived.Test.YtbgcjgnhblhohaaCaL
import Derived.Test.YtbgcjgnhblhohaaCaI
namespace Go.Proofs.Ytbgcjgnhblhohaa
set_option linter.all false
open Go.RowKit Go.Sort Go.Deep Go.Shelf

/-- an int, as uint, by a small number: what remains -/
theorem uint_rem (i : Int) (n : Nat) (h0 : 0 < n) (h : n ≤ 100) : ∃ k : Nat, k < n ∧ wrap64 ((IntKind.u64.wrap i).tmod n) = (k : Int) ∧ IntKind.i64.wrap ((IntKind.u64.wrap i).tmod n) = (k : Int) := by
  have e : IntKind.u64.wrap i = i % 18446744073709551616 := by rfl
  have h1 : 0 ≤ i % 18446744073709551616 := Int.emod_nonneg _ (by omega)
  rw [e, Int.tmod_eq_emod_of_nonneg h1]
  have h2 : 0 ≤ (i % 18446744073709551616) % (n : Int) := Int.emod_nonneg _ (by omega)
  have h3 : (i % 18446744073709551616) % (n : Int) < n := Int.emod_lt_of_pos _ (by omega)
  generalize (i % 18446744073709551616) % (n : Int) = j at h2 h3
  refine ⟨j.toNat, by omega, ?_, ?_⟩
  · rw [IntWalk.wrap64_in _ (by omega)]
    omega
  · rw [IntWalk.i64_in _ (by omega)]
    omega
/-- the cache and the entry that was noted, all the call's own -/
structure Ts (w : World) (C S B : Nat) (x : Ent) (c : CacheD) (Z : World) : Prop where
  ca : CacheIn Z C S c
  en : Z.heap[B]? = some (entO x 25)
  be : Below w.heap.size w Z
  lc : w.heap.size ≤ C
  ls : w.heap.size ≤ S
  nc : B ≠ C
  ns : B ≠ S
theorem Ts.tch {w Z Z' : World} {C S B : Nat} {x : Ent} {c c' : CacheD} (h : Ts w C S B x c Z) (hc : CacheIn Z' C S c') (ht : Tch C S Z Z') : Ts w C S B x c' Z' :=
  ⟨hc, (ht.block B (Array.getElem?_eq_some_iff.1 h.en).1 (by have := h.nc; have := h.ns; omega)).trans h.en, h.be.trans (ht.below h.be.size (by have := h.lc; have := h.ls; rintro k (rfl | rfl) <;> omega)), h.lc, h.ls, h.nc, h.ns⟩
theorem Ts.below {w Z Z' : World} {C S B : Nat} {x : Ent} {c : CacheD} (h : Ts w C S B x c Z) (hb : Below Z.heap.size Z Z') : Ts w C S B x c Z' := h.tch (h.ca.below hb) (Tch.of_below hb)

theorem ts_note {w Z : World} {C S B : Nat} {x : Ent} {c : CacheD} {y : Ent} (h : Ts w C S B x c Z) (hm : c.most ≤ 4) :
    Calls Try.prog 8 #[.pointer (some ⟨C, 0, none⟩), .int .i64 1, y.agg] Z fun e Z' => e = .returned (.bool (noteC c 1 y).2) ∧ Ts w C S B x (noteC c 1 y).1 Z' ∧ Tch C S Z Z' :=
  (note_any 1 y Z h.ca hm).mono fun e Z' ⟨h1, h2, h3⟩ => ⟨h1, h.tch h2 h3, h3⟩
theorem ts_look {w Z : World} {C S B : Nat} {x : Ent} {c : CacheD} {k' : Val} {sh ep : Int} (h : Ts w C S B x c Z) (h0 : 0 ≤ c.hits) (h1 : c.hits < 1000000) (m0 : 0 ≤ c.miss) (m1 : c.miss < 1000000) :
    Calls Try.prog 9 #[.pointer (some ⟨C, 0, none⟩), .int .i64 1, k'.agg, .int .i64 sh, .int .i64 ep] Z fun e Z' => e = .returned (.tuple #[((lookS c 1 k' sh ep).getD .zero).agg, .bool (lookS c 1 k' sh ep).isSome]) ∧ Ts w C S B x (lookC c 1 k' sh ep) Z' ∧ Tch C S Z Z' :=
  (look_any 1 k' sh ep Z h.ca h0 h1 m0 m1).mono fun e Z' ⟨e1, e2, e3⟩ => ⟨e1, h.tch e2 e3, e3⟩
theorem ts_state {w Z : World} {C S B : Nat} {x : Ent} {c : CacheD} {n : Int} (h : Ts w C S B x c Z) :
    Calls Try.prog 10 #[.pointer (some ⟨C, 0, none⟩), .int .i64 n] Z fun e Z' => e = .returned (.int .i64 (stateD c n)) ∧ Below Z.heap.size Z Z' := state_any n Z h.ca
theorem ts_drop {w Z : World} {C S B : Nat} {x : Ent} {c c' : CacheD} {b : Bool} (h : Ts w C S B x c Z) (hn : dropC c 1 = (c', b)) :
    Calls Try.prog 11 #[.pointer (some ⟨C, 0, none⟩), .int .i64 1] Z fun e Z' => e = .returned (.bool b) ∧ Ts w C S B x c' Z' :=
  (drop_any 1 Z h.ca).mono fun e Z' ⟨h1, h2, h3⟩ => by rw [hn] at h1 h2; exact ⟨h1, h.tch h2 h3⟩
/-- the other entry, as it is noted -/
def notY (x y : Ent) : Ent := if y.sh == x.sh && y.k.eq x.k then { y with sh := xor1 x.sh } else y
theorem notY_of {x : Ent} (y : Ent) (hx : x.ok) : ofB (notY x y) x.k x.sh = false := by
  unfold notY
  split
  · have : (xor1 x.sh == x.sh) = false := beq_eq_false_iff_ne.2 (xor_ne _ hx.2.1)
    simp [ofB, this]
  · rename_i h
    rw [Bool.not_eq_true, Bool.and_eq_false_iff] at h
    unfold ofB
    rcases h with h | h <;> simp [h]
/-- what holds at each round's head -/
def TsI (w : World) (C S B : Nat) (x : Ent) (k : Nat) (wr : World) : Prop := ∃ c, Ts w C S B x c wr ∧ Told x c ∧ 0 ≤ c.hits ∧ c.hits ≤ k ∧ 0 ≤ c.miss ∧ c.miss ≤ k

set_option maxRecDepth 100000 in
set_option maxHeartbeats 16000000 in
theorem cacheTold_any (most : Int) (x : Ent) (lv : Value) (l : List Ent) (hx : x.ok) (w : World) (h1 : IsE w lv l) :
    Calls Try.prog 3 #[.int .i64 most, x.agg, lv] w fun e w' => e = .returned (.bool true) ∧ Below w.heap.size w w' := by
  obtain ⟨A, n1, rfl, c1, m1⟩ := h1.form
  have I1 := Lib.hid h1
  obtain ⟨m, hm, em, em2⟩ := uint_rem most 4 (by omega) (by omega)
  replace em : wrap64 ((IntKind.u64.wrap most).tmod 4) = (m : Int) := em
  replace em2 : IntKind.i64.wrap ((IntKind.u64.wrap most).tmod 4) = (m : Int) := em2
  obtain ⟨q, hq⟩ : ∃ q : Nat, q = m + 1 := ⟨_, rfl⟩
  have q1 : 1 ≤ q := by omega
  have q4 : q ≤ 4 := by omega
  have em3 : wrap64 (1 + (m : Int)) = (q : Int) := by rw [IntWalk.wrap64_in _ (by omega)]; omega
  have em4 : IntKind.i64.wrap (1 + (m : Int)) = (q : Int) := by rw [IntWalk.i64_in _ (by omega)]; omega
  obtain ⟨c0, N0, T0, hh0, hm0⟩ := told_start x q q1 q4
  clear hq hm
  have NN := Lib.hid N0
  have TT := Lib.hid (And.intro T0 (And.intro hh0 hm0))
  have HX := Lib.hid hx
  clear h1 N0 T0 hh0 hm0 hx
  unfold maxLen at m1
  go_enter Try.func3, Try.ntmps3
  go_upto_region 3 with (go_at_call 7; refine (new_any 2 q (by decide) q4 _).mono ?_; rintro e w1 ⟨rfl, hc, hb⟩; have R1 := Lib.hid (And.intro hc hb); clear hc hb)
  clear em em2 em3 em4
  refine wp_world (Ts w (w.heap.size + 1 + 1) (w.heap.size + 1) w.heap.size x (newD 2 q)) ?_ ?_
  · have hc := R1.out.1
    have hb := R1.out.2
    rw [World.size_alloc] at hc hb
    exact ⟨hc, (hb.block _ (by omega)).trans (heap_alloc_new _ _), (bl_al (Below.refl w.heap.size w) _).trans (hb.mono (by omega)), by omega, by omega, by omega, by omega⟩
  rintro Z0 g
  have G0 := Lib.hid g
  obtain ⟨a0, a1, a2, a3, a4, a5, a6, a7⟩ := (cells8 g.en).1
  clear g R1
  go_upto_region 5 with (go_at_call 8; refine (ts_note (y := x) G0.out q4).mono ?_; rintro e Z1 ⟨rfl, g, ht⟩; have G1 := Lib.hid g; rw [NN.out] at G1; clear g; have NB := congrArg Prod.snd NN.out; dsimp only at NB)
  refine wp_world (TsI w (w.heap.size + 1 + 1) (w.heap.size + 1) w.heap.size x 0) ⟨c0, G1.out, TT.out.1, by rw [TT.out.2.1]; exact ⟨Int.le_refl _, Int.le_refl _, by rw [TT.out.2.2]; exact ⟨Int.le_refl _, Int.le_refl _⟩⟩⟩ ?_
  rintro Z2 hI
  have HI := Lib.hid hI
  clear hI a0 a1 a2 a3 a4 a5 a6 a7 NB
  go_wp2
  go_loopw [9] (fun i wr => ∃ k : Nat, k ≤ l.length ∧ k ≤ 50 ∧ i = .int .i64 k ∧ TsI w (w.heap.size + 1 + 1) (w.heap.size + 1) w.heap.size x k wr) (fun i _ => l.length - (intOf i).toNat)
  case atStart => exact ⟨0, by omega, by omega, rfl, HI.out⟩
  case round =>
    obtain ⟨k, hk, hk5, rfl, c, g, tc, h0, h1, h2, h3⟩ := hrel
    have m4 : c.most ≤ 4 := by obtain ⟨_, _, _, _, _, _, h, _⟩ := tc; exact h
    have G := Lib.hid (And.intro g (And.intro tc (And.intro m4 (And.intro h0 (And.intro h1 (And.intro h2 h3))))))
    by_cases hlt : k < l.length ∧ k < 50
    · obtain ⟨hl1, hl2⟩ := hlt
      obtain ⟨b, off, cap', e, _, hb, hx⟩ := (I1.out.below g.be).at_ (by omega)
      simp only [Value.slice.injEq, true_and] at e
      obtain ⟨rfl, rfl⟩ := e
      have EX := List.getElem?_eq_getElem hl1
      generalize l[k] = y at *
      have y0 := hx k y EX 0 _ rfl
      have y1 := hx k y EX 1 _ rfl
      have y2 := hx k y EX 2 _ rfl
      have y3 := hx k y EX 3 _ rfl
      have y4 := hx k y EX 4 _ rfl
      have y5 := hx k y EX 5 _ rfl
      have y6 := hx k y EX 6 _ rfl
      have y7 := hx k y EX 7 _ rfl
      rw [Nat.add_zero] at y0
      obtain ⟨a0, a1, a2, a3, a4, a5, a6, a7⟩ := (cells8 g.en).1
      have lB : w.heap.size < wr.heap.size := (Array.getElem?_eq_some_iff.1 g.en).1
      have i0 : ¬ (k : Int) < 0 := by omega
      have i1 : (k : Int) < l.length := by omega
      have i2 : (k : Int) < 50 := by omega
      clear g tc h0 h1 h2 h3 hx EX hb
      cases hs : (y.sh == x.sh)
      · have NY := Lib.hid (show notY x y = y by simp [notY, hs])
        go_upto_region 11 with fail
        refine wp_world (fun Z : World => Ts w (w.heap.size + 1 + 1) (w.heap.size + 1) w.heap.size x c Z ∧ Z.heap[wr.heap.size]? = some (entO (notY x y) 25) ∧ wr.heap.size < Z.heap.size) ⟨?_, ?_, ?_⟩ ?_
        · exact G.out.1.below (bl_al (Below.refl _ _) _)
        · rw [NY.out]; exact heap_alloc_new _ _
        · simp
        rintro Z ⟨g, hy, lz⟩
        have FY := Lib.hid (notY_of y HX.out)
        have GZ := Lib.hid g
        obtain ⟨b0, b1, b2, b3, b4, b5, b6, b7⟩ := (cells8 hy).1
        have HY := Lib.hid hy
        clear a0 a1 a2 a3 a4 a5 a6 a7 y0 y1 y2 y3 y4 y5 y6 y7 g hy NY
        generalize notY x y = z at *
        go_upto_region 12 with (go_at_call 8; refine (ts_note (y := z) GZ.out G.out.2.2.1).mono ?_; rintro e Z1 ⟨rfl, g, ht⟩; have G1 := Lib.hid g; clear g ht b0 b1 b2 b3 b4 b5 b6 b7; obtain ⟨a0, a1, a2, a3, a4, a5, a6, a7⟩ := (cells8 G1.out.en).1)
        obtain ⟨t1, t2, t3⟩ := told_note G.out.2.1 FY.out
        have TN := Lib.hid (And.intro t1 (And.intro t2 t3))
        have TL := Lib.hid (told_look t1)
        clear t1 t2 t3
        generalize (noteC c 1 z).1 = c2 at *
        generalize (noteC c 1 z).2 = bb at *
        have bh := G.out.2.2.2
        go_upto_region 13 with (go_at_call 9; refine (ts_look (k' := x.k) G1.out (by rw [TN.out.2.1]; omega) (by rw [TN.out.2.1]; omega) (by rw [TN.out.2.2]; omega) (by rw [TN.out.2.2]; omega)).mono ?_; rintro e Z2 ⟨rfl, g, ht⟩; have G2 := Lib.hid g; clear g ht a0 a1 a2 a3 a4 a5 a6 a7)
        have tl := TL.out
        refine wp_world (fun Z : World => Ts w (w.heap.size + 1 + 1) (w.heap.size + 1) w.heap.size x (lookC c2 1 x.k x.sh x.ep) Z ∧ Z.heap[Z2.heap.size]? = some (entO ((lookS c2 1 x.k x.sh x.ep).getD .zero) 33)) ⟨G2.out.below (bl_al (Below.refl _ _) _), heap_alloc_new _ _⟩ ?_
        rintro Z3 ⟨g, hz⟩
        have G3 := Lib.hid g
        obtain ⟨a0, a1, a2, a3, a4, a5, a6, a7⟩ := (cells8 g.en).1
        have lB3 := (Array.getElem?_eq_some_iff.1 g.en).1
        obtain ⟨t1, t2, t3, t4, t5, t6⟩ := tl
        have BH := Lib.hid (And.intro t1 (And.intro t2 (And.intro t3 (And.intro t4 t5))))
        rcases t6 with ⟨hst, hlo⟩ | ⟨hst, hlo⟩
        · rw [hlo] at hz
          rw [hlo]
          have ST := Lib.hid (fun W (g : Ts w (w.heap.size + 1 + 1) (w.heap.size + 1) w.heap.size x (lookC c2 1 x.k x.sh x.ep) W) => by have := ts_state (n := 1) g; rw [hst] at this; exact this : ∀ W, Ts w (w.heap.size + 1 + 1) (w.heap.size + 1) w.heap.size x (lookC c2 1 x.k x.sh x.ep) W → Calls Try.prog 10 #[.pointer (some ⟨w.heap.size + 1 + 1, 0, none⟩), .int .i64 1] W fun e Z' => e = .returned (.int .i64 3) ∧ Below W.heap.size W Z')
          clear g hz hst hlo t1 t2 t3 t4 t5
          generalize lookC c2 1 x.k x.sh x.ep = c3 at *
          go_wp2_with (go_at_call 10; refine (callGr (ST.out _ G3.out)).mono ?_; rintro e w' ⟨pp, rfl, rfl⟩)
          go_roundw
          case rel => exact ⟨k + 1, by omega, by omega, by go_num, c3, G3.out.below (by (repeat (with_reducible first  | exact Below.refl _ _ | refine bl_rapp ?_ | (refine bl_set ?_ (by first | omega | (simp; done) | (simp; omega)) _) | refine bl_gr ?_ _ | refine bl_al ?_ _ | refine bl_drewN ?_ _ | refine Below.drew ?_))), BH.out.1, by have := BH.out; have := TN.out; omega, by have := BH.out; have := TN.out; omega, by have := BH.out; have := TN.out; omega, by have := BH.out; have := TN.out; omega⟩
          case measure => simp [intOf]; omega
        · rw [hlo] at hz
          rw [hlo]
          have ST := Lib.hid (fun W (g : Ts w (w.heap.size + 1 + 1) (w.heap.size + 1) w.heap.size x (lookC c2 1 x.k x.sh x.ep) W) => ts_state (n := 1) g : ∀ W, Ts w (w.heap.size + 1 + 1) (w.heap.size + 1) w.heap.size x (lookC c2 1 x.k x.sh x.ep) W → Calls Try.prog 10 #[.pointer (some ⟨w.heap.size + 1 + 1, 0, none⟩), .int .i64 1] W fun e Z' => e = .returned (.int .i64 (stateD (lookC c2 1 x.k x.sh x.ep) 1)) ∧ Below W.heap.size W Z')
          obtain ⟨b0, b1, b2, b3, b4, b5, b6, b7⟩ := (cells8 (e := x) hz).1
          have lZ := (Array.getElem?_eq_some_iff.1 hz).1
          have ex := Ent.eq_cols x
          clear g hz hlo t1 t2 t3 t4 t5
          generalize lookC c2 1 x.k x.sh x.ep = c3 at *
          generalize stateD c3 1 = st at *
          go_wp2_with (go_at_call 10; refine (callGr (ST.out _ G3.out)).mono ?_; rintro e w' ⟨pp, rfl, rfl⟩)
          go_roundw
          case rel => exact ⟨k + 1, by omega, by omega, by go_num, c3, G3.out.below (by (repeat (with_reducible first  | exact Below.refl _ _ | refine bl_rapp ?_ | (refine bl_set ?_ (by first | omega | (simp; done) | (simp; omega)) _) | refine bl_gr ?_ _ | refine bl_al ?_ _ | refine bl_drewN ?_ _ | refine Below.drew ?_))), BH.out.1, by have := BH.out; have := TN.out; omega, by have := BH.out; have := TN.out; omega, by have := BH.out; have := TN.out; omega, by have := BH.out; have := TN.out; omega⟩
          case measure => simp [intOf]; omega
      · cases hkk : (Val.mk y.k.k y.k.n y.k.s).eq ⟨x.k.k, x.k.n, x.k.s⟩
        · have NY := Lib.hid (show notY x y = y by unfold notY; rw [hs, if_neg]; rw [Bool.true_and]; exact Bool.eq_false_iff.1 hkk)
          go_upto_region 11 with fail
          refine wp_world (fun Z : World => Ts w (w.heap.size + 1 + 1) (w.heap.size + 1) w.heap.size x c Z ∧ Z.heap[wr.heap.size]? = some (entO (notY x y) 25) ∧ wr.heap.size < Z.heap.size) ⟨?_, ?_, ?_⟩ ?_
          · exact G.out.1.below (bl_al (Below.refl _ _) _)
          · rw [NY.out]; exact heap_alloc_new _ _
          · simp
          rintro Z ⟨g, hy, lz⟩
          have FY := Lib.hid (notY_of y HX.out)
          have GZ := Lib.hid g
          obtain ⟨b0, b1, b2, b3, b4, b5, b6, b7⟩ := (cells8 hy).1
          have HY := Lib.hid hy
          clear a0 a1 a2 a3 a4 a5 a6 a7 y0 y1 y2 y3 y4 y5 y6 y7 g hy NY
          generalize notY x y = z at *
          go_upto_region 12 with (go_at_call 8; refine (ts_note (y := z) GZ.out G.out.2.2.1).mono ?_; rintro e Z1 ⟨rfl, g, ht⟩; have G1 := Lib.hid g; clear g ht b0 b1 b2 b3 b4 b5 b6 b7; obtain ⟨a0, a1, a2, a3, a4, a5, a6, a7⟩ := (cells8 G1.out.en).1)
          obtain ⟨t1, t2, t3⟩ := told_note G.out.2.1 FY.out
          have TN := Lib.hid (And.intro t1 (And.intro t2 t3))
          have TL := Lib.hid (told_look t1)
          clear t1 t2 t3
          generalize (noteC c 1 z).1 = c2 at *
          generalize (noteC c 1 z).2 = bb at *
          have bh := G.out.2.2.2
          go_upto_region 13 with (go_at_call 9; refine (ts_look (k' := x.k) G1.out (by rw [TN.out.2.1]; omega) (by rw [TN.out.2.1]; omega) (by rw [TN.out.2.2]; omega) (by rw [TN.out.2.2]; omega)).mono ?_; rintro e Z2 ⟨rfl, g, ht⟩; have G2 := Lib.hid g; clear g ht a0 a1 a2 a3 a4 a5 a6 a7)
          have tl := TL.out
          refine wp_world (fun Z : World => Ts w (w.heap.size + 1 + 1) (w.heap.size + 1) w.heap.size x (lookC c2 1 x.k x.sh x.ep) Z ∧ Z.heap[Z2.heap.size]? = some (entO ((lookS c2 1 x.k x.sh x.ep).getD .zero) 33)) ⟨G2.out.below (bl_al (Below.refl _ _) _), heap_alloc_new _ _⟩ ?_
          rintro Z3 ⟨g, hz⟩
          have G3 := Lib.hid g
          obtain ⟨a0, a1, a2, a3, a4, a5, a6, a7⟩ := (cells8 g.en).1
          have lB3 := (Array.getElem?_eq_some_iff.1 g.en).1
          obtain ⟨t1, t2, t3, t4, t5, t6⟩ := tl
          have BH := Lib.hid (And.intro t1 (And.intro t2 (And.intro t3 (And.intro t4 t5))))
          rcases t6 with ⟨hst, hlo⟩ | ⟨hst, hlo⟩
          · rw [hlo] at hz
            rw [hlo]
            have ST := Lib.hid (fun W (g : Ts w (w.heap.size + 1 + 1) (w.heap.size + 1) w.heap.size x (lookC c2 1 x.k x.sh x.ep) W) => by have := ts_state (n := 1) g; rw [hst] at this; exact this : ∀ W, Ts w (w.heap.size + 1 + 1) (w.heap.size + 1) w.heap.size x (lookC c2 1 x.k x.sh x.ep) W → Calls Try.prog 10 #[.pointer (some ⟨w.heap.size + 1 + 1, 0, none⟩), .int .i64 1] W fun e Z' => e = .returned (.int .i64 3) ∧ Below W.heap.size W Z')
            clear g hz hst hlo t1 t2 t3 t4 t5
            generalize lookC c2 1 x.k x.sh x.ep = c3 at *
            go_wp2_with (go_at_call 10; refine (callGr (ST.out _ G3.out)).mono ?_; rintro e w' ⟨pp, rfl, rfl⟩)
            go_roundw
            case rel => exact ⟨k + 1, by omega, by omega, by go_num, c3, G3.out.below (by (repeat (with_reducible first  | exact Below.refl _ _ | refine bl_rapp ?_ | (refine bl_set ?_ (by first | omega | (simp; done) | (simp; omega)) _) | refine bl_gr ?_ _ | refine bl_al ?_ _ | refine bl_drewN ?_ _ | refine Below.drew ?_))), BH.out.1, by have := BH.out; have := TN.out; omega, by have := BH.out; have := TN.out; omega, by have := BH.out; have := TN.out; omega, by have := BH.out; have := TN.out; omega⟩
            case measure => simp [intOf]; omega
          · rw [hlo] at hz
            rw [hlo]
            have ST := Lib.hid (fun W (g : Ts w (w.heap.size + 1 + 1) (w.heap.size + 1) w.heap.size x (lookC c2 1 x.k x.sh x.ep) W) => ts_state (n := 1) g : ∀ W, Ts w (w.heap.size + 1 + 1) (w.heap.size + 1) w.heap.size x (lookC c2 1 x.k x.sh x.ep) W → Calls Try.prog 10 #[.pointer (some ⟨w.heap.size + 1 + 1, 0, none⟩), .int .i64 1] W fun e Z' => e = .returned (.int .i64 (stateD (lookC c2 1 x.k x.sh x.ep) 1)) ∧ Below W.heap.size W Z')
            obtain ⟨b0, b1, b2, b3, b4, b5, b6, b7⟩ := (cells8 (e := x) hz).1
            have lZ := (Array.getElem?_eq_some_iff.1 hz).1
            have ex := Ent.eq_cols x
            clear g hz hlo t1 t2 t3 t4 t5
            generalize lookC c2 1 x.k x.sh x.ep = c3 at *
            generalize stateD c3 1 = st at *
            go_wp2_with (go_at_call 10; refine (callGr (ST.out _ G3.out)).mono ?_; rintro e w' ⟨pp, rfl, rfl⟩)
            go_roundw
            case rel => exact ⟨k + 1, by omega, by omega, by go_num, c3, G3.out.below (by (repeat (with_reducible first  | exact Below.refl _ _ | refine bl_rapp ?_ | (refine bl_set ?_ (by first | omega | (simp; done) | (simp; omega)) _) | refine bl_gr ?_ _ | refine bl_al ?_ _ | refine bl_drewN ?_ _ | refine Below.drew ?_))), BH.out.1, by have := BH.out; have := TN.out; omega, by have := BH.out; have := TN.out; omega, by have := BH.out; have := TN.out; omega, by have := BH.out; have := TN.out; omega⟩
            case measure => simp [intOf]; omega
        · have NY := Lib.hid (show notY x y = { y with sh := xor1 x.sh } by unfold notY; rw [hs, if_pos]; rw [Bool.true_and]; exact hkk)
          go_upto_region 11 with fail
          refine wp_world (fun Z : World => Ts w (w.heap.size + 1 + 1) (w.heap.size + 1) w.heap.size x c Z ∧ Z.heap[wr.heap.size]? = some (entO (notY x y) 25) ∧ wr.heap.size < Z.heap.size) ⟨?_, ?_, ?_⟩ ?_
          · exact G.out.1.below (bl_al (Below.refl _ _) _)
          · rw [NY.out]; exact heap_alloc_new _ _
          · simp
          rintro Z ⟨g, hy, lz⟩
          have FY := Lib.hid (notY_of y HX.out)
          have GZ := Lib.hid g
          obtain ⟨b0, b1, b2, b3, b4, b5, b6, b7⟩ := (cells8 hy).1
          have HY := Lib.hid hy
          clear a0 a1 a2 a3 a4 a5 a6 a7 y0 y1 y2 y3 y4 y5 y6 y7 g hy NY
          generalize notY x y = z at *
          go_upto_region 12 with (go_at_call 8; refine (ts_note (y := z) GZ.out G.out.2.2.1).mono ?_; rintro e Z1 ⟨rfl, g, ht⟩; have G1 := Lib.hid g; clear g ht b0 b1 b2 b3 b4 b5 b6 b7; obtain ⟨a0, a1, a2, a3, a4, a5, a6, a7⟩ := (cells8 G1.out.en).1)
          obtain ⟨t1, t2, t3⟩ := told_note G.out.2.1 FY.out
          have TN := Lib.hid (And.intro t1 (And.intro t2 t3))
          have TL := Lib.hid (told_look t1)
          clear t1 t2 t3
          generalize (noteC c 1 z).1 = c2 at *
          generalize (noteC c 1 z).2 = bb at *
          have bh := G.out.2.2.2
          go_upto_region 13 with (go_at_call 9; refine (ts_look (k' := x.k) G1.out (by rw [TN.out.2.1]; omega) (by rw [TN.out.2.1]; omega) (by rw [TN.out.2.2]; omega) (by rw [TN.out.2.2]; omega)).mono ?_; rintro e Z2 ⟨rfl, g, ht⟩; have G2 := Lib.hid g; clear g ht a0 a1 a2 a3 a4 a5 a6 a7)
          have tl := TL.out
          refine wp_world (fun Z : World => Ts w (w.heap.size + 1 + 1) (w.heap.size + 1) w.heap.size x (lookC c2 1 x.k x.sh x.ep) Z ∧ Z.heap[Z2.heap.size]? = some (entO ((lookS c2 1 x.k x.sh x.ep).getD .zero) 33)) ⟨G2.out.below (bl_al (Below.refl _ _) _), heap_alloc_new _ _⟩ ?_
          rintro Z3 ⟨g, hz⟩
          have G3 := Lib.hid g
          obtain ⟨a0, a1, a2, a3, a4, a5, a6, a7⟩ := (cells8 g.en).1
          have lB3 := (Array.getElem?_eq_some_iff.1 g.en).1
          obtain ⟨t1, t2, t3, t4, t5, t6⟩ := tl
          have BH := Lib.hid (And.intro t1 (And.intro t2 (And.intro t3 (And.intro t4 t5))))
          rcases t6 with ⟨hst, hlo⟩ | ⟨hst, hlo⟩
          · rw [hlo] at hz
            rw [hlo]
            have ST := Lib.hid (fun W (g : Ts w (w.heap.size + 1 + 1) (w.heap.size + 1) w.heap.size x (lookC c2 1 x.k x.sh x.ep) W) => by have := ts_state (n := 1) g; rw [hst] at this; exact this : ∀ W, Ts w (w.heap.size + 1 + 1) (w.heap.size + 1) w.heap.size x (lookC c2 1 x.k x.sh x.ep) W → Calls Try.prog 10 #[.pointer (some ⟨w.heap.size + 1 + 1, 0, none⟩), .int .i64 1] W fun e Z' => e = .returned (.int .i64 3) ∧ Below W.heap.size W Z')
            clear g hz hst hlo t1 t2 t3 t4 t5
            generalize lookC c2 1 x.k x.sh x.ep = c3 at *
            go_wp2_with (go_at_call 10; refine (callGr (ST.out _ G3.out)).mono ?_; rintro e w' ⟨pp, rfl, rfl⟩)
            go_roundw
            case rel => exact ⟨k + 1, by omega, by omega, by go_num, c3, G3.out.below (by (repeat (with_reducible first  | exact Below.refl _ _ | refine bl_rapp ?_ | (refine bl_set ?_ (by first | omega | (simp; done) | (simp; omega)) _) | refine bl_gr ?_ _ | refine bl_al ?_ _ | refine bl_drewN ?_ _ | refine Below.drew ?_))), BH.out.1, by have := BH.out; have := TN.out; omega, by have := BH.out; have := TN.out; omega, by have := BH.out; have := TN.out; omega, by have := BH.out; have := TN.out; omega⟩
            case measure => simp [intOf]; omega
          · rw [hlo] at hz
            rw [hlo]
            have ST := Lib.hid (fun W (g : Ts w (w.heap.size + 1 + 1) (w.heap.size + 1) w.heap.size x (lookC c2 1 x.k x.sh x.ep) W) => ts_state (n := 1) g : ∀ W, Ts w (w.heap.size + 1 + 1) (w.heap.size + 1) w.heap.size x (lookC c2 1 x.k x.sh x.ep) W → Calls Try.prog 10 #[.pointer (some ⟨w.heap.size + 1 + 1, 0, none⟩), .int .i64 1] W fun e Z' => e = .returned (.int .i64 (stateD (lookC c2 1 x.k x.sh x.ep) 1)) ∧ Below W.heap.size W Z')
            obtain ⟨b0, b1, b2, b3, b4, b5, b6, b7⟩ := (cells8 (e := x) hz).1
            have lZ := (Array.getElem?_eq_some_iff.1 hz).1
            have ex := Ent.eq_cols x
            clear g hz hlo t1 t2 t3 t4 t5
            generalize lookC c2 1 x.k x.sh x.ep = c3 at *
            generalize stateD c3 1 = st at *
            go_wp2_with (go_at_call 10; refine (callGr (ST.out _ G3.out)).mono ?_; rintro e w' ⟨pp, rfl, rfl⟩)
            go_roundw
            case rel => exact ⟨k + 1, by omega, by omega, by go_num, c3, G3.out.below (by (repeat (with_reducible first  | exact Below.refl _ _ | refine bl_rapp ?_ | (refine bl_set ?_ (by first | omega | (simp; done) | (simp; omega)) _) | refine bl_gr ?_ _ | refine bl_al ?_ _ | refine bl_drewN ?_ _ | refine Below.drew ?_))), BH.out.1, by have := BH.out; have := TN.out; omega, by have := BH.out; have := TN.out; omega, by have := BH.out; have := TN.out; omega, by have := BH.out; have := TN.out; omega⟩
            case measure => simp [intOf]; omega
    · obtain ⟨c4, hd, hs1, hs0, hl, hh, hm⟩ := told_drop tc
      have DD := Lib.hid (And.intro hd (And.intro hl (And.intro hh hm)))
      have S1 := Lib.hid (fun W (g : Ts w (w.heap.size + 1 + 1) (w.heap.size + 1) w.heap.size x c4 W) => by have := ts_state (n := 1) g; rw [hs1] at this; exact this : ∀ W, Ts w (w.heap.size + 1 + 1) (w.heap.size + 1) w.heap.size x c4 W → Calls Try.prog 10 #[.pointer (some ⟨w.heap.size + 1 + 1, 0, none⟩), .int .i64 1] W fun e Z' => e = .returned (.int .i64 0) ∧ Below W.heap.size W Z')
      have S0 := Lib.hid (fun W (g : Ts w (w.heap.size + 1 + 1) (w.heap.size + 1) w.heap.size x c4 W) => by have := ts_state (n := 0) g; rw [hs0] at this; exact this : ∀ W, Ts w (w.heap.size + 1 + 1) (w.heap.size + 1) w.heap.size x c4 W → Calls Try.prog 10 #[.pointer (some ⟨w.heap.size + 1 + 1, 0, none⟩), .int .i64 0] W fun e Z' => e = .returned (.int .i64 0) ∧ Below W.heap.size W Z')
      clear g tc h0 h1 h2 h3 hd hs1 hs0 hl hh hm
      rcases (by omega : (¬ (k : Int) < l.length) ∨ ((k : Int) < l.length ∧ ¬ (k : Int) < 50)) with i1 | ⟨i1, i2⟩
      all_goals
        go_upto_region 17 with (first | (go_at_call 11; refine (ts_drop G.out.1 DD.out.1).mono ?_; rintro e Z1 ⟨rfl, g⟩; have G1 := Lib.hid g; clear g) | (go_at_call_of 10 (Value.int IntKind.i64 1); refine (callGr (S1.out _ (G1.out.below (by (repeat (with_reducible first  | exact Below.refl _ _ | refine bl_rapp ?_ | (refine bl_set ?_ (by first | omega | (simp; done) | (simp; omega)) _) | refine bl_gr ?_ _ | refine bl_al ?_ _ | refine bl_drewN ?_ _ | refine Below.drew ?_)))))).mono ?_; rintro e w' ⟨pp, rfl, rfl⟩) | (go_at_call_of 10 (Value.int IntKind.i64 0); refine (callGr (S0.out _ (G1.out.below (by (repeat (with_reducible first  | exact Below.refl _ _ | refine bl_rapp ?_ | (refine bl_set ?_ (by first | omega | (simp; done) | (simp; omega)) _) | refine bl_gr ?_ _ | refine bl_al ?_ _ | refine bl_drewN ?_ _ | refine Below.drew ?_)))))).mono ?_; rintro e w' ⟨pp, rfl, rfl⟩))
        refine wp_world (Ts w (w.heap.size + 1 + 1) (w.heap.size + 1) w.heap.size x c4) (G1.out.below (by (repeat (with_reducible first  | exact Below.refl _ _ | refine bl_rapp ?_ | (refine bl_set ?_ (by first | omega | (simp; done) | (simp; omega)) _) | refine bl_gr ?_ _ | refine bl_al ?_ _ | refine bl_drewN ?_ _ | refine Below.drew ?_)))) ?_
        rintro Z2 g
        have G2 := Lib.hid g
        obtain ⟨a0, a1, a2, a3, a4, a5, a6, a7⟩ := (cells8 g.en).1
        have bh := G.out.2.2.2
        clear g
        go_upto_region 18 with (go_at_call 9; refine (ts_look (k' := x.k) G2.out (by rw [DD.out.2.2.1]; omega) (by rw [DD.out.2.2.1]; omega) (by rw [DD.out.2.2.2]; omega) (by rw [DD.out.2.2.2]; omega)).mono ?_; rintro e Z3 ⟨rfl, g, _⟩; have G3 := Lib.hid g; rw [DD.out.2.1]; clear g)
        go_wp2_with (go_at_call 12; refine (callGr (goes_any _)).mono ?_; rintro e w' ⟨pp, rfl, rfl⟩)
        go_ret
        exact ⟨rfl, bl_tr G3.out.be (by (repeat (with_reducible first  | exact Below.refl _ _ | refine bl_rapp ?_ | (refine bl_set ?_ (by first | omega | (simp; done) | (simp; omega)) _) | refine bl_gr ?_ _ | refine bl_al ?_ _ | refine bl_drewN ?_ _ | refine Below.drew ?_)))⟩
end Go.Proofs.Ytbgcjgnhblhohaa
