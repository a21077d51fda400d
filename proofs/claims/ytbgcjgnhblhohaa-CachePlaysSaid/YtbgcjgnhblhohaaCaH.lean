/- Inline caches: the example of the document. -/
import Derived.Test.YtbgcjgnhblhohaaCaG
namespace Go.Proofs.Ytbgcjgnhblhohaa
set_option linter.all false
open Go.RowKit Go.Sort Go.Deep Go.Shelf

/-- a cache and a key at their blocks, all of them the call's own -/
structure Gs (w : World) (C S K : Nat) (k : Val) (c : CacheD) (Z : World) : Prop where
  ca : CacheIn Z C S c
  ke : Z.heap[K]? = some (.cells #[.int .i64 k.k, .int .i64 k.n, .string k.s] 23)
  be : Below w.heap.size w Z
  lc : w.heap.size ≤ C
  ls : w.heap.size ≤ S
  nc : K ≠ C
  ns : K ≠ S
theorem Gs.tch {w Z Z' : World} {C S K : Nat} {k : Val} {c c' : CacheD} (h : Gs w C S K k c Z) (hc : CacheIn Z' C S c') (ht : Tch C S Z Z') : Gs w C S K k c' Z' :=
  ⟨hc, (ht.block K (Array.getElem?_eq_some_iff.1 h.ke).1 (by have := h.nc; have := h.ns; omega)).trans h.ke, h.be.trans (ht.below h.be.size (by have := h.lc; have := h.ls; rintro k (rfl | rfl) <;> omega)), h.lc, h.ls, h.nc, h.ns⟩
theorem Gs.below {w Z Z' : World} {C S K : Nat} {k : Val} {c : CacheD} (h : Gs w C S K k c Z) (hb : Below Z.heap.size Z Z') : Gs w C S K k c Z' := h.tch (h.ca.below hb) (Tch.of_below hb)
theorem gs_note {w Z : World} {C S K : Nat} {k : Val} {c c' : CacheD} {x : Ent} {b : Bool} (h : Gs w C S K k c Z) (hm : c.most ≤ 4) (hn : noteC c 0 x = (c', b)) :
    Calls Try.prog 8 #[.pointer (some ⟨C, 0, none⟩), .int .i64 0, x.agg] Z fun e Z' => e = .returned (.bool b) ∧ Gs w C S K k c' Z' :=
  (note_any 0 x Z h.ca hm).mono fun e Z' ⟨h1, h2, h3⟩ => by rw [hn] at h1 h2; exact ⟨h1, h.tch h2 h3⟩
theorem gs_look {w Z : World} {C S K : Nat} {k : Val} {c c' : CacheD} {k' : Val} {sh ep : Int} {x : Ent} {b : Bool} (h : Gs w C S K k c Z) (h0 : 0 ≤ c.hits) (h1 : c.hits < 1000000) (m0 : 0 ≤ c.miss) (m1 : c.miss < 1000000) (hn : lookC c 0 k' sh ep = c') (hx : (lookS c 0 k' sh ep).getD .zero = x) (hb : (lookS c 0 k' sh ep).isSome = b) :
    Calls Try.prog 9 #[.pointer (some ⟨C, 0, none⟩), .int .i64 0, k'.agg, .int .i64 sh, .int .i64 ep] Z fun e Z' => e = .returned (.tuple #[x.agg, .bool b]) ∧ Gs w C S K k c' Z' :=
  (look_any 0 k' sh ep Z h.ca h0 h1 m0 m1).mono fun e Z' ⟨e1, e2, e3⟩ => by rw [hx, hb] at e1; rw [hn] at e2; exact ⟨e1, h.tch e2 e3⟩
theorem gs_drop {w Z : World} {C S K : Nat} {k : Val} {c c' : CacheD} {b : Bool} (h : Gs w C S K k c Z) (hn : dropC c 0 = (c', b)) :
    Calls Try.prog 11 #[.pointer (some ⟨C, 0, none⟩), .int .i64 0] Z fun e Z' => e = .returned (.bool b) ∧ Gs w C S K k c' Z' :=
  (drop_any 0 Z h.ca).mono fun e Z' ⟨h1, h2, h3⟩ => by rw [hn] at h1 h2; exact ⟨h1, h.tch h2 h3⟩
theorem gs_state {w Z : World} {C S K : Nat} {k : Val} {c : CacheD} {n : Int} (h : Gs w C S K k c Z) (hn : stateD c 0 = n) :
    Calls Try.prog 10 #[.pointer (some ⟨C, 0, none⟩), .int .i64 0] Z fun e Z' => e = .returned (.int .i64 n) ∧ Gs w C S K k c Z' :=
  (state_any 0 Z h.ca).mono fun e Z' ⟨h1, h2⟩ => by rw [hn] at h1; exact ⟨h1, h.below h2⟩

abbrev kA : Val := ⟨1, 0, ⟨#[97]⟩⟩
abbrev e5 : Ent := ⟨kA, 5, 1, 0, 0, 0⟩
abbrev e6 : Ent := ⟨kA, 6, 1, 1, 0, 0⟩
abbrev e7 : Ent := ⟨kA, 7, 0, 0, 0, 0⟩
abbrev eZ : Ent := ⟨.zero, 7, 0, 0, 0, 0⟩
abbrev cS (l : List Ent) (b : Bool) (h m : Int) : CacheD := ⟨2, [⟨l, b⟩], h, m⟩
theorem go_1 : noteC (cS [] false 0 0) 0 e5 = (cS [e5] false 0 0, true) := by simp [noteC, siteD, putS]
theorem go_2 : noteC (cS [e5] false 0 0) 0 e6 = (cS [e5, e6] false 0 0, true) := by simp [noteC, siteD, putS, ofB, List.findIdx?_cons]
theorem go_3 : stateD (cS [e5, e6] false 0 0) 0 = 2 := by simp [stateD, siteD]
theorem go_4 : lookS (cS [e5, e6] false 0 0) 0 kA 5 9 = some e5 := by simp [lookS, siteD, fitB, ofB, Val.eq_self]
theorem go_4c : lookC (cS [e5, e6] false 0 0) 0 kA 5 9 = cS [e5, e6] false 1 0 := by simp [lookC, siteD, fitB, ofB, Val.eq_self]
theorem go_5 : lookS (cS [e5, e6] false 1 0) 0 kA 6 9 = none := by simp [lookS, siteD, fitB, ofB, Val.eq_self]
theorem go_5c : lookC (cS [e5, e6] false 1 0) 0 kA 6 9 = cS [e5, e6] false 1 1 := by simp [lookC, siteD, fitB, ofB, Val.eq_self]
theorem go_6 : noteC (cS [e5, e6] false 1 1) 0 e7 = (cS [] true 1 1, false) := by simp [noteC, siteD, putS, ofB, List.findIdx?_cons]
theorem go_7 : stateD (cS [] true 1 1) 0 = 3 := by simp [stateD, siteD]
theorem go_8 : lookS (cS [] true 1 1) 0 kA 5 1 = none := by simp [lookS, siteD]
theorem go_8c : lookC (cS [] true 1 1) 0 kA 5 1 = cS [] true 1 2 := by simp [lookC, siteD]
theorem go_9 : dropC (cS [] true 1 2) 0 = (cS [] false 1 2, true) := by simp [dropC, siteD, putS]
theorem go_10 : noteC (cS [] false 1 2) 0 eZ = (cS [eZ] false 1 2, true) := by simp [noteC, siteD, putS]
theorem go_11 : stateD (cS [eZ] false 1 2) 0 = 1 := by simp [stateD, siteD]; rfl

set_option maxRecDepth 100000 in
set_option maxHeartbeats 8000000 in
theorem goes_any (w : World) : Calls Try.prog 12 #[] w fun e w' => e = .returned (.bool true) ∧ Below w.heap.size w w' := by
  go_enter Try.func12, Try.ntmps12
  go_upto_region 5 with (go_at_call 7; refine (new_any 1 2 (by decide) (by decide) _).mono ?_; rintro e w1 ⟨rfl, hc, hb⟩; have R1 := Lib.hid (And.intro hc hb); clear hc hb)
  refine wp_world (Gs w (w.heap.size + 1) w.heap.size w1.heap.size kA (cS [] false 0 0)) ?_ ?_
  · have hz : w.heap.size + 1 < w1.heap.size := R1.out.1.ltC
    exact ⟨R1.out.1.below (bl_al (Below.refl _ _) _), heap_alloc_new _ _, R1.out.2.trans ((bl_al (Below.refl _ _) _).mono R1.out.2.size), by omega, by omega, by omega, by omega⟩
  rintro Z0 g
  have G0 := Lib.hid g
  obtain ⟨k0, k1, k2⟩ := cells3 g.ke
  clear g R1
  go_upto_region 6 with (go_at_call 8; refine (gs_note (x := e5) G0.out (by decide) go_1).mono ?_; rintro e Z1 ⟨rfl, g⟩; have G1 := Lib.hid g; clear k0 k1 k2; obtain ⟨k0, k1, k2⟩ := cells3 g.ke; clear g)
  go_upto_region 7 with (go_at_call 8; refine (gs_note (x := e6) G1.out (by decide) go_2).mono ?_; rintro e Z2 ⟨rfl, g⟩; have G2 := Lib.hid g; clear k0 k1 k2; obtain ⟨k0, k1, k2⟩ := cells3 g.ke; clear g)
  go_upto_region 8 with (go_at_call 10; refine (gs_state G2.out go_3).mono ?_; rintro e Z3 ⟨rfl, g⟩; have G3 := Lib.hid g; clear k0 k1 k2; obtain ⟨k0, k1, k2⟩ := cells3 g.ke; have l3 := (Array.getElem?_eq_some_iff.1 g.ke).1; clear g)
  go_upto_region 9 with (go_at_call 9; refine (gs_look (k' := kA) (x := e5) (b := true) G3.out (by decide) (by decide) (by decide) (by decide) go_4c (by rw [go_4]; rfl) (by rw [go_4]; rfl)).mono ?_; rintro e Z4 ⟨rfl, g⟩; have G4 := Lib.hid g; clear k0 k1 k2; obtain ⟨k0, k1, k2⟩ := cells3 g.ke; have l4 := (Array.getElem?_eq_some_iff.1 g.ke).1; clear g)
  refine wp_world (Gs w (w.heap.size + 1) w.heap.size w1.heap.size kA (cS [e5, e6] false 1 0)) (G4.out.below (by (repeat (with_reducible first  | exact Below.refl _ _ | refine bl_rapp ?_ | (refine bl_set ?_ (by first | omega | (simp; done) | (simp; omega)) _) | refine bl_gr ?_ _ | refine bl_al ?_ _ | refine bl_drewN ?_ _ | refine Below.drew ?_)))) ?_
  rintro Z5 g
  have G5 := Lib.hid g
  clear k0 k1 k2
  obtain ⟨k0, k1, k2⟩ := cells3 g.ke
  have l5 := (Array.getElem?_eq_some_iff.1 g.ke).1
  clear g
  go_upto_region 10 with (go_at_call 9; refine (gs_look (k' := kA) (x := .zero) (b := false) G5.out (by decide) (by decide) (by decide) (by decide) go_5c (by rw [go_5]; rfl) (by rw [go_5]; rfl)).mono ?_; rintro e Z6 ⟨rfl, g⟩; have G6 := Lib.hid g; clear k0 k1 k2; obtain ⟨k0, k1, k2⟩ := cells3 g.ke; have l6 := (Array.getElem?_eq_some_iff.1 g.ke).1; clear g)
  refine wp_world (Gs w (w.heap.size + 1) w.heap.size w1.heap.size kA (cS [e5, e6] false 1 1)) (G6.out.below (by (repeat (with_reducible first  | exact Below.refl _ _ | refine bl_rapp ?_ | (refine bl_set ?_ (by first | omega | (simp; done) | (simp; omega)) _) | refine bl_gr ?_ _ | refine bl_al ?_ _ | refine bl_drewN ?_ _ | refine Below.drew ?_)))) ?_
  rintro Z7 g
  have G7 := Lib.hid g
  clear k0 k1 k2
  obtain ⟨k0, k1, k2⟩ := cells3 g.ke
  clear g
  go_upto_region 11 with (go_at_call 8; refine (gs_note (x := e7) G7.out (by decide) go_6).mono ?_; rintro e Z8 ⟨rfl, g⟩; have G8 := Lib.hid g; clear k0 k1 k2; obtain ⟨k0, k1, k2⟩ := cells3 g.ke; clear g)
  go_upto_region 12 with (go_at_call 10; refine (gs_state G8.out go_7).mono ?_; rintro e Z9 ⟨rfl, g⟩; have G9 := Lib.hid g; clear k0 k1 k2; obtain ⟨k0, k1, k2⟩ := cells3 g.ke; have l9 := (Array.getElem?_eq_some_iff.1 g.ke).1; clear g)
  go_upto_region 13 with (go_at_call 9; refine (gs_look (k' := kA) (x := .zero) (b := false) G9.out (by decide) (by decide) (by decide) (by decide) go_8c (by rw [go_8]; rfl) (by rw [go_8]; rfl)).mono ?_; rintro e Z10 ⟨rfl, g⟩; have G10 := Lib.hid g; clear k0 k1 k2 g)
  refine wp_world (Gs w (w.heap.size + 1) w.heap.size w1.heap.size kA (cS [] true 1 2)) (G10.out.below (by (repeat (with_reducible first  | exact Below.refl _ _ | refine bl_rapp ?_ | (refine bl_set ?_ (by first | omega | (simp; done) | (simp; omega)) _) | refine bl_gr ?_ _ | refine bl_al ?_ _ | refine bl_drewN ?_ _ | refine Below.drew ?_)))) ?_
  rintro Z11 g
  have G11 := Lib.hid g
  clear g
  go_upto_region 14 with (first | (go_at_call 11; refine (gs_drop G11.out go_9).mono ?_; rintro e Z12 ⟨rfl, g⟩; have G12 := Lib.hid g; clear g) | (go_at_call 8; refine (gs_note (x := eZ) G12.out (by decide) go_10).mono ?_; rintro e Z13 ⟨rfl, g⟩; have G13 := Lib.hid g; clear g))
  go_wp2_with (first | (go_at_call 10; refine (gs_state G13.out go_11).mono ?_; rintro e Z14 ⟨rfl, g⟩; have G14 := Lib.hid g; clear g) | (go_at_call 15; refine (callGr (hits_any _ (G14.out.ca.below (by (repeat (with_reducible first  | exact Below.refl _ _ | refine bl_rapp ?_ | (refine bl_set ?_ (by first | omega | (simp; done) | (simp; omega)) _) | refine bl_gr ?_ _ | refine bl_al ?_ _ | refine bl_drewN ?_ _ | refine Below.drew ?_)))))).mono ?_; rintro e w' ⟨pp, rfl, rfl⟩) | (go_at_call 16; refine (callGr (misses_any _ (G14.out.ca.below (by (repeat (with_reducible first  | exact Below.refl _ _ | refine bl_rapp ?_ | (refine bl_set ?_ (by first | omega | (simp; done) | (simp; omega)) _) | refine bl_gr ?_ _ | refine bl_al ?_ _ | refine bl_drewN ?_ _ | refine Below.drew ?_)))))).mono ?_; rintro e w' ⟨pp, rfl, rfl⟩))
  go_ret
  exact ⟨rfl, bl_tr G14.out.be (by (repeat (with_reducible first  | exact Below.refl _ _ | refine bl_rapp ?_ | (refine bl_set ?_ (by first | omega | (simp; done) | (simp; omega)) _) | refine bl_gr ?_ _ | refine bl_al ?_ _ | refine bl_drewN ?_ _ | refine Below.drew ?_)))⟩
end Go.Proofs.Ytbgcjgnhblhohaa
