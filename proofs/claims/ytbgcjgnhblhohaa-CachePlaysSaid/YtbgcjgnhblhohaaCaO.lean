/- Inline caches: the law CacheFew, walked. -/
import Derived.Test.YtbgcjgnhblhohaaCaN
import Derived.Test.YtbgcjgnhblhohaaCaM
import Derived.Test.YtbgcjgnhblhohaaCaJ
namespace Go.Proofs.Ytbgcjgnhblhohaa
set_option linter.all false
open Go.RowKit Go.Sort Go.Deep Go.Shelf

/-- the cache, all of it the call's own -/
structure Fs (w : World) (C S : Nat) (c : CacheD) (Z : World) : Prop where
  ca : CacheIn Z C S c
  be : Below w.heap.size w Z
  lc : w.heap.size ≤ C
  ls : w.heap.size ≤ S
theorem Fs.tch {w Z Z' : World} {C S : Nat} {c c' : CacheD} (h : Fs w C S c Z) (hc : CacheIn Z' C S c') (ht : Tch C S Z Z') : Fs w C S c' Z' :=
  ⟨hc, h.be.trans (ht.below h.be.size (by have := h.lc; have := h.ls; rintro k (rfl | rfl) <;> omega)), h.lc, h.ls⟩
theorem Fs.below {w Z Z' : World} {C S : Nat} {c : CacheD} (h : Fs w C S c Z) (hb : Below Z.heap.size Z Z') : Fs w C S c Z' := h.tch (h.ca.below hb) (Tch.of_below hb)
theorem fs_note {w Z : World} {C S : Nat} {c : CacheD} {y : Ent} {n : Int} (h : Fs w C S c Z) (hm : c.most ≤ 4) :
    Calls Try.prog 8 #[.pointer (some ⟨C, 0, none⟩), .int .i64 n, y.agg] Z fun e Z' => e = .returned (.bool (noteC c n y).2) ∧ Fs w C S (noteC c n y).1 Z' ∧ Tch C S Z Z' :=
  (note_any n y Z h.ca hm).mono fun e Z' ⟨h1, h2, h3⟩ => ⟨h1, h.tch h2 h3, h3⟩
theorem fs_look {w Z : World} {C S : Nat} {c : CacheD} {k' : Val} {n sh ep : Int} (h : Fs w C S c Z) (h0 : 0 ≤ c.hits) (h1 : c.hits < 1000000) (m0 : 0 ≤ c.miss) (m1 : c.miss < 1000000) :
    Calls Try.prog 9 #[.pointer (some ⟨C, 0, none⟩), .int .i64 n, k'.agg, .int .i64 sh, .int .i64 ep] Z fun e Z' => e = .returned (.tuple #[((lookS c n k' sh ep).getD .zero).agg, .bool (lookS c n k' sh ep).isSome]) ∧ Fs w C S (lookC c n k' sh ep) Z' ∧ Tch C S Z Z' :=
  (look_any n k' sh ep Z h.ca h0 h1 m0 m1).mono fun e Z' ⟨e1, e2, e3⟩ => ⟨e1, h.tch e2 e3, e3⟩
abbrev actO (a : ActD) : Obj := .cells #[.int .i64 a.kd, .int .i64 a.st, .int .i64 a.x.k.k, .int .i64 a.x.k.n, .string a.x.k.s, .int .i64 a.x.sh, .int .i64 a.x.ep, .int .i64 a.x.ho, .int .i64 a.x.sl, .int .i64 a.x.fo] 42
theorem cells10 {w : World} {b : Nat} {a : ActD} (h : w.heap[b]? = some (actO a)) : w.cell? ⟨b, 0, none⟩ = some (.int .i64 a.kd) ∧ w.cell? ⟨b, 1, none⟩ = some (.int .i64 a.st) ∧ w.cell? ⟨b, 2, none⟩ = some (.int .i64 a.x.k.k) ∧ w.cell? ⟨b, 3, none⟩ = some (.int .i64 a.x.k.n) ∧ w.cell? ⟨b, 4, none⟩ = some (.string a.x.k.s) ∧
    w.cell? ⟨b, 5, none⟩ = some (.int .i64 a.x.sh) ∧ w.cell? ⟨b, 6, none⟩ = some (.int .i64 a.x.ep) ∧ w.cell? ⟨b, 7, none⟩ = some (.int .i64 a.x.ho) ∧ w.cell? ⟨b, 8, none⟩ = some (.int .i64 a.x.sl) ∧ w.cell? ⟨b, 9, none⟩ = some (.int .i64 a.x.fo) := by
  and_intros <;> (rw [cell_of_row w b _ _ _ _ h]; rfl)
def FewI (w : World) (C S m : Nat) (lk : Int) (wr : World) : Prop := ∃ c, Fs w C S c wr ∧ FewW c m lk

set_option maxRecDepth 100000 in
set_option maxHeartbeats 32000000 in
theorem cacheFew_any (most : Int) (lv : Value) (l : List ActD) (w : World) (h1 : IsA w lv l) :
    Calls Try.prog 4 #[.int .i64 most, lv] w fun e w' => e = .returned (.bool true) ∧ Below w.heap.size w w' := by
  obtain ⟨A, n1, rfl, c1, m1⟩ := h1.form
  have I1 := Lib.hid h1
  obtain ⟨m, hm, em, em2⟩ := uint_rem most 5 (by omega) (by omega)
  replace em : wrap64 ((IntKind.u64.wrap most).tmod 5) = (m : Int) := em
  replace em2 : IntKind.i64.wrap ((IntKind.u64.wrap most).tmod 5) = (m : Int) := em2
  have m4 : m ≤ 4 := by omega
  clear h1 hm
  unfold maxLen at m1
  go_enter Try.func4, Try.ntmps4
  go_upto_region 6 with (go_at_call 7; refine (new_any 3 m (by decide) m4 _).mono ?_; rintro e w1 ⟨rfl, hc, hb⟩; have R1 := Lib.hid (And.intro hc hb); clear hc hb)
  clear em em2
  refine wp_world (FewI w (w.heap.size + 1) w.heap.size m 0) ⟨_, ⟨R1.out.1, R1.out.2, by omega, by omega⟩, few_new m⟩ ?_
  rintro Z0 hI
  have HI := Lib.hid hI
  clear hI
  go_wp2
  go_loopw [7, 8] (fun lk i wr => ∃ (k : Nat) (n : Int), k ≤ l.length ∧ k ≤ 200 ∧ i = .int .i64 k ∧ lk = .int .i64 n ∧ 0 ≤ n ∧ n ≤ k ∧ FewI w (w.heap.size + 1) (w.heap.size) m n wr) (fun _ i _ => l.length - (intOf i).toNat)
  case atStart => exact ⟨0, 0, by omega, by omega, rfl, rfl, by omega, by omega, HI.out⟩
  case round =>
    obtain ⟨k, n, hk, hk5, rfl, rfl, hn0, hnk, c, g, fw⟩ := hrel
    have G := Lib.hid (And.intro g fw)
    by_cases hlt : k < l.length ∧ k < 200
    · obtain ⟨hl1, hl2⟩ := hlt
      obtain ⟨b, off, cap', e, _, hb, hx⟩ := (I1.out.below g.be).at_ (by omega)
      simp only [Value.slice.injEq, true_and] at e
      obtain ⟨rfl, rfl⟩ := e
      have EX := List.getElem?_eq_getElem hl1
      generalize l[k] = y at *
      have y0 := hx k y EX 0 _ rfl
      have y1 := hx k y EX 1 _ rfl
      have y2 := hx k y EX 2 _ rfl
      have y3 := hx k y EX 3 _ rfl
      have y4 := hx k y EX 4 _ rfl
      have y5 := hx k y EX 5 _ rfl
      have y6 := hx k y EX 6 _ rfl
      have y7 := hx k y EX 7 _ rfl
      have y8 := hx k y EX 8 _ rfl
      have y9 := hx k y EX 9 _ rfl
      rw [Nat.add_zero] at y0
      have i0 : ¬ (k : Int) < 0 := by omega
      have i1 : (k : Int) < l.length := by omega
      have i2 : (k : Int) < 200 := by omega
      clear g fw hx EX hb
      go_upto_region 10 with fail
      refine wp_world (fun Z : World => Fs w (w.heap.size + 1) (w.heap.size) c Z ∧ Z.heap[wr.heap.size]? = some (actO y)) ⟨G.out.1.below (bl_al (Below.refl _ _) _), heap_alloc_new _ _⟩ ?_
      rintro Z ⟨g, hy⟩
      have GZ := Lib.hid (And.intro g hy)
      obtain ⟨b0, b1, b2, b3, b4, b5, b6, b7, b8, b9⟩ := cells10 hy
      clear y0 y1 y2 y3 y4 y5 y6 y7 y8 y9 g hy
      go_upto_if 47 with fail
      go_cut [7, 10, 11] from 47 to 100 (fun s7 s10 s11 Y => ∃ n' : Int, s7 = .int .i64 n' ∧ 0 ≤ n' ∧ n' ≤ (k : Int) + 1 ∧ FewI w (w.heap.size + 1) (w.heap.size) m n' Y)
      case first =>
        have lZ := (Array.getElem?_eq_some_iff.1 GZ.out.2).1
        have M4 := G.out.2.1
        cases hkd : (y.kd == 0)
        · go_wp2_with (go_at_call 8; refine (fs_note (y := y.x) GZ.out.1 (by rw [M4]; exact m4)).mono ?_; rintro e Z1 ⟨rfl, g, _⟩; have G1 := Lib.hid g; clear g)
          go_meet
          exact ⟨n, rfl, hn0, by omega, _, G1.out, few_note G.out.2 _ _⟩
        · have bh := G.out.2.2.2.2
          go_upto_region 12 with (go_at_call 9; refine (fs_look (k' := y.x.k) GZ.out.1 bh.1 (by omega) bh.2.1 (by omega)).mono ?_; rintro e Z1 ⟨rfl, g, ht⟩; have G1 := Lib.hid (And.intro g ((ht.block _ lZ (by have := GZ.out.1.ca.ltC; have := G.out.1.ca.ltC; have := G.out.1.ca.ltS; omega)).trans GZ.out.2)); clear g ht)
          have FL := Lib.hid (few_look G.out.2 y.st y.x.k y.x.sh y.x.ep)
          refine wp_world (fun Z : World => Fs w (w.heap.size + 1) (w.heap.size) (lookC c y.st y.x.k y.x.sh y.x.ep) Z ∧ Z.heap[wr.heap.size]? = some (actO y) ∧ Z.heap[Z1.heap.size]? = some (entO ((lookS c y.st y.x.k y.x.sh y.x.ep).getD .zero) 33)) ⟨G1.out.1.below (bl_al (Below.refl _ _) _), ((bl_al (Below.refl Z1.heap.size Z1) _).block _ (Array.getElem?_eq_some_iff.1 G1.out.2).1).trans G1.out.2, heap_alloc_new _ _⟩ ?_
          rintro Z2 ⟨g, hy, hz⟩
          have G2 := Lib.hid g
          have l1 := (Array.getElem?_eq_some_iff.1 hy).1
          have l2 := (Array.getElem?_eq_some_iff.1 hz).1
          clear b0 b1 b2 b3 b4 b5 b6 b7 b8 b9 g
          obtain ⟨b0, b1, b2, b3, b4, b5, b6, b7, b8, b9⟩ := cells10 hy
          have LK := Lib.hid (fun e he => lookS_fit (c := c) (n := y.st) (k := y.x.k) (sh := y.x.sh) (ep := y.x.ep) (e := e) he)
          generalize lookS c y.st y.x.k y.x.sh y.x.ep = LS at *
          generalize lookC c y.st y.x.k y.x.sh y.x.ep = LC at *
          have ends : ∀ lk', (if 0 ≤ y.st ∧ y.st < 3 then n + 1 else n) = lk' → 0 ≤ lk' ∧ lk' ≤ (k : Int) + 1 ∧ FewW LC m lk' := fun lk' h => by
            have := FL.out
            rw [h] at this
            refine ⟨?_, ?_, this⟩ <;> (split at h <;> omega)
          have EN := Lib.hid ends
          clear ends FL hy bh
          rcases (by omega : (¬ y.st ≥ 0 ∧ ¬ (0 ≤ y.st ∧ y.st < 3)) ∨ (y.st ≥ 0 ∧ ¬ y.st < 3 ∧ ¬ (0 ≤ y.st ∧ y.st < 3)) ∨ (y.st ≥ 0 ∧ y.st < 3 ∧ (0 ≤ y.st ∧ y.st < 3))) with ⟨s1, s3⟩ | ⟨s1, s2, s3⟩ | ⟨s1, s2, s3⟩
          all_goals
            first | (have E3 := Lib.hid (EN.out _ (if_neg s3)); clear s3) | (have E3 := Lib.hid (EN.out _ (if_pos s3)); clear s3)
            cases LS with
            | some e =>
              have FI := Lib.hid (fun W => by have := fits_any e y.x.k y.x.sh y.x.ep W; rw [LK.out e rfl] at this; exact this : ∀ W, Calls Try.prog 13 #[e.agg, y.x.k.agg, .int .i64 y.x.sh, .int .i64 y.x.ep] W fun e w' => e = .returned (.bool true) ∧ Below W.heap.size W w')
              obtain ⟨x0, x1, x2, x3, x4, x5, x6, x7⟩ := (cells8 (e := e) hz).1
              go_wp2_with (go_at_call 13; refine (callGr (FI.out _)).mono ?_; rintro e w' ⟨pp, rfl, rfl⟩)
              go_meet
              exact ⟨_, rfl, E3.out.1, E3.out.2.1, LC, G2.out.below (by (repeat (with_reducible first  | exact Below.refl _ _ | refine bl_rapp ?_ | (refine bl_set ?_ (by first | omega | (simp; done) | (simp; omega)) _) | refine bl_gr ?_ _ | refine bl_al ?_ _ | refine bl_drewN ?_ _ | refine Below.drew ?_))), E3.out.2.2⟩
            | none =>
              have ex := Ent.eq_cols .zero
              obtain ⟨x0, x1, x2, x3, x4, x5, x6, x7⟩ := (cells8 (e := .zero) hz).1
              cases hfz : fitB .zero y.x.k y.x.sh y.x.ep
              all_goals
                have FI := Lib.hid (fun W => by have := fits_any .zero y.x.k y.x.sh y.x.ep W; rw [hfz] at this; exact this : ∀ W, Calls Try.prog 13 #[Ent.zero.agg, y.x.k.agg, .int .i64 y.x.sh, .int .i64 y.x.ep] W fun e w' => e = .returned (.bool _) ∧ Below W.heap.size W w')
                clear hfz
                go_wp2_with (go_at_call 13; refine (callGr (FI.out _)).mono ?_; rintro e w' ⟨pp, rfl, rfl⟩)
                go_meet
                exact ⟨_, rfl, E3.out.1, E3.out.2.1, LC, G2.out.below (by (repeat (with_reducible first  | exact Below.refl _ _ | refine bl_rapp ?_ | (refine bl_set ?_ (by first | omega | (simp; done) | (simp; omega)) _) | refine bl_gr ?_ _ | refine bl_al ?_ _ | refine bl_drewN ?_ _ | refine Below.drew ?_))), E3.out.2.2⟩
      case rest =>
        obtain ⟨n', rfl, hn0', hnk', hI⟩ := hcut
        rename_i Y
        have HI := Lib.hid hI
        clear hI b0 b1 b2 b3 b4 b5 b6 b7 b8 b9
        go_wp2
        go_loopw [101] (fun s W => ∃ q : Nat, q ≤ 3 ∧ s = .int .i64 q ∧ FewI w (w.heap.size + 1) (w.heap.size) m n' W) (fun s _ => 3 - (intOf s).toNat)
        case atStart => exact ⟨0, by omega, rfl, HI.out⟩
        case round =>
          obtain ⟨q, hq, rfl, c3, g3, fw3⟩ := hrel
          have G3 := Lib.hid (And.intro g3 fw3)
          clear g3 fw3
          by_cases hq3 : q < 3
          · obtain ⟨hL1, hL2⟩ := few_entries G3.out.2 (q : Int)
            have HD := Lib.hid hL2
            have hLm : ¬ ((entriesD c3 q).length : Int) > m := by omega
            have q3' : (q : Int) < 3 := by omega
            go_upto_region 23 with (go_at_call 14; refine (entries_any (q : Int) _ G3.out.1.ca).mono ?_; rintro e Z5 ⟨v, rfl, ho, hb⟩; obtain ⟨A5, n5, rfl⟩ := ownsRow_form ho; have O5 := Lib.hid (And.intro ho hb); clear ho hb)
            generalize entriesD c3 (q : Int) = L at *
            have lenL : L.length ≤ 4 := by omega
            clear hL1 hL2 hLm
            have FB := Lib.hid (show ∀ W, Below Z5.heap.size Z5 W → FewI w (w.heap.size + 1) (w.heap.size) m n' W from fun W hW => ⟨c3, (G3.out.1.below O5.out.2).below hW, G3.out.2⟩)
            go_wp2
            go_loopw [113] (fun j W => ∃ a : Nat, a ≤ L.length ∧ j = .int .i64 a ∧ Below Z5.heap.size Z5 W) (fun j _ => L.length - (intOf j).toNat)
            case atStart => exact ⟨0, by omega, rfl, Below.refl _ _⟩
            case round =>
              obtain ⟨a, ha, rfl, hB⟩ := hrel
              have HB := Lib.hid hB
              by_cases ha2 : a < L.length
              · have a2' : (a : Int) < L.length := by omega
                have a0' : ¬ (a : Int) < 0 := by omega
                clear hB
                go_wp2
                go_loopw [117] (fun t W => ∃ d : Nat, d ≤ a ∧ t = .int .i64 d ∧ Below Z5.heap.size Z5 W) (fun t _ => a - (intOf t).toNat)
                case atStart => exact ⟨0, by omega, rfl, HB.out⟩
                case round =>
                  obtain ⟨d, hd, rfl, hB⟩ := hrel
                  have HB2 := Lib.hid hB
                  clear hB
                  by_cases hd2 : d < a
                  · have d2' : (d : Int) < a := by omega
                    have d0' : ¬ (d : Int) < 0 := by omega
                    have d3' : (d : Int) < L.length := by omega
                    obtain ⟨b5, o5, cap5, e5, _, hb5, hx5⟩ := (OwnE.isE O5.out.1).at_ (by omega)
                    simp only [Value.slice.injEq, true_and] at e5
                    obtain ⟨rfl, rfl⟩ := e5
                    obtain ⟨ea, hea⟩ : ∃ ea, L[a]? = some ea := ⟨_, List.getElem?_eq_getElem (by omega)⟩
                    obtain ⟨eb, heb⟩ : ∃ eb, L[d]? = some eb := ⟨_, List.getElem?_eq_getElem (by omega)⟩
                    have OF := HD.out d a eb ea hd2 heb hea
                    have KL := Lib.hid (show ∀ Z, Below Z5.heap.size Z5 Z → Z.cell? ⟨b5, o5 + a * 8 + 3, none⟩ = some (.int .i64 ea.sh) ∧ Z.cell? ⟨b5, o5 + d * 8 + 3, none⟩ = some (.int .i64 eb.sh) ∧ Z.cell? ⟨b5, o5 + a * 8, none⟩ = some (.int .i64 ea.k.k) ∧ Z.cell? ⟨b5, o5 + a * 8 + 1, none⟩ = some (.int .i64 ea.k.n) ∧ Z.cell? ⟨b5, o5 + a * 8 + 2, none⟩ = some (.string ea.k.s) ∧ Z.cell? ⟨b5, o5 + d * 8, none⟩ = some (.int .i64 eb.k.k) ∧ Z.cell? ⟨b5, o5 + d * 8 + 1, none⟩ = some (.int .i64 eb.k.n) ∧ Z.cell? ⟨b5, o5 + d * 8 + 2, none⟩ = some (.string eb.k.s) from fun Z hZ =>
                      ⟨(hZ.cell (p := ⟨b5, _, none⟩) hb5).trans (hx5 a ea hea 3 _ rfl), (hZ.cell (p := ⟨b5, _, none⟩) hb5).trans (hx5 d eb heb 3 _ rfl), (hZ.cell (p := ⟨b5, _, none⟩) hb5).trans (hx5 a ea hea 0 _ rfl), (hZ.cell (p := ⟨b5, _, none⟩) hb5).trans (hx5 a ea hea 1 _ rfl), (hZ.cell (p := ⟨b5, _, none⟩) hb5).trans (hx5 a ea hea 2 _ rfl), (hZ.cell (p := ⟨b5, _, none⟩) hb5).trans (hx5 d eb heb 0 _ rfl), (hZ.cell (p := ⟨b5, _, none⟩) hb5).trans (hx5 d eb heb 1 _ rfl), (hZ.cell (p := ⟨b5, _, none⟩) hb5).trans (hx5 d eb heb 2 _ rfl)⟩)
                    clear hb5 hx5 hea heb
                    cases hs : (ea.sh == eb.sh)
                    · clear OF
                      go_upto_region 29 with fail
                      (refine wp_region_held_drew (S := (fun Z : World => Below Z5.heap.size Z5 Z)) Try.mixed (by ((repeat (with_reducible first | exact HB2.out | exact Below.refl _ _ | refine bl_rapp ?_ | (refine bl_set ?_ (by first | omega | (simp; done) | (simp; omega)) _) | refine bl_gr ?_ _ | refine bl_al ?_ _ | refine bl_drewN ?_ _ | refine Below.drew ?_)))) (fun hS => ?_); (refine wpAnyH_take (i := 0) (v := ?_) rfl (by kernel_rfl) (by kernel_rfl) (by kernel_rfl) (fun _ _ _ h => h) ?_ (by assumption) ?_; rotate_left; (next => (refine Or.inl ⟨by kernel_rfl, ?_⟩; ((intro w hSw; (try dsimp only at hSw); go_simp) <;> with_reducible rfl))); (try simp only [Act.put, List.setIfInBounds_toArray, List.set_cons_zero, List.set_cons_succ])); (refine wpAnyH_take (i := 1) (v := ?_) rfl (by kernel_rfl) (by kernel_rfl) (by kernel_rfl) (fun _ _ _ h => h) ?_ (by assumption) ?_; rotate_left; (next => (refine Or.inl ⟨by kernel_rfl, ?_⟩; ((intro w hSw; (try dsimp only at hSw); go_simp) <;> with_reducible rfl))); (try simp only [Act.put, List.setIfInBounds_toArray, List.set_cons_zero, List.set_cons_succ])); (refine wpAnyH_take (i := 2) (v := ?_) rfl (by kernel_rfl) (by kernel_rfl) (by kernel_rfl) (fun _ _ _ h => h) ?_ (by assumption) ?_; rotate_left; (next => (refine Or.inl ⟨by kernel_rfl, ?_⟩; ((intro w hSw; (try dsimp only at hSw); go_simp) <;> with_reducible rfl))); (try simp only [Act.put, List.setIfInBounds_toArray, List.set_cons_zero, List.set_cons_succ])); (refine wpAnyH_take (i := 3) (v := ?_) rfl (by kernel_rfl) (by kernel_rfl) (by kernel_rfl) (fun _ _ _ h => h) ?_ (by assumption) ?_; rotate_left; (next => (refine Or.inl ⟨by kernel_rfl, ?_⟩; ((intro w hSw; (try dsimp only at hSw); go_simp) <;> with_reducible rfl))); (try simp only [Act.put, List.setIfInBounds_toArray, List.set_cons_zero, List.set_cons_succ])); (refine wpAnyH_take (i := 4) (v := ?_) rfl (by kernel_rfl) (by kernel_rfl) (by kernel_rfl) (fun _ _ _ h => h) ?_ (by assumption) ?_; rotate_left; (next => (refine Or.inl ⟨by kernel_rfl, ?_⟩; ((intro w hSw; (try dsimp only at hSw); (obtain ⟨r0, r1, r2, r3, r4, r5, r6, r7⟩ := KL.out _ hSw); go_simp) <;> with_reducible rfl))); (try simp only [Act.put, List.setIfInBounds_toArray, List.set_cons_zero, List.set_cons_succ])); (refine wpAnyH_take (i := 5) (v := ?_) rfl (by kernel_rfl) (by kernel_rfl) (by kernel_rfl) (fun _ _ _ h => h) ?_ (by assumption) ?_; rotate_left; (next => (refine Or.inl ⟨by kernel_rfl, ?_⟩; ((intro w hSw; (try dsimp only at hSw); go_simp) <;> with_reducible rfl))); (try simp only [Act.put, List.setIfInBounds_toArray, List.set_cons_zero, List.set_cons_succ])); (refine wpAnyH_take (i := 6) (v := ?_) rfl (by kernel_rfl) (by kernel_rfl) (by kernel_rfl) (fun _ _ _ h => h) ?_ (by assumption) ?_; rotate_left; (next => (refine Or.inl ⟨by kernel_rfl, ?_⟩; ((intro w hSw; (try dsimp only at hSw); go_simp) <;> with_reducible rfl))); (try simp only [Act.put, List.setIfInBounds_toArray, List.set_cons_zero, List.set_cons_succ])); (refine wpAnyH_take (i := 7) (v := ?_) rfl (by kernel_rfl) (by kernel_rfl) (by kernel_rfl) (fun _ _ _ h => h) ?_ (by assumption) ?_; rotate_left; (next => (refine Or.inl ⟨by kernel_rfl, ?_⟩; ((intro w hSw; (try dsimp only at hSw); go_simp) <;> with_reducible rfl))); (try simp only [Act.put, List.setIfInBounds_toArray, List.set_cons_zero, List.set_cons_succ])); (refine wpAnyH_take (i := 8) (v := ?_) rfl (by kernel_rfl) (by kernel_rfl) (by kernel_rfl) (fun _ _ _ h => h) ?_ (by assumption) ?_; rotate_left; (next => (refine Or.inl ⟨by kernel_rfl, ?_⟩; ((intro w hSw; (try dsimp only at hSw); go_simp) <;> with_reducible rfl))); (try simp only [Act.put, List.setIfInBounds_toArray, List.set_cons_zero, List.set_cons_succ])); (refine wpAnyH_take (i := 9) (v := ?_) rfl (by kernel_rfl) (by kernel_rfl) (by kernel_rfl) (fun _ _ _ h => h) ?_ (by assumption) ?_; rotate_left; (next => (refine Or.inl ⟨by kernel_rfl, ?_⟩; ((intro w hSw; (try dsimp only at hSw); (obtain ⟨r0, r1, r2, r3, r4, r5, r6, r7⟩ := KL.out _ hSw); go_simp) <;> with_reducible rfl))); (try simp only [Act.put, List.setIfInBounds_toArray, List.set_cons_zero, List.set_cons_succ])); (refine wpAnyH_take (i := 10) (v := ?_) rfl (by kernel_rfl) (by kernel_rfl) (by kernel_rfl) (fun _ _ _ h => h) ?_ (by assumption) ?_; rotate_left; (next => (refine Or.inl ⟨by kernel_rfl, ?_⟩; ((intro w hSw; (try dsimp only at hSw); go_simp) <;> with_reducible rfl))); (try simp only [Act.put, List.setIfInBounds_toArray, List.set_cons_zero, List.set_cons_succ])); (refine wpAnyH_take (i := 11) (v := ?_) rfl (by kernel_rfl) (by kernel_rfl) (by kernel_rfl) (fun _ _ _ h => h) ?_ (by assumption) ?_; rotate_left; (next => (refine Or.inl ⟨by kernel_rfl, ?_⟩; ((intro w hSw; (try dsimp only at hSw); go_simp) <;> with_reducible rfl))); (try simp only [Act.put, List.setIfInBounds_toArray, List.set_cons_zero, List.set_cons_succ])); (refine wpAnyH_take (i := 12) (v := ?_) rfl (by kernel_rfl) (by kernel_rfl) (by kernel_rfl) (fun _ _ _ h => h) ?_ (by assumption) ?_; rotate_left; (next => (refine Or.inr ⟨by kernel_rfl, ?_⟩; with_reducible rfl)); (try simp only [Act.put, List.setIfInBounds_toArray, List.set_cons_zero, List.set_cons_succ])); (refine wpAnyH_take (i := 13) (v := ?_) rfl (by kernel_rfl) (by kernel_rfl) (by kernel_rfl) (fun _ _ _ h => h) ?_ (by assumption) ?_; rotate_left; (next => (refine Or.inr ⟨by kernel_rfl, ?_⟩; with_reducible rfl)); (try simp only [Act.put, List.setIfInBounds_toArray, List.set_cons_zero, List.set_cons_succ])); (refine wpAnyH_take (i := 14) (v := ?_) rfl (by kernel_rfl) (by kernel_rfl) (by kernel_rfl) (fun _ _ _ h => h) ?_ (by assumption) ?_; rotate_left; (next => (refine Or.inr ⟨by kernel_rfl, ?_⟩; with_reducible rfl)); (try simp only [Act.put, List.setIfInBounds_toArray, List.set_cons_zero, List.set_cons_succ])); (refine wpAnyH_take (i := 15) (v := ?_) rfl (by kernel_rfl) (by kernel_rfl) (by kernel_rfl) (fun _ _ _ h => h) ?_ (by assumption) ?_; rotate_left; (next => (refine Or.inr ⟨by kernel_rfl, ?_⟩; with_reducible rfl)); (try simp only [Act.put, List.setIfInBounds_toArray, List.set_cons_zero, List.set_cons_succ])); (refine wpAnyH_take (i := 16) (v := ?_) rfl (by kernel_rfl) (by kernel_rfl) (by kernel_rfl) (fun _ _ _ h => h) ?_ (by assumption) ?_; rotate_left; (next => (refine Or.inr ⟨by kernel_rfl, ?_⟩; with_reducible rfl)); (try simp only [Act.put, List.setIfInBounds_toArray, List.set_cons_zero, List.set_cons_succ])); (refine wpAnyH_take (i := 17) (v := ?_) rfl (by kernel_rfl) (by kernel_rfl) (by kernel_rfl) (fun _ _ _ h => h) ?_ (by assumption) ?_; rotate_left; (next => (refine Or.inr ⟨by kernel_rfl, ?_⟩; with_reducible rfl)); (try simp only [Act.put, List.setIfInBounds_toArray, List.set_cons_zero, List.set_cons_succ])); (refine wpAnyH_take (i := 18) (v := ?_) rfl (by kernel_rfl) (by kernel_rfl) (by kernel_rfl) (fun _ _ _ h => h) ?_ (by assumption) ?_; rotate_left; (next => (refine Or.inr ⟨by kernel_rfl, ?_⟩; with_reducible rfl)); (try simp only [Act.put, List.setIfInBounds_toArray, List.set_cons_zero, List.set_cons_succ])); (refine wpAnyH_take (i := 19) (v := ?_) rfl (by kernel_rfl) (by kernel_rfl) (by kernel_rfl) (fun _ _ _ h => h) ?_ (by assumption) ?_; rotate_left; (next => (refine Or.inr ⟨by kernel_rfl, ?_⟩; with_reducible rfl)); (try simp only [Act.put, List.setIfInBounds_toArray, List.set_cons_zero, List.set_cons_succ])); (refine wpAnyH_take (i := 20) (v := ?_) rfl (by kernel_rfl) (by kernel_rfl) (by kernel_rfl) (fun _ _ _ h => h) ?_ (by assumption) ?_; rotate_left; (next => (refine Or.inr ⟨by kernel_rfl, ?_⟩; with_reducible rfl)); (try simp only [Act.put, List.setIfInBounds_toArray, List.set_cons_zero, List.set_cons_succ])); (refine wpAnyH_take (i := 21) (v := ?_) rfl (by kernel_rfl) (by kernel_rfl) (by kernel_rfl) (fun _ _ _ h => h) ?_ (by assumption) ?_; rotate_left; (next => (refine Or.inr ⟨by kernel_rfl, ?_⟩; with_reducible rfl)); (try simp only [Act.put, List.setIfInBounds_toArray, List.set_cons_zero, List.set_cons_succ])); (refine wpAnyH_take (i := 22) (v := ?_) rfl (by kernel_rfl) (by kernel_rfl) (by kernel_rfl) (fun _ _ _ h => h) ?_ (by assumption) ?_; rotate_left; (next => (refine Or.inr ⟨by kernel_rfl, ?_⟩; with_reducible rfl)); (try simp only [Act.put, List.setIfInBounds_toArray, List.set_cons_zero, List.set_cons_succ])); (refine wpAnyH_take (i := 23) (v := ?_) rfl (by kernel_rfl) (by kernel_rfl) (by kernel_rfl) (fun _ _ _ h => h) ?_ (by assumption) ?_; rotate_left; (next => (refine Or.inl ⟨by kernel_rfl, ?_⟩; ((intro w hSw; (try dsimp only at hSw); go_simp) <;> with_reducible rfl))); (try simp only [Act.put, List.setIfInBounds_toArray, List.set_cons_zero, List.set_cons_succ])); refine wpAnyH_done (by kernel_rfl) ?_ _)
                      go_simp
                      clear hS
                      go_wp2
                      go_roundw
                      case rel => exact ⟨d + 1, by omega, by go_num, by (repeat (with_reducible first | exact HB2.out | exact Below.refl _ _ | refine bl_rapp ?_ | (refine bl_set ?_ (by first | omega | (simp; done) | (simp; omega)) _) | refine bl_gr ?_ _ | refine bl_al ?_ _ | refine bl_drewN ?_ _ | refine Below.drew ?_))⟩
                      case measure => simp [intOf]; omega
                    · have hk : (Val.mk ea.k.k ea.k.n ea.k.s).eq ⟨eb.k.k, eb.k.n, eb.k.s⟩ = false := by
                        unfold ofB at OF
                        rw [hs, Bool.and_true] at OF
                        exact OF
                      clear OF
                      go_upto_region 29 with fail
                      obtain ⟨r3, t3, r0, r1, r2, t0, t1, t2⟩ := KL.out _ HB2.out
                      (refine wp_region_held_drew (S := (fun Z : World => Z.cell? ⟨b5, o5 + a * 8, none⟩ = some (.int .i64 ea.k.k) ∧ Z.cell? ⟨b5, o5 + a * 8 + 1, none⟩ = some (.int .i64 ea.k.n) ∧ Z.cell? ⟨b5, o5 + a * 8 + 2, none⟩ = some (.string ea.k.s) ∧ Z.cell? ⟨b5, o5 + a * 8 + 3, none⟩ = some (.int .i64 ea.sh) ∧ Z.cell? ⟨b5, o5 + d * 8, none⟩ = some (.int .i64 eb.k.k) ∧ Z.cell? ⟨b5, o5 + d * 8 + 1, none⟩ = some (.int .i64 eb.k.n) ∧ Z.cell? ⟨b5, o5 + d * 8 + 2, none⟩ = some (.string eb.k.s) ∧ Z.cell? ⟨b5, o5 + d * 8 + 3, none⟩ = some (.int .i64 eb.sh))) Try.mixed (by (and_intros <;> go_simp)) (fun hS => ?_); (refine wpAnyH_take (i := 0) (v := ?_) rfl (by kernel_rfl) (by kernel_rfl) (by kernel_rfl) (fun _ _ _ h => h) ?_ (by assumption) ?_; rotate_left; (next => (refine Or.inl ⟨by kernel_rfl, ?_⟩; ((intro w hSw; (try dsimp only at hSw); go_simp) <;> with_reducible rfl))); (try simp only [Act.put, List.setIfInBounds_toArray, List.set_cons_zero, List.set_cons_succ])); (refine wpAnyH_take (i := 1) (v := ?_) rfl (by kernel_rfl) (by kernel_rfl) (by kernel_rfl) (fun _ _ _ h => h) ?_ (by assumption) ?_; rotate_left; (next => (refine Or.inl ⟨by kernel_rfl, ?_⟩; ((intro w hSw; (try dsimp only at hSw); go_simp) <;> with_reducible rfl))); (try simp only [Act.put, List.setIfInBounds_toArray, List.set_cons_zero, List.set_cons_succ])); (refine wpAnyH_take (i := 2) (v := ?_) rfl (by kernel_rfl) (by kernel_rfl) (by kernel_rfl) (fun _ _ _ h => h) ?_ (by assumption) ?_; rotate_left; (next => (refine Or.inl ⟨by kernel_rfl, ?_⟩; ((intro w hSw; (try dsimp only at hSw); go_simp) <;> with_reducible rfl))); (try simp only [Act.put, List.setIfInBounds_toArray, List.set_cons_zero, List.set_cons_succ])); (refine wpAnyH_take (i := 3) (v := ?_) rfl (by kernel_rfl) (by kernel_rfl) (by kernel_rfl) (fun _ _ _ h => h) ?_ (by assumption) ?_; rotate_left; (next => (refine Or.inl ⟨by kernel_rfl, ?_⟩; ((intro w hSw; (try dsimp only at hSw); go_simp) <;> with_reducible rfl))); (try simp only [Act.put, List.setIfInBounds_toArray, List.set_cons_zero, List.set_cons_succ])); (refine wpAnyH_take (i := 4) (v := ?_) rfl (by kernel_rfl) (by kernel_rfl) (by kernel_rfl) (fun _ _ _ h => h) ?_ (by assumption) ?_; rotate_left; (next => (refine Or.inl ⟨by kernel_rfl, ?_⟩; ((intro w hSw; (try dsimp only at hSw); go_simp) <;> with_reducible rfl))); (try simp only [Act.put, List.setIfInBounds_toArray, List.set_cons_zero, List.set_cons_succ])); (refine wpAnyH_take (i := 5) (v := ?_) rfl (by kernel_rfl) (by kernel_rfl) (by kernel_rfl) (fun _ _ _ h => h) ?_ (by assumption) ?_; rotate_left; (next => (refine Or.inl ⟨by kernel_rfl, ?_⟩; ((intro w hSw; (try dsimp only at hSw); go_simp) <;> with_reducible rfl))); (try simp only [Act.put, List.setIfInBounds_toArray, List.set_cons_zero, List.set_cons_succ])); (refine wpAnyH_take (i := 6) (v := ?_) rfl (by kernel_rfl) (by kernel_rfl) (by kernel_rfl) (fun _ _ _ h => h) ?_ (by assumption) ?_; rotate_left; (next => (refine Or.inl ⟨by kernel_rfl, ?_⟩; ((intro w hSw; (try dsimp only at hSw); go_simp) <;> with_reducible rfl))); (try simp only [Act.put, List.setIfInBounds_toArray, List.set_cons_zero, List.set_cons_succ])); (refine wpAnyH_take (i := 7) (v := ?_) rfl (by kernel_rfl) (by kernel_rfl) (by kernel_rfl) (fun _ _ _ h => h) ?_ (by assumption) ?_; rotate_left; (next => (refine Or.inl ⟨by kernel_rfl, ?_⟩; ((intro w hSw; (try dsimp only at hSw); go_simp) <;> with_reducible rfl))); (try simp only [Act.put, List.setIfInBounds_toArray, List.set_cons_zero, List.set_cons_succ])); (refine wpAnyH_take (i := 8) (v := ?_) rfl (by kernel_rfl) (by kernel_rfl) (by kernel_rfl) (fun _ _ _ h => h) ?_ (by assumption) ?_; rotate_left; (next => (refine Or.inl ⟨by kernel_rfl, ?_⟩; ((intro w hSw; (try dsimp only at hSw); go_simp) <;> with_reducible rfl))); (try simp only [Act.put, List.setIfInBounds_toArray, List.set_cons_zero, List.set_cons_succ])); (refine wpAnyH_take (i := 9) (v := ?_) rfl (by kernel_rfl) (by kernel_rfl) (by kernel_rfl) (fun _ _ _ h => h) ?_ (by assumption) ?_; rotate_left; (next => (refine Or.inl ⟨by kernel_rfl, ?_⟩; ((intro w hSw; (try dsimp only at hSw); go_simp) <;> with_reducible rfl))); (try simp only [Act.put, List.setIfInBounds_toArray, List.set_cons_zero, List.set_cons_succ])); (refine wpAnyH_take (i := 10) (v := ?_) rfl (by kernel_rfl) (by kernel_rfl) (by kernel_rfl) (fun _ _ _ h => h) ?_ (by assumption) ?_; rotate_left; (next => (refine Or.inl ⟨by kernel_rfl, ?_⟩; ((intro w hSw; (try dsimp only at hSw); go_simp) <;> with_reducible rfl))); (try simp only [Act.put, List.setIfInBounds_toArray, List.set_cons_zero, List.set_cons_succ])); (refine wpAnyH_take (i := 11) (v := ?_) rfl (by kernel_rfl) (by kernel_rfl) (by kernel_rfl) (fun _ _ _ h => h) ?_ (by assumption) ?_; rotate_left; (next => (refine Or.inl ⟨by kernel_rfl, ?_⟩; ((intro w hSw; (try dsimp only at hSw); go_simp) <;> with_reducible rfl))); (try simp only [Act.put, List.setIfInBounds_toArray, List.set_cons_zero, List.set_cons_succ])); (refine wpAnyH_take (i := 12) (v := ?_) rfl (by kernel_rfl) (by kernel_rfl) (by kernel_rfl) (fun _ _ _ h => h) ?_ (by assumption) ?_; rotate_left; (next => (refine Or.inl ⟨by kernel_rfl, ?_⟩; ((intro w hSw; (try dsimp only at hSw); go_simp) <;> with_reducible rfl))); (try simp only [Act.put, List.setIfInBounds_toArray, List.set_cons_zero, List.set_cons_succ])); (refine wpAnyH_take (i := 13) (v := ?_) rfl (by kernel_rfl) (by kernel_rfl) (by kernel_rfl) (fun _ _ _ h => h) ?_ (by assumption) ?_; rotate_left; (next => (refine Or.inl ⟨by kernel_rfl, ?_⟩; ((intro w hSw; (try dsimp only at hSw); go_simp) <;> with_reducible rfl))); (try simp only [Act.put, List.setIfInBounds_toArray, List.set_cons_zero, List.set_cons_succ])); (refine wpAnyH_take (i := 14) (v := ?_) rfl (by kernel_rfl) (by kernel_rfl) (by kernel_rfl) (fun _ _ _ h => h) ?_ (by assumption) ?_; rotate_left; (next => (refine Or.inl ⟨by kernel_rfl, ?_⟩; ((intro w hSw; (try dsimp only at hSw); go_simp) <;> with_reducible rfl))); (try simp only [Act.put, List.setIfInBounds_toArray, List.set_cons_zero, List.set_cons_succ])); (refine wpAnyH_take (i := 15) (v := ?_) rfl (by kernel_rfl) (by kernel_rfl) (by kernel_rfl) (fun _ _ _ h => h) ?_ (by assumption) ?_; rotate_left; (next => (refine Or.inl ⟨by kernel_rfl, ?_⟩; ((intro w hSw; (try dsimp only at hSw); go_simp) <;> with_reducible rfl))); (try simp only [Act.put, List.setIfInBounds_toArray, List.set_cons_zero, List.set_cons_succ])); (refine wpAnyH_take (i := 16) (v := ?_) rfl (by kernel_rfl) (by kernel_rfl) (by kernel_rfl) (fun _ _ _ h => h) ?_ (by assumption) ?_; rotate_left; (next => (refine Or.inl ⟨by kernel_rfl, ?_⟩; ((intro w hSw; (try dsimp only at hSw); go_simp) <;> with_reducible rfl))); (try simp only [Act.put, List.setIfInBounds_toArray, List.set_cons_zero, List.set_cons_succ])); (refine wpAnyH_take (i := 17) (v := ?_) rfl (by kernel_rfl) (by kernel_rfl) (by kernel_rfl) (fun _ _ _ h => h) ?_ (by assumption) ?_; rotate_left; (next => (refine Or.inl ⟨by kernel_rfl, ?_⟩; ((intro w hSw; (try dsimp only at hSw); go_simp) <;> with_reducible rfl))); (try simp only [Act.put, List.setIfInBounds_toArray, List.set_cons_zero, List.set_cons_succ])); (refine wpAnyH_take (i := 18) (v := ?_) rfl (by kernel_rfl) (by kernel_rfl) (by kernel_rfl) (fun _ _ _ h => h) ?_ (by assumption) ?_; rotate_left; (next => (refine Or.inl ⟨by kernel_rfl, ?_⟩; ((intro w hSw; (try dsimp only at hSw); go_simp) <;> with_reducible rfl))); (try simp only [Act.put, List.setIfInBounds_toArray, List.set_cons_zero, List.set_cons_succ])); (refine wpAnyH_take (i := 19) (v := ?_) rfl (by kernel_rfl) (by kernel_rfl) (by kernel_rfl) (fun _ _ _ h => h) ?_ (by assumption) ?_; rotate_left; (next => (refine Or.inl ⟨by kernel_rfl, ?_⟩; ((intro w hSw; (try dsimp only at hSw); go_simp) <;> with_reducible rfl))); (try simp only [Act.put, List.setIfInBounds_toArray, List.set_cons_zero, List.set_cons_succ])); (refine wpAnyH_take (i := 20) (v := ?_) rfl (by kernel_rfl) (by kernel_rfl) (by kernel_rfl) (fun _ _ _ h => h) ?_ (by assumption) ?_; rotate_left; (next => (refine Or.inl ⟨by kernel_rfl, ?_⟩; ((intro w hSw; (try dsimp only at hSw); go_simp) <;> with_reducible rfl))); (try simp only [Act.put, List.setIfInBounds_toArray, List.set_cons_zero, List.set_cons_succ])); (refine wpAnyH_take (i := 21) (v := ?_) rfl (by kernel_rfl) (by kernel_rfl) (by kernel_rfl) (fun _ _ _ h => h) ?_ (by assumption) ?_; rotate_left; (next => (refine Or.inl ⟨by kernel_rfl, ?_⟩; ((intro w hSw; (try dsimp only at hSw); go_simp) <;> with_reducible rfl))); (try simp only [Act.put, List.setIfInBounds_toArray, List.set_cons_zero, List.set_cons_succ])); refine wpAnyH_ready (rs := [22]) (by kernel_rfl) (by simp) ?_; refine AllReadyH.cons rfl (fun K hK => ?_) AllReadyH.nil; go_simp; refine hK.out _ _ (by (and_intros <;> go_simp)) (fun hS => ?_); clear hK K; (try simp only [Act.put, List.setIfInBounds_toArray, List.set_cons_zero, List.set_cons_succ]); (refine wpAnyH_take (i := 23) (v := ?_) rfl (by kernel_rfl) (by kernel_rfl) (by kernel_rfl) (fun _ _ _ h => h) ?_ (by assumption) ?_; rotate_left; (next => (refine Or.inl ⟨by kernel_rfl, ?_⟩; ((intro w hSw; (try dsimp only at hSw); go_simp) <;> with_reducible rfl))); (try simp only [Act.put, List.setIfInBounds_toArray, List.set_cons_zero, List.set_cons_succ])); refine wpAnyH_done (by kernel_rfl) ?_ _)
                      go_simp
                      clear hS
                      go_wp2
                      go_roundw
                      case rel => exact ⟨d + 1, by omega, by go_num, by (repeat (with_reducible first | exact HB2.out | exact Below.refl _ _ | refine bl_rapp ?_ | (refine bl_set ?_ (by first | omega | (simp; done) | (simp; omega)) _) | refine bl_gr ?_ _ | refine bl_al ?_ _ | refine bl_drewN ?_ _ | refine Below.drew ?_))⟩
                      case measure => simp [intOf]; omega
                  · have d2' : ¬ (d : Int) < a := by omega
                    go_wp2
                    go_roundw
                    case rel => first | exact ⟨a + 1, by omega, by go_num, HB2.out⟩ | exact ⟨_, _, _, _, ⟨a + 1, by omega, (by go_num : Value.int .i64 ((a : Int) + 1) = Value.int .i64 ((a + 1 : Nat) : Int)), HB2.out⟩, rfl, rfl, rfl, rfl⟩
                    case measure => simp [intOf]; omega
              · have a2' : ¬ (a : Int) < L.length := by omega
                clear hB
                go_wp2
                go_roundw
                case rel => exact ⟨q + 1, by omega, by go_num, FB.out _ HB.out⟩
                case measure => simp [intOf]; omega
          · have q3' : ¬ (q : Int) < 3 := by omega
            go_wp2
            go_roundw
            case rel => exact ⟨k + 1, n', by omega, by omega, by go_num, rfl, hn0', by omega, c3, G3.out.1, G3.out.2⟩
            case measure => simp [intOf]; omega
    · have bh := G.out.2.2.2.2
      have e1 : wrap64 (c.hits + c.miss) = n := by rw [IntWalk.wrap64_in _ (by omega)]; exact bh.2.2
      have e2 : IntKind.i64.wrap (c.hits + c.miss) = n := by rw [IntWalk.i64_in _ (by omega)]; exact bh.2.2
      have e3 : (c.hits + c.miss == n) = true := by rw [bh.2.2]; exact beq_self_eq_true n
      clear g fw bh
      rcases (by omega : (¬ (k : Int) < l.length) ∨ ((k : Int) < l.length ∧ ¬ (k : Int) < 200)) with i1 | ⟨i1, i2⟩
      all_goals
        go_wp2_with (first | (go_at_call 15; refine (callGr (hits_any _ (G.out.1.ca.below (by (repeat (with_reducible first  | exact Below.refl _ _ | refine bl_rapp ?_ | (refine bl_set ?_ (by first | omega | (simp; done) | (simp; omega)) _) | refine bl_gr ?_ _ | refine bl_al ?_ _ | refine bl_drewN ?_ _ | refine Below.drew ?_)))))).mono ?_; rintro e w' ⟨pp, rfl, rfl⟩) | (go_at_call 16; refine (callGr (misses_any _ (G.out.1.ca.below (by (repeat (with_reducible first  | exact Below.refl _ _ | refine bl_rapp ?_ | (refine bl_set ?_ (by first | omega | (simp; done) | (simp; omega)) _) | refine bl_gr ?_ _ | refine bl_al ?_ _ | refine bl_drewN ?_ _ | refine Below.drew ?_)))))).mono ?_; rintro e w' ⟨pp, rfl, rfl⟩) | (go_at_call 12; refine (callGr (goes_any _)).mono ?_; rintro e w' ⟨pp, rfl, rfl⟩))
        go_ret
        exact ⟨rfl, bl_tr G.out.1.be (by (repeat (with_reducible first  | exact Below.refl _ _ | refine bl_rapp ?_ | (refine bl_set ?_ (by first | omega | (simp; done) | (simp; omega)) _) | refine bl_gr ?_ _ | refine bl_al ?_ _ | refine bl_drewN ?_ _ | refine Below.drew ?_)))⟩
end Go.Proofs.Ytbgcjgnhblhohaa
