/- Inline caches: Note, by the program. -/
import Derived.Test.YtbgcjgnhblhohaaCaE
import Derived.Test.YtbgcjgnhblhohaaEnds
namespace Go.Proofs.Ytbgcjgnhblhohaa
set_option linter.all false
open Go.RowKit Go.Sort Go.Deep Go.Shelf
attribute [local go_sem] Oper.semAt_some

theorem note_nil (n : Int) (x : Ent) (w : World) : Calls Try.prog 8 #[.pointer none, .int .i64 n, x.agg] w fun e w' => e = .returned (.bool false) ∧ Below w.heap.size w w' := by
  (refine callsIn_wide.1 (callsIn_of_wp_marks (n := 9) Try.func8 rfl trivial ?_ rfl); refine wpIn_wide.2 ?_; simp only [Try.ntmps8, List.size_toArray, List.length_cons, List.length_nil, Nat.reduceAdd, Nat.reduceSub, Array.replicate_succ, Array.replicate_zero, List.push_toArray, List.append_toArray, List.nil_append, List.cons_append])
  go_wp2_with (go_at_call 21; refine (site_nil _ _).mono ?_; rintro e w' ⟨rfl, rfl⟩)
  refine marks_ret0 (v := .bool false) (by simp [results, Try.results8, go_sem]) rfl ⟨rfl, by (repeat (with_reducible first | exact Below.refl _ _ | (refine bl_set ?_ (by first | omega | (simp; done) | (simp; omega)) _) | refine bl_gr ?_ _ | refine bl_al ?_ _ | refine below_setRow ?_ (by first | omega | (simp; done) | (simp; omega)) _ | refine bl_drewN ?_ _ | refine Below.drew ?_ | (refine bl_tr ?_ (by assumption))))⟩

set_option maxRecDepth 100000 in
set_option maxHeartbeats 4000000 in
theorem note_shut_any {C S : Nat} {c : CacheD} (n : Int) (x : Ent) (w : World) (h : CacheIn w C S c) (hsh : siteD c n = none ∨ ∃ s, siteD c n = some s ∧ (c.most = 0 ∨ c.most ≠ 0 ∧ s.many = true)) :
    Calls Try.prog 8 #[.pointer (some ⟨C, 0, none⟩), .int .i64 n, x.agg] w (RetNote C S c n x w) := by
  (refine callsIn_wide.1 (callsIn_of_wp_marks (n := 9) Try.func8 rfl trivial ?_ rfl); refine wpIn_wide.2 ?_; simp only [Try.ntmps8, List.size_toArray, List.length_cons, List.length_nil, Nat.reduceAdd, Nat.reduceSub, Array.replicate_succ, Array.replicate_zero, List.push_toArray, List.append_toArray, List.nil_append, List.cons_append])
  have H := Lib.hid h
  rcases hsh with hs | ⟨s, hs, hm | ⟨hm0, hm⟩⟩
  · have HS := Lib.hid hs
    clear hs h
    go_wp2_with (go_at_call 21; refine (site_out _ _ (H.out.below (by (repeat (with_reducible first | exact Below.refl _ _ | (refine bl_set ?_ (by first | omega | (simp; done) | (simp; omega)) _) | refine bl_gr ?_ _ | refine bl_al ?_ _ | refine below_setRow ?_ (by first | omega | (simp; done) | (simp; omega)) _ | refine bl_drewN ?_ _ | refine Below.drew ?_ | (refine bl_tr ?_ (by assumption)))))) HS.out).mono ?_; rintro e w' ⟨rfl, rfl⟩)
    refine marks_ret0 (v := .bool false) (by simp [results, Try.results8, go_sem]) rfl ⟨by rw [note_none HS.out], by rw [note_none HS.out]; exact H.out.below (by (repeat (with_reducible first | exact Below.refl _ _ | (refine bl_set ?_ (by first | omega | (simp; done) | (simp; omega)) _) | refine bl_gr ?_ _ | refine bl_al ?_ _ | refine below_setRow ?_ (by first | omega | (simp; done) | (simp; omega)) _ | refine bl_drewN ?_ _ | refine Below.drew ?_ | (refine bl_tr ?_ (by assumption))))), Tch.of_below (by (repeat (with_reducible first | exact Below.refl _ _ | (refine bl_set ?_ (by first | omega | (simp; done) | (simp; omega)) _) | refine bl_gr ?_ _ | refine bl_al ?_ _ | refine below_setRow ?_ (by first | omega | (simp; done) | (simp; omega)) _ | refine bl_drewN ?_ _ | refine Below.drew ?_ | (refine bl_tr ?_ (by assumption)))))⟩
  · obtain ⟨j, rfl, hj, hsj⟩ := siteD_some hs
    have HS := Lib.hid (note_shut (x := x) hs (.inl hm))
    obtain ⟨_, a1, _⟩ := h.cells
    have lC := h.ltC
    have lC1 : C < w.heap.size + 1 := by omega
    have lC2 : C < w.heap.size + 1 + 1 := by omega
    rw [hm] at a1
    clear hs hsj h hm
    go_wp2_with (go_at_call 21; refine (site_in j _ (H.out.below (by (repeat (with_reducible first | exact Below.refl _ _ | (refine bl_set ?_ (by first | omega | (simp; done) | (simp; omega)) _) | refine bl_gr ?_ _ | refine bl_al ?_ _ | refine below_setRow ?_ (by first | omega | (simp; done) | (simp; omega)) _ | refine bl_drewN ?_ _ | refine Below.drew ?_ | (refine bl_tr ?_ (by assumption)))))) hj).mono ?_; rintro e w' ⟨rfl, rfl⟩)
    refine marks_ret0 (v := .bool false) (by simp [results, Try.results8, go_sem]) rfl ⟨by rw [HS.out], by rw [HS.out]; exact H.out.below (by (repeat (with_reducible first | exact Below.refl _ _ | (refine bl_set ?_ (by first | omega | (simp; done) | (simp; omega)) _) | refine bl_gr ?_ _ | refine bl_al ?_ _ | refine below_setRow ?_ (by first | omega | (simp; done) | (simp; omega)) _ | refine bl_drewN ?_ _ | refine Below.drew ?_ | (refine bl_tr ?_ (by assumption))))), Tch.of_below (by (repeat (with_reducible first | exact Below.refl _ _ | (refine bl_set ?_ (by first | omega | (simp; done) | (simp; omega)) _) | refine bl_gr ?_ _ | refine bl_al ?_ _ | refine below_setRow ?_ (by first | omega | (simp; done) | (simp; omega)) _ | refine bl_drewN ?_ _ | refine Below.drew ?_ | (refine bl_tr ?_ (by assumption)))))⟩
  · obtain ⟨j, rfl, hj, hsj⟩ := siteD_some hs
    have HS := Lib.hid (note_shut (x := x) hs (.inr hm))
    obtain ⟨_, a1, _⟩ := h.cells
    obtain ⟨_, _, a2, _⟩ := h.site hsj
    rw [hm] at a2
    have lC := h.ltC
    have lC1 : C < w.heap.size + 1 := by omega
    have lC2 : C < w.heap.size + 1 + 1 := by omega
    have lS := h.ltS
    have lS1 : S < w.heap.size + 1 := by omega
    have lS2 : S < w.heap.size + 1 + 1 := by omega
    have hb : ((c.most : Int) == 0) = false := beq_eq_false_iff_ne.2 (by omega)
    clear hs hsj h hm
    go_wp2_with (go_at_call 21; refine (site_in j _ (H.out.below (by (repeat (with_reducible first | exact Below.refl _ _ | (refine bl_set ?_ (by first | omega | (simp; done) | (simp; omega)) _) | refine bl_gr ?_ _ | refine bl_al ?_ _ | refine below_setRow ?_ (by first | omega | (simp; done) | (simp; omega)) _ | refine bl_drewN ?_ _ | refine Below.drew ?_ | (refine bl_tr ?_ (by assumption)))))) hj).mono ?_; rintro e w' ⟨rfl, rfl⟩)
    refine marks_ret0 (v := .bool false) (by simp [results, Try.results8, go_sem]) rfl ⟨by rw [HS.out], by rw [HS.out]; exact H.out.below (by (repeat (with_reducible first | exact Below.refl _ _ | (refine bl_set ?_ (by first | omega | (simp; done) | (simp; omega)) _) | refine bl_gr ?_ _ | refine bl_al ?_ _ | refine below_setRow ?_ (by first | omega | (simp; done) | (simp; omega)) _ | refine bl_drewN ?_ _ | refine Below.drew ?_ | (refine bl_tr ?_ (by assumption))))), Tch.of_below (by (repeat (with_reducible first | exact Below.refl _ _ | (refine bl_set ?_ (by first | omega | (simp; done) | (simp; omega)) _) | refine bl_gr ?_ _ | refine bl_al ?_ _ | refine below_setRow ?_ (by first | omega | (simp; done) | (simp; omega)) _ | refine bl_drewN ?_ _ | refine Below.drew ?_ | (refine bl_tr ?_ (by assumption)))))⟩

/-- the entry is stored, the number of entries not yet -/
def NtMid (C S o b2 b1 m : Nat) (c' : CacheD) (W Z : World) : Prop :=
  Z.cell? ⟨b2, 0, none⟩ = some (.pointer (some ⟨S, o, none⟩)) ∧ Z.cell? ⟨S, o + 32, none⟩ = some (.int .i64 m) ∧ Z.frozen? ⟨S, o + 32, none⟩ = false ∧ Z.heap[b1]? = some (.cells #[.bool false] 4) ∧
  CacheIn (Z.setCell ⟨S, o + 32, none⟩ (.int .i64 ((m : Int) + 1))) C S c' ∧ Touch (fun k => k = S) W (Z.setCell ⟨S, o + 32, none⟩ (.int .i64 ((m : Int) + 1)))
theorem NtMid.drew {C S o b2 b1 m : Nat} {c' : CacheD} {W Z : World} (h : NtMid C S o b2 b1 m c' W Z) : NtMid C S o b2 b1 m c' W Z.drew := by
  obtain ⟨h1, h2, h3, h4, h5, h6⟩ := h
  exact ⟨h1, h2, h3, h4, h5.same rfl rfl, ⟨h6.os, h6.tape, h6.output, h6.size, h6.block⟩⟩
def NtEnd (C S b1 : Nat) (c' : CacheD) (W Z : World) : Prop := Z.heap[b1]? = some (.cells #[.bool false] 4) ∧ CacheIn Z C S c' ∧ Touch (fun k => k = S) W Z
theorem NtEnd.drew {C S b1 : Nat} {c' : CacheD} {W Z : World} (h : NtEnd C S b1 c' W Z) : NtEnd C S b1 c' W Z.drew := by
  obtain ⟨h4, h5, h6⟩ := h
  exact ⟨h4, h5.same rfl rfl, ⟨h6.os, h6.tape, h6.output, h6.size, h6.block⟩⟩
theorem ntMid_put {C S j b2 b1 : Nat} {c : CacheD} {s : SiteD} {W : World} (h : CacheIn W C S c) (hs : c.sites[j]? = some s) (hi : s.l.length < 4) (x : Ent) (n1 : b1 ≠ S) (n2 : b2 ≠ S) (h1 : W.heap[b1]? = some (.cells #[.bool false] 4)) (h2 : W.cell? ⟨b2, 0, none⟩ = some (.pointer (some ⟨S, j * 34, none⟩))) :
    NtMid C S (j * 34) b2 b1 s.l.length (putS c j ⟨s.l ++ [x], s.many⟩) W (put8 W S (j * 34 + s.l.length * 8) x) := by
  have T := put8_touch W S (j * 34 + s.l.length * 8) x
  obtain ⟨arr, ha, hz, hb⟩ := h.body
  refine ⟨(T.cell (World.block_lt_of_cell? W _ h2) n2).trans h2, ?_, frozen_of_row _ S _ _ _ (put8_row ha), (T.block _ (Array.getElem?_eq_some_iff.1 h1).1 n1).trans h1, h.new hs hi x _ rfl, T.set1 _ _⟩
  rw [cell_of_row _ S _ _ _ _ (put8_row ha), set8_other _ _ _ _ (by omega)]
  exact (hb j s hs).2.2.1
theorem ntEnd_gone {C S j b1 : Nat} {c : CacheD} {s : SiteD} {W : World} (h : CacheIn W C S c) (hs : c.sites[j]? = some s) (n1 : b1 ≠ S) (h1 : W.heap[b1]? = some (.cells #[.bool false] 4)) :
    NtEnd C S b1 (putS c j ⟨[], true⟩) W ((W.setCell ⟨S, j * 34 + 32, none⟩ (.int .i64 0)).setCell ⟨S, j * 34 + 33, none⟩ (.bool true)) := by
  have T := ((Touch.refl (fun k => k = S) W).set1 (j * 34 + 32) (.int .i64 0)).set1 (j * 34 + 33) (.bool true)
  exact ⟨(T.block _ (Array.getElem?_eq_some_iff.1 h1).1 n1).trans h1, h.gone hs true, T⟩
theorem note_end {C S D b : Nat} {c c' : CacheD} {j : Int} {x : Ent} {u : Bool} {w W X : World} {a : Act} (hd : a.defers = [{ target := .collected D, args := #[] }]) (ht : a.tmps[6]? = some (.pointer (some ⟨b, 0, none⟩))) (hB : Below w.heap.size w W)
    (T : Touch (fun k => k = S ∨ k = b) W X) (hX : X.heap[b]? = some (.cells #[.bool u] 4)) (hc : CacheIn X C S c') (hn : noteC c j x = (c', u)) (hD : W.heap[D]? = some (.deferred (some []))) (hDw : w.heap.size ≤ D) (hb : w.heap.size ≤ b) (n1 : D ≠ b) (n2 : S < w.heap.size) (n3 : C < w.heap.size) :
    bodyPostM Fence.wide 9 Try.prog Try.f8 (RetNote C S c j x w) .ret a X := by
  have hK2 := (T.block D (Array.getElem?_eq_some_iff.1 hD).1 (by omega)).trans hD
  have h5 := (heap_put (.deferred none) (Ne.symm n1)).trans hX
  obtain ⟨q0, _⟩ := cells1 h5
  refine marks_ret1 (v := .bool u) hK2 ?_ hd ⟨?_, ?_, ?_⟩
  · simp [results, Try.results8, go_sem, ht, q0]
  · rw [hn]
  · rw [hn]
    exact hc.same (heap_put _ (by omega)) (heap_put _ (by omega))
  · exact ((Tch.of_below hB).trans T (fun i hi h => by rcases h with h | h; exact .inr h; omega)).trans (Touch.put _ D _) (fun i hi h => by omega)

set_option maxRecDepth 100000 in
set_option maxHeartbeats 4000000 in
theorem note_open_any {C S : Nat} {c : CacheD} (n : Int) (x : Ent) (w : World) (h : CacheIn w C S c) (s : SiteD) (hs : siteD c n = some s) (hm0 : c.most ≠ 0) (hm : s.many = false) (hm4 : c.most ≤ 4) :
    Calls Try.prog 8 #[.pointer (some ⟨C, 0, none⟩), .int .i64 n, x.agg] w (RetNote C S c n x w) := by
  (refine callsIn_wide.1 (callsIn_of_wp_marks (n := 9) Try.func8 rfl trivial ?_ rfl); refine wpIn_wide.2 ?_; simp only [Try.ntmps8, List.size_toArray, List.length_cons, List.length_nil, Nat.reduceAdd, Nat.reduceSub, Array.replicate_succ, Array.replicate_zero, List.push_toArray, List.append_toArray, List.nil_append, List.cons_append])
  have H := Lib.hid h
  obtain ⟨j, rfl, hj, hsj⟩ := siteD_some hs
  obtain ⟨_, a1, _⟩ := h.cells
  obtain ⟨g4, _, a2, _⟩ := h.site hsj
  rw [hm] at a2
  have lC := h.ltC
  have lC1 : C < w.heap.size + 1 := by omega
  have lC2 : C < w.heap.size + 1 + 1 := by omega
  have lS := h.ltS
  have lS1 : S < w.heap.size + 1 := by omega
  have lS2 : S < w.heap.size + 1 + 1 := by omega
  have hb : ((c.most : Int) == 0) = false := beq_eq_false_iff_ne.2 (by omega)
  have HS := Lib.hid (And.intro hs (And.intro hsj (And.intro hm0 hm)))
  clear hs hsj h hm hm0
  go_wp2_with (first | (go_at_call 21; refine (site_in j _ (H.out.below (by (repeat (with_reducible first | exact Below.refl _ _ | (refine bl_set ?_ (by first | omega | (simp; done) | (simp; omega)) _) | refine bl_gr ?_ _ | refine bl_al ?_ _ | refine below_setRow ?_ (by first | omega | (simp; done) | (simp; omega)) _ | refine bl_drewN ?_ _ | refine Below.drew ?_ | (refine bl_tr ?_ (by assumption)))))) hj).mono ?_; rintro e w' ⟨rfl, rfl⟩) | (go_at_call 22; refine (all_any _ _).mono ?_; rintro e w1 ⟨rfl, hw1⟩; have W1 := Lib.hid hw1; clear hw1))
  have LL : w1.heap.size = w.heap.size + 4 ∧ Below w.heap.size w w1 ∧ Lays w.heap.size (ntL S j x false) w1 := by
    rw [W1.out]
    exact laysN w (ntL S j x false)
  obtain ⟨hsz, hB0, hL⟩ := LL
  have hs1 := Nat.le_of_eq hsz
  have hs2 := Nat.le_of_eq hsz.symm
  have HC1 := Lib.hid (H.out.below hB0)
  clear W1 hsz
  have hb6 := (lays4 hL).2.2.2
  refine (wpIn_wide (n := 9)).1 ?_
  refine wpIn_rangeFunc_ownH rfl (by omega) (gf := 30) (lb := #[.pointer (some ⟨w.heap.size + 1 + 1 + 1, 0, none⟩)]) rfl trivial (enters_of Try.func30 (by kernel_rfl) rfl)
    (all_stops j s HS.out.2.1 w1 HC1.out _ hb6) belowK_t (belowK_b (Nat.le_refl _)) (Below.refl _ _) (fun _ => rfl)
    (fun pre W => (∀ y ∈ pre, ofB s.l[y.val] x.k x.sh = false) ∧ Lays w.heap.size (ntL S j x false) W ∧ CacheIn W C S c ∧ Below w.heap.size w W ∧ w1.heap.size ≤ W.heap.size)
    (fun cd pre W => cd = .ret ∧ (∃ (p : List (Fin s.l.length)) (y : Fin s.l.length), pre = p ++ [y] ∧ (∀ z ∈ p, ofB s.l[z.val] x.k x.sh = false) ∧ ofB s.l[y.val] x.k x.sh = true ∧ CacheIn W C S (putS c j ⟨s.l.set y.val x, s.many⟩)) ∧ W.heap[w.heap.size + 1]? = some (.cells #[.bool true] 4) ∧ Tch C S w W)
    (ownFrom_of fun p W W' ⟨ha, hh, hr, hB, hz⟩ hs => ⟨ha, hh.soft hs, hr.soft hs, hs.below (by omega) hB (Nat.le_refl _), Nat.le_trans hz hs.size⟩)
    (fun cd => ownFrom_of fun pp W W' ⟨ha, ⟨p, y, e1, e2, e3, e4⟩, hr, hz⟩ hs => ⟨ha, ⟨p, y, e1, e2, e3, e4.soft hs⟩, hs.heap hr, hz.soft hs (by omega)⟩)
    ⟨by simp, hL, HC1.out, hB0, Nat.le_refl _⟩
    (fun y a' W => ∃ Bx e q, w1.heap.size ≤ Bx ∧ (e = s.l[y.val] ∧ q = y.val) ∧ W.heap[Bx]? = some (entO e 33) ∧
      a' = { tmps := #[.pointer (some ⟨C, 0, none⟩), .int .i64 j, x.agg, undef, undef, .pointer (some ⟨w.heap.size, 0, none⟩), .pointer (some ⟨w.heap.size + 1, 0, none⟩), .pointer (some ⟨w.heap.size + 1 + 1, 0, none⟩), .int .i64 (q : Nat), .pointer (some ⟨Bx, 0, none⟩), .pointer (some ⟨C, 0, none⟩), .int .i64 j, .pointer (some ⟨S, j * 34, none⟩), .pointer (some ⟨S, j * 34, none⟩), .bool false, .bool false, .pointer (some ⟨C, 0, none⟩), .pointer (some ⟨C, 0, none⟩), .pointer (some ⟨C, 1, none⟩), .int .i64 c.most, .bool false, .bool false, .bool false, .pointer (some ⟨S, j * 34, none⟩), .pointer (some ⟨S, j * 34, none⟩), .pointer (some ⟨S, j * 34 + 33, none⟩), .bool false, .bool false, .pointer (some ⟨S, j * 34, none⟩), .func (.func 30) #[] #[.pointer (some ⟨w.heap.size + 1 + 1 + 1, 0, none⟩)], .int .i64 (q : Nat), e.agg, undef, undef, undef, undef, undef, undef, undef, undef, undef, undef, undef, undef, undef, undef, undef, undef, undef, undef, undef, undef, undef, undef, undef, undef, undef, undef, undef, undef, undef, undef, undef, undef, undef, undef, undef, undef, undef, undef, undef, undef, undef, undef, undef], defers := [] })
    (fun y a' => ownFrom_of fun _ W W' ⟨Bx, e, q, h1, h2, h3, h4⟩ hs => ⟨Bx, e, q, h1, h2, hs.heap h3, h4⟩) ?assign ?body ?done ?stop
  case assign =>
    rintro l pre y W K ⟨ha, hh, hr, hB, hz⟩ hK
    gi_wp2
    have hb := (Below.refl W.heap.size W).alloc (Nat.le_refl _) (entO s.l[y.val] 33)
    refine hK _ _ ((KeepsOthers.alloc _ _).from _) (hb.mono hz) ⟨ha, hh.below hb, hr.below hb, hB.alloc hB.size _, by simp; omega⟩ ⟨W.heap.size, _, _, hz, ⟨rfl, rfl⟩, heap_alloc_new _ _, rfl⟩
  case body =>
    rintro l pre y a' W hl hr ⟨ha, hh, hc, hB, hz⟩ ⟨Bx, e, q, hBx, he, hx, rfl⟩ hlt
    obtain ⟨⟨x0, x1, x2, x3, x4, x5, x6, x7⟩, _⟩ := cells8 hx
    obtain ⟨z0, z1, z2, z3⟩ := lays4 hh
    obtain ⟨⟨r0, r1, r2, r3, r4, r5, r6, r7⟩, _⟩ := cells8 (e := x) (T := 33) z0
    obtain ⟨b0, b1⟩ := cells1 z1
    obtain ⟨y0, _⟩ := cells1 z2
    obtain ⟨_, _, _, fS, hS⟩ := hc.site HS.out.2.1
    have hq : q < s.l.length := by rw [he.2]; exact y.isLt
    have hSq := hS q e (by rw [he.1, he.2]; exact List.getElem?_eq_getElem _)
    have v0 := hSq 0 _ rfl
    have v1 := hSq 1 _ rfl
    have v2 := hSq 2 _ rfl
    have v3 := hSq 3 _ rfl
    have v4 := hSq 4 _ rfl
    have v5 := hSq 5 _ rfl
    have v6 := hSq 6 _ rfl
    have v7 := hSq 7 _ rfl
    rw [Nat.add_zero] at v0
    have lx := (Array.getElem?_eq_some_iff.1 hx).1
    have lW0 : w.heap.size < W.heap.size := by omega
    have lW1 : w.heap.size + 1 < W.heap.size := by omega
    have lW2 : w.heap.size + 1 + 1 < W.heap.size := by omega
    have lWS : S < W.heap.size := by omega
    have n0 : w.heap.size ≠ S := by omega
    have n1 : w.heap.size + 1 ≠ S := by omega
    have n2 : w.heap.size + 1 + 1 ≠ S := by omega
    have i0 : ¬ (q : Int) < 0 := by omega
    have i1 : (q : Int) < 4 := by omega
    have INV := Lib.hid (And.intro ha (And.intro hh (And.intro hc (And.intro hB hz))))
    have HX := Lib.hid (And.intro he hx)
    have FS := Lib.hid fS
    have f0 := fS (j * 34 + q * 8)
    have f1 := fS (j * 34 + q * 8 + 1)
    have f2 := fS (j * 34 + q * 8 + 2)
    have f3 := fS (j * 34 + q * 8 + 3)
    have f4 := fS (j * 34 + q * 8 + 4)
    have f5 := fS (j * 34 + q * 8 + 5)
    have f6 := fS (j * 34 + q * 8 + 6)
    have f7 := fS (j * 34 + q * 8 + 7)
    clear ha hh hc hB hx he hl hr z0 z1 z2 z3 hS hSq fS
    cases hof : ofB e x.k x.sh
    · have OF := Lib.hid (fun W1 => by have := of_any e x.k x.sh W1; rw [hof] at this; exact this : ∀ W1, Calls Try.prog 23 #[e.agg, x.k.agg, .int .i64 x.sh] W1 fun e w' => e = .returned (.bool false) ∧ Below W1.heap.size W1 w')
      have F4 := Lib.hid hof
      clear hof
      gi_wp2_with (first | (refine ⟨trivial, ?_⟩; gi_at_call 23; refine (calls_wide l (callGr (OF.out _))).mono ?_; rintro e' w' ⟨pp, rfl, rfl⟩) | (refine ⟨trivial, ?_⟩))
      exact ⟨keeps_gr _ _ _, (below_gr W pp).mono INV.out.2.2.2.2, fun z hz => (by
        rcases List.mem_append.1 hz with hz | hz
        · exact INV.out.1 z hz
        · simp at hz
          subst hz
          rw [← HX.out.1.1]
          exact F4.out), INV.out.2.1.below (below_gr W pp), INV.out.2.2.1.below (below_gr W pp), bl_gr' INV.out.2.2.2.1 _, by rw [gr_size]; omega⟩
    · have OF := Lib.hid (fun W1 => by have := of_any e x.k x.sh W1; rw [hof] at this; exact this : ∀ W1, Calls Try.prog 23 #[e.agg, x.k.agg, .int .i64 x.sh] W1 fun e w' => e = .returned (.bool true) ∧ Below W1.heap.size W1 w')
      have F4 := Lib.hid hof
      clear hof
      gi_wp2_with (first | (refine ⟨trivial, ?_⟩; gi_at_call 23; refine (calls_wide l (callGr (OF.out _))).mono ?_; rintro e' w' ⟨pp, rfl, rfl⟩))
      (refine wpIn_region_held (fun Z : World => Z.cell? ⟨w.heap.size + 1 + 1, 0, none⟩ = some (.pointer (some ⟨S, j * 34, none⟩)) ∧ Z.cell? ⟨w.heap.size, 0, none⟩ = some (.int .i64 x.k.k) ∧ Z.cell? ⟨w.heap.size, 1, none⟩ = some (.int .i64 x.k.n) ∧ Z.cell? ⟨w.heap.size, 2, none⟩ = some (.string x.k.s) ∧ Z.cell? ⟨w.heap.size, 3, none⟩ = some (.int .i64 x.sh) ∧ Z.cell? ⟨w.heap.size, 4, none⟩ = some (.int .i64 x.ep) ∧ Z.cell? ⟨w.heap.size, 5, none⟩ = some (.int .i64 x.ho) ∧ Z.cell? ⟨w.heap.size, 6, none⟩ = some (.int .i64 x.sl) ∧ Z.cell? ⟨w.heap.size, 7, none⟩ = some (.int .i64 x.fo)) _ Try.mixed (by simp) (by (and_intros <;> go_simp)) (fun hS => ?_) (fun _ _ h => h); (refine wpAnyH_take (i := 0) (v := ?_) rfl (by kernel_rfl) (by kernel_rfl) (by kernel_rfl) (fun _ _ _ h => (by cases h.1)) ?_ (by assumption) ?_; rotate_left; (next => (refine Or.inl ⟨by kernel_rfl, ?_⟩; ((intro w hSw; (try dsimp only at hSw); go_simp) <;> with_reducible rfl))); (try simp only [Act.put, List.setIfInBounds_toArray, List.set_cons_zero, List.set_cons_succ])); (refine wpAnyH_take (i := 1) (v := ?_) rfl (by kernel_rfl) (by kernel_rfl) (by kernel_rfl) (fun _ _ _ h => (by cases h.1)) ?_ (by assumption) ?_; rotate_left; (next => (refine Or.inl ⟨by kernel_rfl, ?_⟩; ((intro w hSw; (try dsimp only at hSw); go_simp) <;> with_reducible rfl))); (try simp only [Act.put, List.setIfInBounds_toArray, List.set_cons_zero, List.set_cons_succ])); (refine wpAnyH_take (i := 2) (v := ?_) rfl (by kernel_rfl) (by kernel_rfl) (by kernel_rfl) (fun _ _ _ h => (by cases h.1)) ?_ (by assumption) ?_; rotate_left; (next => (refine Or.inl ⟨by kernel_rfl, ?_⟩; ((intro w hSw; (try dsimp only at hSw); go_simp) <;> with_reducible rfl))); (try simp only [Act.put, List.setIfInBounds_toArray, List.set_cons_zero, List.set_cons_succ])); (refine wpAnyH_take (i := 3) (v := ?_) rfl (by kernel_rfl) (by kernel_rfl) (by kernel_rfl) (fun _ _ _ h => (by cases h.1)) ?_ (by assumption) ?_; rotate_left; (next => (refine Or.inl ⟨by kernel_rfl, ?_⟩; ((intro w hSw; (try dsimp only at hSw); go_simp) <;> with_reducible rfl))); (try simp only [Act.put, List.setIfInBounds_toArray, List.set_cons_zero, List.set_cons_succ])); (refine wpAnyH_take (i := 4) (v := ?_) rfl (by kernel_rfl) (by kernel_rfl) (by kernel_rfl) (fun _ _ _ h => (by cases h.1)) ?_ (by assumption) ?_; rotate_left; (next => (refine Or.inl ⟨by kernel_rfl, ?_⟩; ((intro w hSw; (try dsimp only at hSw); go_simp) <;> with_reducible rfl))); (try simp only [Act.put, List.setIfInBounds_toArray, List.set_cons_zero, List.set_cons_succ])); (refine wpAnyH_take (i := 5) (v := ?_) rfl (by kernel_rfl) (by kernel_rfl) (by kernel_rfl) (fun _ _ _ h => (by cases h.1)) ?_ (by assumption) ?_; rotate_left; (next => (refine Or.inl ⟨by kernel_rfl, ?_⟩; ((intro w hSw; (try dsimp only at hSw); go_simp) <;> with_reducible rfl))); (try simp only [Act.put, List.setIfInBounds_toArray, List.set_cons_zero, List.set_cons_succ])); refine wpAnyH_ready (rs := [6]) (by kernel_rfl) (by simp) ?_; refine AllReadyH.cons rfl (fun K hK => ?_) AllReadyH.nil; go_simp; refine hK.out _ _ (by (and_intros <;> go_simp)) (fun hS => ?_); clear hK K; (try simp only [Act.put, List.setIfInBounds_toArray, List.set_cons_zero, List.set_cons_succ]); refine wpAnyH_done (by kernel_rfl) ⟨rfl, ?_⟩ _)
      go_simp
      gi_wp2_with (refine ⟨trivial, ?_⟩)
      have X := keep_flag (b := w.heap.size + 1) (v := .bool false) (.bool true) (put8_touch W S (j * 34 + q * 8) x) (INV.out.2.2.1.at HS.out.2.1 hq x) (lays4 INV.out.2.1).2.1 (by omega) (by omega)
      have B := below_gr ((put8 W S (j * 34 + q * 8) x).setCell ⟨w.heap.size + 1, 0, none⟩ (.bool true)) (rdr pp)
      have T := X.1.gr (rdr pp)
      refine ⟨keeps_touch T (fun k hk => ?_), rfl, ⟨pre, y, rfl, INV.out.1, by rw [← HX.out.1.1]; exact F4.out, by rw [← HX.out.1.2]; exact X.2.2.below B⟩, (B.block _ (Array.getElem?_eq_some_iff.1 X.2.1).1).trans X.2.1, (Tch.of_below INV.out.2.2.2.1).trans T (fun i hi h => ?_)⟩
      · rcases hk with rfl | rfl
        · obtain ⟨arr, ha, _⟩ := INV.out.2.2.1.body
          exact ⟨_, _, ha⟩
        · exact ⟨_, _, (lays4 INV.out.2.1).2.1⟩
      · rcases h with h | h
        · exact .inr h
        · omega
  case done =>
    rintro D ys W hD rfl ⟨ha, hh, hc, hB, hz⟩ hK
    obtain ⟨z0, z1, z2, _⟩ := lays4 hh
    obtain ⟨⟨r0, r1, r2, r3, r4, r5, r6, r7⟩, _⟩ := cells8 (e := x) (T := 33) z0
    obtain ⟨b0, b1⟩ := cells1 z1
    obtain ⟨y0, _⟩ := cells1 z2
    obtain ⟨_, m1, _⟩ := hc.cells
    obtain ⟨_, s32, s33, fS, _⟩ := hc.site HS.out.2.1
    have FN := Lib.hid (find_none (q := fun y => ofB y x.k x.sh) ha).2
    have INV := Lib.hid (And.intro z1 (And.intro hc hB))
    have HD := Lib.hid (And.intro hD hK)
    have lW0 : w.heap.size < W.heap.size := by omega
    have lW1 : w.heap.size + 1 < W.heap.size := by omega
    have lW2 : w.heap.size + 1 + 1 < W.heap.size := by omega
    have lWS : S < W.heap.size := by omega
    have lWC : C < W.heap.size := by omega
    have n0 : w.heap.size ≠ S := by omega
    have n1 : w.heap.size + 1 ≠ S := by omega
    have n2 : w.heap.size + 1 + 1 ≠ S := by omega
    clear ha hh hB hz hD hK z0 z1 z2
    by_cases hl : s.l.length < c.most
    · have HL := Lib.hid hl
      have i0 : ¬ (s.l.length : Int) < 0 := by omega
      have i1 : (s.l.length : Int) < 4 := by omega
      have i2 : (s.l.length : Int) < c.most := by omega
      have hk : j * 34 + s.l.length * 8 + 7 < c.sites.length * 34 := by omega
      obtain ⟨u0, v0⟩ := hc.cell (j * 34 + s.l.length * 8) (by omega)
      obtain ⟨u1, v1⟩ := hc.cell (j * 34 + s.l.length * 8 + 1) (by omega)
      obtain ⟨u2, v2⟩ := hc.cell (j * 34 + s.l.length * 8 + 2) (by omega)
      obtain ⟨u3, v3⟩ := hc.cell (j * 34 + s.l.length * 8 + 3) (by omega)
      obtain ⟨u4, v4⟩ := hc.cell (j * 34 + s.l.length * 8 + 4) (by omega)
      obtain ⟨u5, v5⟩ := hc.cell (j * 34 + s.l.length * 8 + 5) (by omega)
      obtain ⟨u6, v6⟩ := hc.cell (j * 34 + s.l.length * 8 + 6) (by omega)
      obtain ⟨u7, v7⟩ := hc.cell (j * 34 + s.l.length * 8 + 7) (by omega)
      have f0 := fS (j * 34 + s.l.length * 8)
      have f1 := fS (j * 34 + s.l.length * 8 + 1)
      have f2 := fS (j * 34 + s.l.length * 8 + 2)
      have f3 := fS (j * 34 + s.l.length * 8 + 3)
      have f4 := fS (j * 34 + s.l.length * 8 + 4)
      have f5 := fS (j * 34 + s.l.length * 8 + 5)
      have f6 := fS (j * 34 + s.l.length * 8 + 6)
      have f7 := fS (j * 34 + s.l.length * 8 + 7)
      have FS := Lib.hid fS
      clear hl fS hc hk
      go_upto_region 10 with fail
      (refine wp_region_heldE (fun Z : World => Z.cell? ⟨w.heap.size + 1 + 1, 0, none⟩ = some (.pointer (some ⟨S, j * 34, none⟩)) ∧ Z.cell? ⟨S, j * 34 + 32, none⟩ = some (.int .i64 s.l.length) ∧ Z.cell? ⟨C, 1, none⟩ = some (.int .i64 c.most)) _ Try.mixed (by (and_intros <;> go_simp)) (fun hS => ?_) (fun _ _ h => h); (refine wpAnyH_take (i := 0) (v := ?_) rfl (by kernel_rfl) (by kernel_rfl) (by kernel_rfl) (fun _ _ _ h => (by cases h.1)) ?_ (by assumption) ?_; rotate_left; (next => (refine Or.inl ⟨by kernel_rfl, ?_⟩; ((intro w hSw; (try dsimp only at hSw); go_simp) <;> with_reducible rfl))); (try simp only [Act.put, List.setIfInBounds_toArray, List.set_cons_zero, List.set_cons_succ])); (refine wpAnyH_take (i := 1) (v := ?_) rfl (by kernel_rfl) (by kernel_rfl) (by kernel_rfl) (fun _ _ _ h => (by cases h.1)) ?_ (by assumption) ?_; rotate_left; (next => (refine Or.inl ⟨by kernel_rfl, ?_⟩; ((intro w hSw; (try dsimp only at hSw); go_simp) <;> with_reducible rfl))); (try simp only [Act.put, List.setIfInBounds_toArray, List.set_cons_zero, List.set_cons_succ])); (refine wpAnyH_take (i := 2) (v := ?_) rfl (by kernel_rfl) (by kernel_rfl) (by kernel_rfl) (fun _ _ _ h => (by cases h.1)) ?_ (by assumption) ?_; rotate_left; (next => (refine Or.inl ⟨by kernel_rfl, ?_⟩; ((intro w hSw; (try dsimp only at hSw); go_simp) <;> with_reducible rfl))); (try simp only [Act.put, List.setIfInBounds_toArray, List.set_cons_zero, List.set_cons_succ])); (refine wpAnyH_take (i := 3) (v := ?_) rfl (by kernel_rfl) (by kernel_rfl) (by kernel_rfl) (fun _ _ _ h => (by cases h.1)) ?_ (by assumption) ?_; rotate_left; (next => (refine Or.inl ⟨by kernel_rfl, ?_⟩; ((intro w hSw; (try dsimp only at hSw); go_simp) <;> with_reducible rfl))); (try simp only [Act.put, List.setIfInBounds_toArray, List.set_cons_zero, List.set_cons_succ])); (refine wpAnyH_take (i := 4) (v := ?_) rfl (by kernel_rfl) (by kernel_rfl) (by kernel_rfl) (fun _ _ _ h => (by cases h.1)) ?_ (by assumption) ?_; rotate_left; (next => (refine Or.inl ⟨by kernel_rfl, ?_⟩; ((intro w hSw; (try dsimp only at hSw); go_simp) <;> with_reducible rfl))); (try simp only [Act.put, List.setIfInBounds_toArray, List.set_cons_zero, List.set_cons_succ])); (refine wpAnyH_take (i := 5) (v := ?_) rfl (by kernel_rfl) (by kernel_rfl) (by kernel_rfl) (fun _ _ _ h => (by cases h.1)) ?_ (by assumption) ?_; rotate_left; (next => (refine Or.inl ⟨by kernel_rfl, ?_⟩; ((intro w hSw; (try dsimp only at hSw); go_simp) <;> with_reducible rfl))); (try simp only [Act.put, List.setIfInBounds_toArray, List.set_cons_zero, List.set_cons_succ])); (refine wpAnyH_take (i := 6) (v := ?_) rfl (by kernel_rfl) (by kernel_rfl) (by kernel_rfl) (fun _ _ _ h => (by cases h.1)) ?_ (by assumption) ?_; rotate_left; (next => (refine Or.inl ⟨by kernel_rfl, ?_⟩; ((intro w hSw; (try dsimp only at hSw); go_simp) <;> with_reducible rfl))); (try simp only [Act.put, List.setIfInBounds_toArray, List.set_cons_zero, List.set_cons_succ])); (refine wpAnyH_take (i := 7) (v := ?_) rfl (by kernel_rfl) (by kernel_rfl) (by kernel_rfl) (fun _ _ _ h => (by cases h.1)) ?_ (by assumption) ?_; rotate_left; (next => (refine Or.inl ⟨by kernel_rfl, ?_⟩; ((intro w hSw; (try dsimp only at hSw); go_simp) <;> with_reducible rfl))); (try simp only [Act.put, List.setIfInBounds_toArray, List.set_cons_zero, List.set_cons_succ])); (refine wpAnyH_take (i := 8) (v := ?_) rfl (by kernel_rfl) (by kernel_rfl) (by kernel_rfl) (fun _ _ _ h => (by cases h.1)) ?_ (by assumption) ?_; rotate_left; (next => (refine Or.inl ⟨by kernel_rfl, ?_⟩; ((intro w hSw; (try dsimp only at hSw); go_simp) <;> with_reducible rfl))); (try simp only [Act.put, List.setIfInBounds_toArray, List.set_cons_zero, List.set_cons_succ])); refine wpAnyH_done (by kernel_rfl) ⟨rfl, ?_⟩ _)
      go_simp
      go_upto_region 11 with fail
      (refine wp_region_untilE (fun Z : World => Z.cell? ⟨w.heap.size + 1 + 1, 0, none⟩ = some (.pointer (some ⟨S, j * 34, none⟩)) ∧ Z.cell? ⟨S, j * 34 + 32, none⟩ = some (.int .i64 s.l.length) ∧ Z.cell? ⟨w.heap.size, 0, none⟩ = some (.int .i64 x.k.k) ∧ Z.cell? ⟨w.heap.size, 1, none⟩ = some (.int .i64 x.k.n) ∧ Z.cell? ⟨w.heap.size, 2, none⟩ = some (.string x.k.s) ∧ Z.cell? ⟨w.heap.size, 3, none⟩ = some (.int .i64 x.sh) ∧ Z.cell? ⟨w.heap.size, 4, none⟩ = some (.int .i64 x.ep) ∧ Z.cell? ⟨w.heap.size, 5, none⟩ = some (.int .i64 x.ho) ∧ Z.cell? ⟨w.heap.size, 6, none⟩ = some (.int .i64 x.sl) ∧ Z.cell? ⟨w.heap.size, 7, none⟩ = some (.int .i64 x.fo)) [9] _ Try.mixed (by (and_intros <;> go_simp)) (fun hS => ?_) (fun _ _ h => h); (refine wpAnyU_take (i := 0) (v := ?_) rfl (by kernel_rfl) (by kernel_rfl) (by kernel_rfl) (by kernel_rfl) (fun _ _ _ h => (by cases h.1)) ?_ (by assumption) ?_; rotate_left; (next => (refine Or.inl ⟨by kernel_rfl, ?_⟩; ((intro w hSw; (try dsimp only at hSw); go_simp) <;> with_reducible rfl))); (try simp only [Act.put, List.setIfInBounds_toArray, List.set_cons_zero, List.set_cons_succ])); (refine wpAnyU_take (i := 1) (v := ?_) rfl (by kernel_rfl) (by kernel_rfl) (by kernel_rfl) (by kernel_rfl) (fun _ _ _ h => (by cases h.1)) ?_ (by assumption) ?_; rotate_left; (next => (refine Or.inl ⟨by kernel_rfl, ?_⟩; ((intro w hSw; (try dsimp only at hSw); go_simp) <;> with_reducible rfl))); (try simp only [Act.put, List.setIfInBounds_toArray, List.set_cons_zero, List.set_cons_succ])); (refine wpAnyU_free (i := 2) (v := ?_) rfl (by kernel_rfl) (by kernel_rfl) (by kernel_rfl) (by kernel_rfl) (fun _ _ _ h => (by cases h.1)) ?_ (fun _ => by assumption) ?_; rotate_left; (next => (refine Or.inl ⟨by kernel_rfl, ?_⟩; ((intro w hSw; (try dsimp only at hSw); go_simp) <;> with_reducible rfl))); (try simp only [Act.put, List.setIfInBounds_toArray, List.set_cons_zero, List.set_cons_succ])); (refine wpAnyU_free (i := 3) (v := ?_) rfl (by kernel_rfl) (by kernel_rfl) (by kernel_rfl) (by kernel_rfl) (fun _ _ _ h => (by cases h.1)) ?_ (fun _ => by assumption) ?_; rotate_left; (next => (refine Or.inl ⟨by kernel_rfl, ?_⟩; ((intro w hSw; (try dsimp only at hSw); go_simp) <;> with_reducible rfl))); (try simp only [Act.put, List.setIfInBounds_toArray, List.set_cons_zero, List.set_cons_succ])); (refine wpAnyU_take (i := 4) (v := ?_) rfl (by kernel_rfl) (by kernel_rfl) (by kernel_rfl) (by kernel_rfl) (fun _ _ _ h => (by cases h.1)) ?_ (by assumption) ?_; rotate_left; (next => (refine Or.inl ⟨by kernel_rfl, ?_⟩; ((intro w hSw; (try dsimp only at hSw); go_simp) <;> with_reducible rfl))); (try simp only [Act.put, List.setIfInBounds_toArray, List.set_cons_zero, List.set_cons_succ])); (refine wpAnyU_take (i := 5) (v := ?_) rfl (by kernel_rfl) (by kernel_rfl) (by kernel_rfl) (by kernel_rfl) (fun _ _ _ h => (by cases h.1)) ?_ (by assumption) ?_; rotate_left; (next => (refine Or.inl ⟨by kernel_rfl, ?_⟩; ((intro w hSw; (try dsimp only at hSw); go_simp) <;> with_reducible rfl))); (try simp only [Act.put, List.setIfInBounds_toArray, List.set_cons_zero, List.set_cons_succ])); (refine wpAnyU_free (i := 6) (v := ?_) rfl (by kernel_rfl) (by kernel_rfl) (by kernel_rfl) (by kernel_rfl) (fun _ _ _ h => (by cases h.1)) ?_ (fun _ => by assumption) ?_; rotate_left; (next => (refine Or.inl ⟨by kernel_rfl, ?_⟩; ((intro w hSw; (try dsimp only at hSw); go_simp) <;> with_reducible rfl))); (try simp only [Act.put, List.setIfInBounds_toArray, List.set_cons_zero, List.set_cons_succ])); (refine wpAnyU_free (i := 7) (v := ?_) rfl (by kernel_rfl) (by kernel_rfl) (by kernel_rfl) (by kernel_rfl) (fun _ _ _ h => (by cases h.1)) ?_ (fun _ => by assumption) ?_; rotate_left; (next => (refine Or.inl ⟨by kernel_rfl, ?_⟩; ((intro w hSw; (try dsimp only at hSw); go_simp) <;> with_reducible rfl))); (try simp only [Act.put, List.setIfInBounds_toArray, List.set_cons_zero, List.set_cons_succ])); (refine wpAnyU_free (i := 8) (v := ?_) rfl (by kernel_rfl) (by kernel_rfl) (by kernel_rfl) (by kernel_rfl) (fun _ _ _ h => (by cases h.1)) ?_ (fun _ => by assumption) ?_; rotate_left; (next => (refine Or.inl ⟨by kernel_rfl, ?_⟩; ((intro w hSw; (try dsimp only at hSw); go_simp) <;> with_reducible rfl))); (try simp only [Act.put, List.setIfInBounds_toArray, List.set_cons_zero, List.set_cons_succ])); refine wpAnyU_one (i := 9) (by kernel_rfl) rfl (fun K hK => ?_); have HK := Lib.hid hK; clear hK; go_simp; refine HK.out _ _ (fun h => absurd h (by decide)) ?_; clear HK K; (try simp only [Act.put, List.setIfInBounds_toArray, List.set_cons_zero, List.set_cons_succ]); refine wpAnyU_done (by kernel_rfl) ⟨rfl, ?_⟩ _)
      go_simp
      go_upto_region 12 with fail
      have GO := Lib.hid (ntMid_put (b1 := w.heap.size + 1) (b2 := w.heap.size + 1 + 1) INV.out.2.1 HS.out.2.1 (by omega) x n1 n2 INV.out.1 y0)
      refine wp_world (NtMid C S (j * 34) (w.heap.size + 1 + 1) (w.heap.size + 1) s.l.length (putS c j ⟨s.l ++ [x], s.many⟩) W) GO.out.drew.drew ?_
      rintro Z ⟨p0, p1, p2, p3, p4, p5⟩
      have GZ := Lib.hid (And.intro p3 (And.intro p4 p5))
      obtain ⟨g0, g1⟩ := cells1 p3
      clear p3 p4 p5 f0 f1 f2 f3 f4 f5 f6 f7 v0 v1 v2 v3 v4 v5 v6 v7 r0 r1 r2 r3 r4 r5 r6 r7 y0 b0 b1 hS
      go_wp2
      have X := keep_flag (b := w.heap.size + 1) (v := .bool false) (.bool true) GZ.out.2.2 GZ.out.2.1 INV.out.1 (by omega) (by omega)
      have hm := HS.out.2.2.2
      exact note_end (b := w.heap.size + 1) rfl rfl INV.out.2.2 X.1 X.2.1 X.2.2 (by rw [note_new HS.out.1 HS.out.2.2.1 hm FN.out HL.out, hm]) HD.out.2 (by have := HD.out.1; omega) (by omega) (fun e => by have h := HD.out.2; rw [e, INV.out.1] at h; cases h) lS lC
    · have HL := Lib.hid hl
      have i2 : ¬ (s.l.length : Int) < c.most := by omega
      have hk : j * 34 + 33 < c.sites.length * 34 := by omega
      have f0 := fS (j * 34 + 32)
      have f1 := fS (j * 34 + 33)
      clear hl fS hc hk r0 r1 r2 r3 r4 r5 r6 r7
      go_upto_region 10 with fail
      (refine wp_region_heldE (fun Z : World => Z.cell? ⟨w.heap.size + 1 + 1, 0, none⟩ = some (.pointer (some ⟨S, j * 34, none⟩)) ∧ Z.cell? ⟨S, j * 34 + 32, none⟩ = some (.int .i64 s.l.length) ∧ Z.cell? ⟨C, 1, none⟩ = some (.int .i64 c.most)) _ Try.mixed (by (and_intros <;> go_simp)) (fun hS => ?_) (fun _ _ h => h); (refine wpAnyH_take (i := 0) (v := ?_) rfl (by kernel_rfl) (by kernel_rfl) (by kernel_rfl) (fun _ _ _ h => (by cases h.1)) ?_ (by assumption) ?_; rotate_left; (next => (refine Or.inl ⟨by kernel_rfl, ?_⟩; ((intro w hSw; (try dsimp only at hSw); go_simp) <;> with_reducible rfl))); (try simp only [Act.put, List.setIfInBounds_toArray, List.set_cons_zero, List.set_cons_succ])); (refine wpAnyH_take (i := 1) (v := ?_) rfl (by kernel_rfl) (by kernel_rfl) (by kernel_rfl) (fun _ _ _ h => (by cases h.1)) ?_ (by assumption) ?_; rotate_left; (next => (refine Or.inl ⟨by kernel_rfl, ?_⟩; ((intro w hSw; (try dsimp only at hSw); go_simp) <;> with_reducible rfl))); (try simp only [Act.put, List.setIfInBounds_toArray, List.set_cons_zero, List.set_cons_succ])); (refine wpAnyH_take (i := 2) (v := ?_) rfl (by kernel_rfl) (by kernel_rfl) (by kernel_rfl) (fun _ _ _ h => (by cases h.1)) ?_ (by assumption) ?_; rotate_left; (next => (refine Or.inl ⟨by kernel_rfl, ?_⟩; ((intro w hSw; (try dsimp only at hSw); go_simp) <;> with_reducible rfl))); (try simp only [Act.put, List.setIfInBounds_toArray, List.set_cons_zero, List.set_cons_succ])); (refine wpAnyH_take (i := 3) (v := ?_) rfl (by kernel_rfl) (by kernel_rfl) (by kernel_rfl) (fun _ _ _ h => (by cases h.1)) ?_ (by assumption) ?_; rotate_left; (next => (refine Or.inl ⟨by kernel_rfl, ?_⟩; ((intro w hSw; (try dsimp only at hSw); go_simp) <;> with_reducible rfl))); (try simp only [Act.put, List.setIfInBounds_toArray, List.set_cons_zero, List.set_cons_succ])); (refine wpAnyH_take (i := 4) (v := ?_) rfl (by kernel_rfl) (by kernel_rfl) (by kernel_rfl) (fun _ _ _ h => (by cases h.1)) ?_ (by assumption) ?_; rotate_left; (next => (refine Or.inl ⟨by kernel_rfl, ?_⟩; ((intro w hSw; (try dsimp only at hSw); go_simp) <;> with_reducible rfl))); (try simp only [Act.put, List.setIfInBounds_toArray, List.set_cons_zero, List.set_cons_succ])); (refine wpAnyH_take (i := 5) (v := ?_) rfl (by kernel_rfl) (by kernel_rfl) (by kernel_rfl) (fun _ _ _ h => (by cases h.1)) ?_ (by assumption) ?_; rotate_left; (next => (refine Or.inl ⟨by kernel_rfl, ?_⟩; ((intro w hSw; (try dsimp only at hSw); go_simp) <;> with_reducible rfl))); (try simp only [Act.put, List.setIfInBounds_toArray, List.set_cons_zero, List.set_cons_succ])); (refine wpAnyH_take (i := 6) (v := ?_) rfl (by kernel_rfl) (by kernel_rfl) (by kernel_rfl) (fun _ _ _ h => (by cases h.1)) ?_ (by assumption) ?_; rotate_left; (next => (refine Or.inl ⟨by kernel_rfl, ?_⟩; ((intro w hSw; (try dsimp only at hSw); go_simp) <;> with_reducible rfl))); (try simp only [Act.put, List.setIfInBounds_toArray, List.set_cons_zero, List.set_cons_succ])); (refine wpAnyH_take (i := 7) (v := ?_) rfl (by kernel_rfl) (by kernel_rfl) (by kernel_rfl) (fun _ _ _ h => (by cases h.1)) ?_ (by assumption) ?_; rotate_left; (next => (refine Or.inl ⟨by kernel_rfl, ?_⟩; ((intro w hSw; (try dsimp only at hSw); go_simp) <;> with_reducible rfl))); (try simp only [Act.put, List.setIfInBounds_toArray, List.set_cons_zero, List.set_cons_succ])); (refine wpAnyH_take (i := 8) (v := ?_) rfl (by kernel_rfl) (by kernel_rfl) (by kernel_rfl) (fun _ _ _ h => (by cases h.1)) ?_ (by assumption) ?_; rotate_left; (next => (refine Or.inl ⟨by kernel_rfl, ?_⟩; ((intro w hSw; (try dsimp only at hSw); go_simp) <;> with_reducible rfl))); (try simp only [Act.put, List.setIfInBounds_toArray, List.set_cons_zero, List.set_cons_succ])); refine wpAnyH_done (by kernel_rfl) ⟨rfl, ?_⟩ _)
      go_simp
      clear hS
      go_upto_region 14 with fail
      (refine wp_region_heldE (fun Z : World => Z.cell? ⟨w.heap.size + 1 + 1, 0, none⟩ = some (.pointer (some ⟨S, j * 34, none⟩))) _ Try.mixed (by (go_simp)) (fun hS => ?_) (fun _ _ h => h); (refine wpAnyH_take (i := 0) (v := ?_) rfl (by kernel_rfl) (by kernel_rfl) (by kernel_rfl) (fun _ _ _ h => (by cases h.1)) ?_ (by assumption) ?_; rotate_left; (next => (refine Or.inl ⟨by kernel_rfl, ?_⟩; ((intro w hSw; (try dsimp only at hSw); go_simp) <;> with_reducible rfl))); (try simp only [Act.put, List.setIfInBounds_toArray, List.set_cons_zero, List.set_cons_succ])); (refine wpAnyH_take (i := 1) (v := ?_) rfl (by kernel_rfl) (by kernel_rfl) (by kernel_rfl) (fun _ _ _ h => (by cases h.1)) ?_ (by assumption) ?_; rotate_left; (next => (refine Or.inl ⟨by kernel_rfl, ?_⟩; ((intro w hSw; (try dsimp only at hSw); go_simp) <;> with_reducible rfl))); (try simp only [Act.put, List.setIfInBounds_toArray, List.set_cons_zero, List.set_cons_succ])); (refine wpAnyH_take (i := 2) (v := ?_) rfl (by kernel_rfl) (by kernel_rfl) (by kernel_rfl) (fun _ _ _ h => (by cases h.1)) ?_ (by assumption) ?_; rotate_left; (next => (refine Or.inl ⟨by kernel_rfl, ?_⟩; ((intro w hSw; (try dsimp only at hSw); go_simp) <;> with_reducible rfl))); (try simp only [Act.put, List.setIfInBounds_toArray, List.set_cons_zero, List.set_cons_succ])); (refine wpAnyH_take (i := 3) (v := ?_) rfl (by kernel_rfl) (by kernel_rfl) (by kernel_rfl) (fun _ _ _ h => (by cases h.1)) ?_ (by assumption) ?_; rotate_left; (next => (refine Or.inl ⟨by kernel_rfl, ?_⟩; ((intro w hSw; (try dsimp only at hSw); go_simp) <;> with_reducible rfl))); (try simp only [Act.put, List.setIfInBounds_toArray, List.set_cons_zero, List.set_cons_succ])); refine wpAnyH_ready (rs := [4]) (by kernel_rfl) (by simp) ?_; refine AllReadyH.cons rfl (fun K hK => ?_) AllReadyH.nil; go_simp; refine hK.out _ _ (by (go_simp)) (fun hS => ?_); clear hK K; (try simp only [Act.put, List.setIfInBounds_toArray, List.set_cons_zero, List.set_cons_succ]); (refine wpAnyH_take (i := 5) (v := ?_) rfl (by kernel_rfl) (by kernel_rfl) (by kernel_rfl) (fun _ _ _ h => (by cases h.1)) ?_ (by assumption) ?_; rotate_left; (next => (refine Or.inl ⟨by kernel_rfl, ?_⟩; ((intro w hSw; (try dsimp only at hSw); go_simp) <;> with_reducible rfl))); (try simp only [Act.put, List.setIfInBounds_toArray, List.set_cons_zero, List.set_cons_succ])); (refine wpAnyH_take (i := 6) (v := ?_) rfl (by kernel_rfl) (by kernel_rfl) (by kernel_rfl) (fun _ _ _ h => (by cases h.1)) ?_ (by assumption) ?_; rotate_left; (next => (refine Or.inl ⟨by kernel_rfl, ?_⟩; ((intro w hSw; (try dsimp only at hSw); go_simp) <;> with_reducible rfl))); (try simp only [Act.put, List.setIfInBounds_toArray, List.set_cons_zero, List.set_cons_succ])); refine wpAnyH_ready (rs := [7]) (by kernel_rfl) (by simp) ?_; refine AllReadyH.cons rfl (fun K hK => ?_) AllReadyH.nil; go_simp; refine hK.out _ _ (by (go_simp)) (fun hS => ?_); clear hK K; (try simp only [Act.put, List.setIfInBounds_toArray, List.set_cons_zero, List.set_cons_succ]); refine wpAnyH_done (by kernel_rfl) ⟨rfl, ?_⟩ _)
      go_simp
      clear hS
      go_upto_region 15 with fail
      have GO := Lib.hid (ntEnd_gone (b1 := w.heap.size + 1) INV.out.2.1 HS.out.2.1 n1 INV.out.1)
      refine wp_world (NtEnd C S (w.heap.size + 1) (putS c j ⟨[], true⟩) W) GO.out.drew.drew ?_
      rintro Z ⟨p3, p4, p5⟩
      have GZ := Lib.hid (And.intro p3 (And.intro p4 p5))
      obtain ⟨g0, g1⟩ := cells1 p3
      clear p3 p4 p5 f0 f1 y0 b0 b1
      go_wp2
      have X := keep_flag (b := w.heap.size + 1) (v := .bool false) (.bool false) GZ.out.2.2 GZ.out.2.1 INV.out.1 (by omega) (by omega)
      exact note_end (b := w.heap.size + 1) rfl rfl INV.out.2.2 X.1 X.2.1 X.2.2 (note_gone HS.out.1 HS.out.2.2.1 HS.out.2.2.2 FN.out HL.out) HD.out.2 (by have := HD.out.1; omega) (by omega) (fun e => by have h := HD.out.2; rw [e, INV.out.1] at h; cases h) lS lC
  case stop =>
    rintro D cd pre W hD hpre ⟨rfl, ⟨p, y, rfl, hp, hy, hc⟩, z1, ht⟩ hK
    have HD := Lib.hid (And.intro hD (And.intro hK (And.intro hc ht)))
    have FS := Lib.hid (find_some (q := fun z => ofB z x.k x.sh) hpre hp hy).2
    have Z := Lib.hid z1
    clear hp hy hc ht hD hK z1
    gi_wp2
    have h5 := (heap_put (.deferred none) (show w.heap.size + 1 ≠ D by intro e; have h := HD.out.2.1; rw [← e, Z.out] at h; cases h)).trans Z.out
    obtain ⟨u0, _⟩ := cells1 h5
    have hm := HS.out.2.2.2
    have NN := note_some (x := x) HS.out.1 HS.out.2.2.1 hm FS.out
    refine marks_ret1 (v := .bool true) HD.out.2.1 ?_ rfl ⟨?_, ?_, ?_⟩
    · simp [results, Try.results8, go_sem, u0]
    · rw [NN]
    · rw [NN]
      have h := HD.out.2.2.1
      rw [hm] at h
      exact h.same (heap_put _ (by have := HD.out.1; omega)) (heap_put _ (by have := HD.out.1; omega))
    · exact HD.out.2.2.2.trans (Touch.put _ D _) (fun i hi h => by have := HD.out.1; omega)

theorem note_any {C S : Nat} {c : CacheD} (n : Int) (x : Ent) (w : World) (h : CacheIn w C S c) (hm4 : c.most ≤ 4) :
    Calls Try.prog 8 #[.pointer (some ⟨C, 0, none⟩), .int .i64 n, x.agg] w (RetNote C S c n x w) := by
  cases hs : siteD c n with
  | none => exact note_shut_any n x w h (.inl hs)
  | some s =>
    by_cases h0 : c.most = 0
    · exact note_shut_any n x w h (.inr ⟨s, hs, .inl h0⟩)
    · cases hm : s.many with
      | true => exact note_shut_any n x w h (.inr ⟨s, hs, .inr ⟨h0, hm⟩⟩)
      | false => exact note_open_any n x w h s hs h0 hm hm4
end Go.Proofs.Ytbgcjgnhblhohaa
