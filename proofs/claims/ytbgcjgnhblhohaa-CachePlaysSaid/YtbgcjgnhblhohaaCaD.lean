/- Inline caches: Look, by the program. -/
import Derived.Test.YtbgcjgnhblhohaaCaC
namespace Go.Proofs.Ytbgcjgnhblhohaa
set_option linter.all false
open Go.RowKit Go.Sort Go.Deep Go.Shelf
attribute [local go_sem] Oper.semAt_some

/-- what a call may leave: nothing that was there has turned but blocks C and S -/
abbrev Tch (C S : Nat) (w w' : World) : Prop := Touch (fun b => b = C ∨ b = S) w w'
theorem Tch.of_below {C S : Nat} {w w' : World} (h : Below w.heap.size w w') : Tch C S w w' := Touch.of_below h
def RetLook (C S : Nat) (c : CacheD) (n : Int) (k : Val) (sh ep : Int) (w : World) (e : Ending) (w' : World) : Prop :=
  e = .returned (.tuple #[((lookS c n k sh ep).getD .zero).agg, .bool (lookS c n k sh ep).isSome]) ∧ CacheIn w' C S (lookC c n k sh ep) ∧ Tch C S w w'

theorem look_nil (n : Int) (k : Val) (sh ep : Int) (w : World) : Calls Try.prog 9 #[.pointer none, .int .i64 n, k.agg, .int .i64 sh, .int .i64 ep] w fun e w' => e = .returned (.tuple #[Ent.zero.agg, .bool false]) ∧ Below w.heap.size w w' := by
  refine callsIn_wide.1 (callsIn_of_wp_marks (n := 9) Try.func9 rfl trivial ?_ rfl)
  refine wpIn_wide.2 ?_
  simp only [Try.ntmps9, List.size_toArray, List.length_cons, List.length_nil, Nat.reduceAdd, Nat.reduceSub, Array.replicate_succ, Array.replicate_zero, List.push_toArray, List.append_toArray, List.nil_append, List.cons_append]
  go_wp2_with (go_at_call 21; refine (site_nil _ _).mono ?_; rintro e w' ⟨rfl, rfl⟩)
  refine marks_ret0 (v := .tuple #[Ent.zero.agg, .bool false]) (by simp [results, Try.results9, go_sem]) rfl ⟨rfl, by (repeat (with_reducible first | exact Below.refl _ _ | (refine bl_set ?_ (by first | omega | (simp; done) | (simp; omega)) _) | refine bl_gr ?_ _ | refine bl_al ?_ _ | refine below_setRow ?_ (by first | omega | (simp; done) | (simp; omega)) _ | refine bl_drewN ?_ _ | refine Below.drew ?_ | (refine bl_tr ?_ (by assumption))))⟩

theorem fit_cases (x : Ent) (k : Val) (sh ep : Int) : (ofB x k sh = false ∧ fitB x k sh ep = false) ∨ (ofB x k sh = true ∧ (x.ho == 0) = true ∧ fitB x k sh ep = true) ∨ (ofB x k sh = true ∧ (x.ho == 0) = false ∧ (x.ep == ep) = true ∧ fitB x k sh ep = true) ∨ (ofB x k sh = true ∧ (x.ho == 0) = false ∧ (x.ep == ep) = false ∧ fitB x k sh ep = false) := by
  unfold fitB
  cases ofB x k sh <;> cases x.ho == 0 <;> cases x.ep == ep <;> simp

abbrev lkL (C S j : Nat) (k : Val) (sh ep : Int) : List (Array Value × TypeId) := [(#[.pointer (some ⟨C, 0, none⟩)], 28), (#[.int .i64 k.k, .int .i64 k.n, .string k.s], 23), (#[.int .i64 sh], 3), (#[.int .i64 ep], 3), (#[.int .i64 0, .int .i64 0, .string ⟨#[]⟩, .int .i64 0, .int .i64 0, .int .i64 0, .int .i64 0, .int .i64 0], 33), (#[.bool false], 4), (#[.pointer (some ⟨S, j * 34, none⟩)], 61)]

set_option maxRecDepth 100000 in
set_option maxHeartbeats 4000000 in
theorem look_any {C S : Nat} {c : CacheD} (n : Int) (k : Val) (sh ep : Int) (w : World) (h : CacheIn w C S c) (hh0 : 0 ≤ c.hits) (hh1 : c.hits < 1000000) (hm0 : 0 ≤ c.miss) (hm1 : c.miss < 1000000) :
    Calls Try.prog 9 #[.pointer (some ⟨C, 0, none⟩), .int .i64 n, k.agg, .int .i64 sh, .int .i64 ep] w (RetLook C S c n k sh ep w) := by
  refine callsIn_wide.1 (callsIn_of_wp_marks (n := 9) Try.func9 rfl trivial ?_ rfl)
  refine wpIn_wide.2 ?_
  simp only [Try.ntmps9, List.size_toArray, List.length_cons, List.length_nil, Nat.reduceAdd, Nat.reduceSub, Array.replicate_succ, Array.replicate_zero, List.push_toArray, List.append_toArray, List.nil_append, List.cons_append]
  have H := Lib.hid h
  cases hs : siteD c n
  case none =>
    have HS := Lib.hid hs
    clear hs h
    go_wp2_with (go_at_call 21; refine (site_out _ _ (H.out.below (by (repeat (with_reducible first | exact Below.refl _ _ | (refine bl_set ?_ (by first | omega | (simp; done) | (simp; omega)) _) | refine bl_gr ?_ _ | refine bl_al ?_ _ | refine below_setRow ?_ (by first | omega | (simp; done) | (simp; omega)) _ | refine bl_drewN ?_ _ | refine Below.drew ?_ | (refine bl_tr ?_ (by assumption)))))) HS.out).mono ?_; rintro e w' ⟨rfl, rfl⟩)
    refine marks_ret0 (v := .tuple #[Ent.zero.agg, .bool false]) (by simp [results, Try.results9, go_sem]) rfl ⟨?_, ?_, ?_⟩
    · simp [lookS, HS.out]
    · simp only [lookC, HS.out]
      exact H.out.below (by (repeat (with_reducible first | exact Below.refl _ _ | (refine bl_set ?_ (by first | omega | (simp; done) | (simp; omega)) _) | refine bl_gr ?_ _ | refine bl_al ?_ _ | refine below_setRow ?_ (by first | omega | (simp; done) | (simp; omega)) _ | refine bl_drewN ?_ _ | refine Below.drew ?_ | (refine bl_tr ?_ (by assumption)))))
    · exact Tch.of_below (by (repeat (with_reducible first | exact Below.refl _ _ | (refine bl_set ?_ (by first | omega | (simp; done) | (simp; omega)) _) | refine bl_gr ?_ _ | refine bl_al ?_ _ | refine below_setRow ?_ (by first | omega | (simp; done) | (simp; omega)) _ | refine bl_drewN ?_ _ | refine Below.drew ?_ | (refine bl_tr ?_ (by assumption)))))
  case some s =>
  obtain ⟨j, rfl, hj, hsj⟩ := siteD_some hs
  have HS := Lib.hid (And.intro hs hsj)
  clear hs hsj h
  go_wp2_with (first | (go_at_call 21; refine (site_in j _ (H.out.below (by (repeat (with_reducible first | exact Below.refl _ _ | (refine bl_set ?_ (by first | omega | (simp; done) | (simp; omega)) _) | refine bl_gr ?_ _ | refine bl_al ?_ _ | refine below_setRow ?_ (by first | omega | (simp; done) | (simp; omega)) _ | refine bl_drewN ?_ _ | refine Below.drew ?_ | (refine bl_tr ?_ (by assumption)))))) hj).mono ?_; rintro e w' ⟨rfl, rfl⟩) | (go_at_call 22; refine (all_any _ _).mono ?_; rintro e w1 ⟨rfl, hw1⟩; have W1 := Lib.hid hw1; clear hw1))
  have LL : w1.heap.size = w.heap.size + 7 ∧ Below w.heap.size w w1 ∧ Lays w.heap.size (lkL C S j k sh ep) w1 := by
    rw [W1.out]
    exact laysN w (lkL C S j k sh ep)
  obtain ⟨hsz, hB0, hL⟩ := LL
  have hs1 := Nat.le_of_eq hsz
  have hs2 := Nat.le_of_eq hsz.symm
  have HC1 := Lib.hid (H.out.below hB0)
  have lC := H.out.ltC
  have lS := H.out.ltS
  clear W1 hsz
  have hb6 := hL 6 _ rfl
  refine (wpIn_wide (n := 9)).1 ?_
  refine wpIn_rangeFunc_ownH rfl (by omega) (gf := 30) (lb := #[.pointer (some ⟨w.heap.size + 1 + 1 + 1 + 1 + 1 + 1, 0, none⟩)]) rfl trivial (enters_of Try.func30 (by kernel_rfl) rfl)
    (all_stops j s HS.out.2 w1 HC1.out _ hb6) belowK_t (belowK_b (Nat.le_refl _)) (Below.refl _ _) (fun _ => rfl)
    (fun pre W => (∀ x ∈ pre, fitB s.l[x.val] k sh ep = false) ∧ Lays w.heap.size (lkL C S j k sh ep) W ∧ CacheIn W C S c ∧ Below w.heap.size w W ∧ w1.heap.size ≤ W.heap.size)
    (fun cd pre W => cd = .ret ∧ (∃ (p : List (Fin s.l.length)) (x : Fin s.l.length), pre = p ++ [x] ∧ (∀ y ∈ p, fitB s.l[y.val] k sh ep = false) ∧ fitB s.l[x.val] k sh ep = true ∧ W.heap[w.heap.size + 1 + 1 + 1 + 1]? = some (entO s.l[x.val] 33)) ∧ W.heap[w.heap.size + 1 + 1 + 1 + 1 + 1]? = some (.cells #[.bool true] 4) ∧ CacheIn W C S { c with hits := c.hits + 1 } ∧ Tch C S w W)
    (ownFrom_of fun p W W' ⟨ha, hh, hr, hB, hz⟩ hs => ⟨ha, hh.soft hs, hr.soft hs, hs.below (by omega) hB (Nat.le_refl _), Nat.le_trans hz hs.size⟩)
    (fun cd => ownFrom_of fun pp W W' ⟨ha, ⟨p, x, e1, e2, e3, e4⟩, hr, hB, hz⟩ hs => ⟨ha, ⟨p, x, e1, e2, e3, hs.heap e4⟩, hs.heap hr, hB.soft hs, hz.soft hs (by omega)⟩)
    ⟨by simp, hL, HC1.out, hB0, Nat.le_refl _⟩
    (fun x a' W => ∃ Bx e, w1.heap.size ≤ Bx ∧ e = s.l[x.val] ∧ W.heap[Bx]? = some (entO e 33) ∧
      a' = { tmps := #[.pointer (some ⟨C, 0, none⟩), .int .i64 j, k.agg, .int .i64 sh, .int .i64 ep, .pointer (some ⟨w.heap.size, 0, none⟩), undef, .pointer (some ⟨w.heap.size + 1, 0, none⟩), .pointer (some ⟨w.heap.size + 1 + 1, 0, none⟩), .pointer (some ⟨w.heap.size + 1 + 1 + 1, 0, none⟩), .pointer (some ⟨w.heap.size + 1 + 1 + 1 + 1, 0, none⟩), .pointer (some ⟨w.heap.size + 1 + 1 + 1 + 1 + 1, 0, none⟩), .pointer (some ⟨S, j * 34, none⟩), undef, .pointer (some ⟨Bx, 0, none⟩), .pointer (some ⟨C, 0, none⟩), .int .i64 j, .pointer (some ⟨S, j * 34, none⟩), .pointer (some ⟨S, j * 34, none⟩), .bool false, undef, .pointer (some ⟨S, j * 34, none⟩), .func (.func 30) #[] #[.pointer (some ⟨w.heap.size + 1 + 1 + 1 + 1 + 1 + 1, 0, none⟩)], .int .i64 x.val, e.agg, undef, undef, undef, undef, undef, undef, undef, undef, undef, undef, undef, undef, undef, undef, undef, undef, undef, undef, undef, undef, undef, undef, undef, undef, undef, undef, undef, undef, undef, undef, undef], defers := [] })
    (fun x a' => ownFrom_of fun _ W W' ⟨Bx, e, h1, h2, h3, h4⟩ hs => ⟨Bx, e, h1, h2, hs.heap h3, h4⟩) ?assign ?body ?done ?stop
  case assign =>
    rintro l pre x W K ⟨ha, hh, hr, hB, hz⟩ hK
    gi_wp2
    have hb := (Below.refl W.heap.size W).alloc (Nat.le_refl _) (entO s.l[x.val] 33)
    refine hK _ _ ((KeepsOthers.alloc _ _).from _) (hb.mono hz) ⟨ha, hh.below hb, hr.below hb, hB.alloc hB.size _, by simp; omega⟩ ⟨W.heap.size, _, hz, rfl, heap_alloc_new _ _, rfl⟩
  case body =>
    rintro l pre x a' W hl hr ⟨ha, hh, hc, hB, hz⟩ ⟨Bx, e, hBx, he, hx, rfl⟩ hlt
    obtain ⟨⟨x0, x1, x2, x3, x4, x5, x6, x7⟩, _⟩ := cells8 hx
    obtain ⟨z0, z1, z2, z3, z4, z5, _⟩ := lays7 hh
    obtain ⟨y0, _⟩ := cells1 z0
    obtain ⟨k0, k1, k2⟩ := cells3 z1
    obtain ⟨s0, _⟩ := cells1 z2
    obtain ⟨p0, _⟩ := cells1 z3
    obtain ⟨⟨r0, r1, r2, r3, r4, r5, r6, r7⟩, q0, q1, q2, q3, q4, q5, q6, q7⟩ := cells8 (e := .zero) (T := 33) z4
    obtain ⟨b0, b1⟩ := cells1 z5
    obtain ⟨_, _, c2, _, c4, _⟩ := hc.cells
    have lx := (Array.getElem?_eq_some_iff.1 hx).1
    have nx : Bx ≠ C := by omega
    have lW0 : w.heap.size < W.heap.size := by omega
    have lW1 : w.heap.size + 1 < W.heap.size := by omega
    have lW2 : w.heap.size + 1 + 1 < W.heap.size := by omega
    have lW3 : w.heap.size + 1 + 1 + 1 < W.heap.size := by omega
    have lW4 : w.heap.size + 1 + 1 + 1 + 1 < W.heap.size := by omega
    have lW5 : w.heap.size + 1 + 1 + 1 + 1 + 1 < W.heap.size := by omega
    have lWC : C < W.heap.size := by omega
    have n4 : w.heap.size + 1 + 1 + 1 + 1 ≠ C := by omega
    have n5 : w.heap.size + 1 + 1 + 1 + 1 + 1 ≠ C := by omega
    have INV := Lib.hid (And.intro ha (And.intro hh (And.intro hc (And.intro hB hz))))
    have FC := fit_cases e k sh ep
    have HX := Lib.hid (And.intro he hx)
    clear ha hh hc hB hx he hl hr z0 z1 z2 z3 z4 z5
    rcases FC with ⟨f1, f4⟩ | ⟨f1, f2, f4⟩ | ⟨f1, f2, f3, f4⟩ | ⟨f1, f2, f3, f4⟩
    all_goals
      have OF := Lib.hid (fun W1 => by have := of_any e k sh W1; rw [f1] at this; exact this : ∀ W1, Calls Try.prog 23 #[e.agg, k.agg, .int .i64 sh] W1 fun e w' => e = .returned (.bool _) ∧ Below W1.heap.size W1 w')
      have F4 := Lib.hid f4
      clear f1 f4
    · gi_wp2_with (first | (refine ⟨trivial, ?_⟩; gi_at_call 23; refine (calls_wide l (callGr (OF.out _))).mono ?_; rintro e' w' ⟨pp, rfl, rfl⟩) | (refine ⟨trivial, ?_⟩))
      exact ⟨keeps_gr _ _ _, (below_gr W pp).mono INV.out.2.2.2.2, fun y hy => (by
        rcases List.mem_append.1 hy with hy | hy
        · exact INV.out.1 y hy
        · simp at hy
          subst hy
          rw [← HX.out.1]
          exact F4.out), INV.out.2.1.below (below_gr W pp), INV.out.2.2.1.below (below_gr W pp), bl_gr' INV.out.2.2.2.1 _, by rw [gr_size]; omega⟩
    · gi_wp2_with (first | (refine ⟨trivial, ?_⟩; gi_at_call 23; refine (calls_wide l (callGr (OF.out _))).mono ?_; rintro e' w' ⟨pp, rfl, rfl⟩) | (refine ⟨trivial, ?_⟩))
      have X := look_writes (f := 2) (b4 := w.heap.size + 1 + 1 + 1 + 1) (b5 := w.heap.size + 1 + 1 + 1 + 1 + 1) (e0 := .zero) (b := false) (e := e) (b' := true) (x := c.hits + 1) (.inl rfl) INV.out.2.2.1 (lays7 INV.out.2.1).2.2.2.2.1 (lays7 INV.out.2.1).2.2.2.2.2.1 (by omega) (by omega) (by omega) (by omega) (by omega)
      have T := X.1.gr pp
      have B := below_gr ((put8 (W.setCell ⟨C, 2, none⟩ (.int .i64 (c.hits + 1))) (w.heap.size + 1 + 1 + 1 + 1) 0 e).setCell ⟨w.heap.size + 1 + 1 + 1 + 1 + 1, 0, none⟩ (.bool true)) pp
      refine ⟨keeps_touch T (fun k hk => ?_), rfl, ⟨pre, x, rfl, INV.out.1, by rw [← HX.out.1]; exact F4.out, by rw [← HX.out.1]; exact (B.block _ (Array.getElem?_eq_some_iff.1 X.2.1).1).trans X.2.1⟩, (B.block _ (Array.getElem?_eq_some_iff.1 X.2.2.1).1).trans X.2.2.1, X.2.2.2.below B, (Tch.of_below INV.out.2.2.2.1).trans T (fun i hi h => ?_)⟩
      · rcases hk with rfl | rfl | rfl
        · exact ⟨_, _, INV.out.2.2.1.head⟩
        · exact ⟨_, _, (lays7 INV.out.2.1).2.2.2.2.1⟩
        · exact ⟨_, _, (lays7 INV.out.2.1).2.2.2.2.2.1⟩
      · rcases h with h | h | h
        · exact .inl h
        · omega
        · omega
    · gi_wp2_with (first | (refine ⟨trivial, ?_⟩; gi_at_call 23; refine (calls_wide l (callGr (OF.out _))).mono ?_; rintro e' w' ⟨pp, rfl, rfl⟩) | (refine ⟨trivial, ?_⟩))
      have X := look_writes (f := 2) (b4 := w.heap.size + 1 + 1 + 1 + 1) (b5 := w.heap.size + 1 + 1 + 1 + 1 + 1) (e0 := .zero) (b := false) (e := e) (b' := true) (x := c.hits + 1) (.inl rfl) INV.out.2.2.1 (lays7 INV.out.2.1).2.2.2.2.1 (lays7 INV.out.2.1).2.2.2.2.2.1 (by omega) (by omega) (by omega) (by omega) (by omega)
      have T := X.1.gr pp
      have B := below_gr ((put8 (W.setCell ⟨C, 2, none⟩ (.int .i64 (c.hits + 1))) (w.heap.size + 1 + 1 + 1 + 1) 0 e).setCell ⟨w.heap.size + 1 + 1 + 1 + 1 + 1, 0, none⟩ (.bool true)) pp
      refine ⟨keeps_touch T (fun k hk => ?_), rfl, ⟨pre, x, rfl, INV.out.1, by rw [← HX.out.1]; exact F4.out, by rw [← HX.out.1]; exact (B.block _ (Array.getElem?_eq_some_iff.1 X.2.1).1).trans X.2.1⟩, (B.block _ (Array.getElem?_eq_some_iff.1 X.2.2.1).1).trans X.2.2.1, X.2.2.2.below B, (Tch.of_below INV.out.2.2.2.1).trans T (fun i hi h => ?_)⟩
      · rcases hk with rfl | rfl | rfl
        · exact ⟨_, _, INV.out.2.2.1.head⟩
        · exact ⟨_, _, (lays7 INV.out.2.1).2.2.2.2.1⟩
        · exact ⟨_, _, (lays7 INV.out.2.1).2.2.2.2.2.1⟩
      · rcases h with h | h | h
        · exact .inl h
        · omega
        · omega
    · gi_wp2_with (first | (refine ⟨trivial, ?_⟩; gi_at_call 23; refine (calls_wide l (callGr (OF.out _))).mono ?_; rintro e' w' ⟨pp, rfl, rfl⟩) | (refine ⟨trivial, ?_⟩))
      exact ⟨keeps_gr _ _ _, (below_gr W pp).mono INV.out.2.2.2.2, fun y hy => (by
        rcases List.mem_append.1 hy with hy | hy
        · exact INV.out.1 y hy
        · simp at hy
          subst hy
          rw [← HX.out.1]
          exact F4.out), INV.out.2.1.below (below_gr W pp), INV.out.2.2.1.below (below_gr W pp), bl_gr' INV.out.2.2.2.1 _, by rw [gr_size]; omega⟩
  case done =>
    rintro D ys W hD rfl ⟨ha, hh, hc, hB, hz⟩ hK
    obtain ⟨z0, z1, z2, z3, z4, z5, _⟩ := lays7 hh
    obtain ⟨y0, _⟩ := cells1 z0
    obtain ⟨⟨r0, r1, r2, r3, r4, r5, r6, r7⟩, q0, q1, q2, q3, q4, q5, q6, q7⟩ := cells8 (e := .zero) (T := 33) z4
    obtain ⟨b0, b1⟩ := cells1 z5
    obtain ⟨_, _, _, c3, _, c5⟩ := hc.cells
    have X := Lib.hid (look_writes (f := 3) (b4 := w.heap.size + 1 + 1 + 1 + 1) (b5 := w.heap.size + 1 + 1 + 1 + 1 + 1) (e0 := .zero) (b := false) (e := .zero) (b' := false) (x := c.miss + 1) (.inr rfl) hc z4 z5 (by omega) (by omega) (by omega) (by omega) (by omega))
    have HD := Lib.hid (And.intro hD (And.intro hK hc))
    have HB := Lib.hid hB
    have FN := Lib.hid (find_none (q := fun y => fitB y k sh ep) ha).1
    have nC4 : w.heap.size + 1 + 1 + 1 + 1 ≠ C := by omega
    have nC5 : w.heap.size + 1 + 1 + 1 + 1 + 1 ≠ C := by omega
    clear ha hh hc hB hD hK z1 z2 z3
    have Z := Lib.hid (And.intro z4 z5)
    clear z0 z4 z5
    go_wp2
    have T := X.out.1
    have hK2 := (T.block D (Array.getElem?_eq_some_iff.1 HD.out.2.1).1 (fun h => ?_)).trans HD.out.2.1
    have h4 := (heap_put (.deferred none) (show w.heap.size + 1 + 1 + 1 + 1 ≠ D by have := HD.out.1; omega)).trans X.out.2.1
    have h5 := (heap_put (.deferred none) (show w.heap.size + 1 + 1 + 1 + 1 + 1 ≠ D by have := HD.out.1; omega)).trans X.out.2.2.1
    obtain ⟨⟨r0, r1, r2, r3, r4, r5, r6, r7⟩, _⟩ := cells8 (e := .zero) (T := 33) h4
    obtain ⟨u0, _⟩ := cells1 h5
    refine marks_ret1 (v := .tuple #[Ent.zero.agg, .bool false]) hK2 ?_ rfl ⟨?_, ?_, ?_⟩
    · simp [results, Try.results9, go_sem, r0, r1, r2, r3, r4, r5, r6, r7, u0]
    · simp [lookS, HS.out.1, FN.out]
    · have hc := X.out.2.2.2
      simp only [lookC, HS.out.1, FN.out]
      exact hc.same (heap_put _ (by have := HD.out.1; omega)) (heap_put _ (by have := HD.out.1; omega))
    · exact ((Tch.of_below HB.out).trans T (fun i hi h => by rcases h with h | h | h; exact .inl h; omega; omega)).trans (Touch.put _ D _) (fun i hi h => by have := HD.out.1; omega)
    · rcases h with rfl | rfl | rfl
      · have := HD.out.1; omega
      · have := HD.out.1; omega
      · have := HD.out.1; omega
  case stop =>
    rintro D cd pre W hD hpre ⟨rfl, ⟨p, x, rfl, hp, hx, z4⟩, z5, hc, ht⟩ hK
    have HD := Lib.hid (And.intro hD (And.intro hK (And.intro hc ht)))
    have FS := Lib.hid (find_some (q := fun y => fitB y k sh ep) hpre hp hx).1
    have Z := Lib.hid (And.intro z4 z5)
    clear hp hx hc ht hD hK z4 z5
    gi_wp2
    have h4 := (heap_put (.deferred none) (show w.heap.size + 1 + 1 + 1 + 1 ≠ D by have := HD.out.1; omega)).trans Z.out.1
    have h5 := (heap_put (.deferred none) (show w.heap.size + 1 + 1 + 1 + 1 + 1 ≠ D by have := HD.out.1; omega)).trans Z.out.2
    obtain ⟨⟨r0, r1, r2, r3, r4, r5, r6, r7⟩, _⟩ := cells8 h4
    obtain ⟨u0, _⟩ := cells1 h5
    refine marks_ret1 (v := .tuple #[(s.l[x.val]).agg, .bool true]) HD.out.2.1 ?_ rfl ⟨?_, ?_, ?_⟩
    · simp [results, Try.results9, go_sem, r0, r1, r2, r3, r4, r5, r6, r7, u0]
    · simp [lookS, HS.out.1, FS.out]
    · simp only [lookC, HS.out.1, FS.out]
      exact HD.out.2.2.1.same (heap_put _ (by have := HD.out.1; omega)) (heap_put _ (by have := HD.out.1; omega))
    · exact HD.out.2.2.2.trans (Touch.put _ D _) (fun i hi h => by have := HD.out.1; omega)
end Go.Proofs.Ytbgcjgnhblhohaa
