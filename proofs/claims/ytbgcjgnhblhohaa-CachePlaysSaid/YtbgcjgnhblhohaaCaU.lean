/- Inline caches: the reference's Note. -/
import Derived.Test.YtbgcjgnhblhohaaCaT
namespace Go.Proofs.Ytbgcjgnhblhohaa
set_option linter.all false
open Go.RowKit Go.Sort Go.Deep Go.Shelf

theorem lays3 {n : Nat} {W : World} {a b c : Array Value × TypeId} (h : Lays n [a, b, c] W) : W.heap[n]? = some (.cells a.1 a.2) ∧ W.heap[n + 1]? = some (.cells b.1 b.2) ∧ W.heap[n + 1 + 1]? = some (.cells c.1 c.2) := ⟨h 0 a rfl, h 1 b rfl, h 2 c rfl⟩
theorem flat_set8 {l : List Ent} {j : Nat} (e : Ent) (hj : j < l.length) : flat Ent.cs (l.set j e) = ((((((((flat Ent.cs l).set (j * 8) (.int .i64 e.k.k)).set (j * 8 + 1) (.int .i64 e.k.n)).set (j * 8 + 2) (.string e.k.s)).set (j * 8 + 3) (.int .i64 e.sh)).set (j * 8 + 4) (.int .i64 e.ep)).set (j * 8 + 5) (.int .i64 e.ho)).set (j * 8 + 6) (.int .i64 e.sl)).set (j * 8 + 7) (.int .i64 e.fo) := by
  induction l generalizing j with
  | nil => simp at hj
  | cons a l ih =>
    cases j with
    | zero => simp [flat]
    | succ j =>
      have := ih (j := j) (by simpa using hj)
      simp only [flat, List.flatMap_cons, List.set_cons_succ] at this ⊢
      rw [this, show (j + 1) * 8 = j * 8 + 8 by omega]
      rfl
theorem owns_put8 {w : World} {lo n cap g : Nat} {T : TypeId} {l : List Ent} {j : Nat} (e : Ent) (h : w.ownsRow lo T 8 (.slice (some ⟨g, 0, none⟩) n cap) n (flat Ent.cs l)) (hj : j < l.length) (hn : l.length = n) : (put8 w g (j * 8) e).ownsRow lo T 8 (.slice (some ⟨g, 0, none⟩) n cap) n (flat Ent.cs (l.set j e)) := by
  rw [flat_set8 e hj]
  have h1 := ownsRow_set h (g := g) (j := j * 8) rfl (by omega) (.int .i64 e.k.k)
  have h2 := ownsRow_set h1 (g := g) (j := j * 8 + 1) rfl (by omega) (.int .i64 e.k.n)
  have h3 := ownsRow_set h2 (g := g) (j := j * 8 + 2) rfl (by omega) (.string e.k.s)
  have h4 := ownsRow_set h3 (g := g) (j := j * 8 + 3) rfl (by omega) (.int .i64 e.sh)
  have h5 := ownsRow_set h4 (g := g) (j := j * 8 + 4) rfl (by omega) (.int .i64 e.ep)
  have h6 := ownsRow_set h5 (g := g) (j := j * 8 + 5) rfl (by omega) (.int .i64 e.ho)
  have h7 := ownsRow_set h6 (g := g) (j := j * 8 + 6) rfl (by omega) (.int .i64 e.sl)
  exact ownsRow_set h7 (g := g) (j := j * 8 + 7) rfl (by omega) (.int .i64 e.fo)
/-- the list's copy has the entry in its place -/
def RnM (w : World) (b0 b2 lo g n5 : Nat) (c : CacheD) (sv : Value) (l : List Ent) (Z : World) : Prop := Z.heap[b0]? = some (refO c.most sv c.hits c.miss) ∧ Z.heap[b2]? = some (refO 0 (.slice none 0 0) 0 0) ∧ Z.ownsRow lo 25 8 (.slice (some ⟨g, 0, none⟩) l.length n5) l.length (flat Ent.cs l) ∧ Below w.heap.size w Z
theorem RnM.drew {w : World} {b0 b2 lo g n5 : Nat} {c : CacheD} {sv : Value} {l : List Ent} {Z : World} (h : RnM w b0 b2 lo g n5 c sv l Z) : RnM w b0 b2 lo g n5 c sv l Z.drew := by
  obtain ⟨h1, h2, h3, h4⟩ := h
  exact ⟨h1, h2, h3.drew, h4.drew⟩
theorem rnM_put {w wr : World} {b0 b2 lo g n5 q : Nat} {c : CacheD} {sv : Value} {l : List Ent} {x : Ent} (h : RnM w b0 b2 lo g n5 c sv l wr) (hq : q < l.length) (hlo : w.heap.size ≤ lo) (n0 : b0 < lo) (n2 : b2 < lo) : RnM w b0 b2 lo g n5 c sv (l.set q x) (put8 wr g (q * 8) x) := by
  obtain ⟨h1, h2, h3, h4⟩ := h
  have hg := (h3.lt g rfl).1
  have T := put8_touch wr g (q * 8) x
  have O := owns_put8 x h3 hq rfl
  refine ⟨(T.block _ (Array.getElem?_eq_some_iff.1 h1).1 (by omega)).trans h1, (T.block _ (Array.getElem?_eq_some_iff.1 h2).1 (by omega)).trans h2, ?_, h4.trans (T.below h4.size (by omega))⟩
  rw [List.length_set]
  exact O
theorem sl_one {w : World} {b : Nat} {x : Ent} {T : TypeId} (h : w.heap[b]? = some (entO x T)) : SlOf w 8 Ent.cs (.slice (some ⟨b, 0, none⟩) 1 1) [x] := by
  refine ⟨by unfold maxLen; simp, _, 1, rfl, Nat.le_refl _, fun _ => ⟨b, 0, rfl, (Array.getElem?_eq_some_iff.1 h).1, fun i y hi j u hj => ?_⟩⟩
  cases i with
  | zero =>
    simp at hi
    subst hi
    rw [cell_of_row w b _ _ _ _ h]
    simpa using hj
  | succ i => simp at hi
def RetRNote (c : CacheD) (n : Int) (x : Ent) (w : World) (e : Ending) (w' : World) : Prop :=
  ∃ sv, e = .returned (.tuple #[refV c.most sv c.hits c.miss, .bool (noteC c n x).2]) ∧ IsR w' sv (noteC c n x).1.sites ∧ Below w.heap.size w w'

set_option maxRecDepth 100000 in
set_option maxHeartbeats 8000000 in
theorem rnote_shut (c : CacheD) (sv : Value) (n : Int) (x : Ent) (hsh : siteD c n = none ∨ ∃ s, siteD c n = some s ∧ (c.most = 0 ∨ c.most ≠ 0 ∧ s.many = true)) (w : World) (hR : IsR w sv c.sites) :
    Calls Try.prog 25 #[refV c.most sv c.hits c.miss, .int .i64 n, x.agg] w (RetRNote c n x w) := by
  obtain ⟨A, cap, rfl, _, _⟩ := hR.form
  have H := Lib.hid hR
  rcases hsh with hs | ⟨s, hs, hm | ⟨hm0, hm⟩⟩
  · have E := Lib.hid (note_none (x := x) hs)
    have HA := Lib.hid (fun W => hasC (W := w) hR false (by rw [hs]; rfl) c.most c.hits c.miss W)
    clear hs hR
    go_enter Try.func25, Try.ntmps25
    go_wp2_with (go_at_call 31; refine (callGr (HA.out _)).mono ?_; rintro e w' ⟨pp, rfl, rfl⟩)
    refine bodyPost_ret (v := .tuple #[refV c.most (.slice A c.sites.length cap) c.hits c.miss, .bool false]) (by simp [results, Try.results25, go_sem]) rfl ⟨_, by rw [E.out], by rw [E.out]; exact H.out.below (by (repeat (with_reducible first | exact Below.refl _ _ | (refine bl_set ?_ (by first | omega | (simp; done) | (simp; omega)) _) | refine bl_gr ?_ _ | refine bl_al ?_ _ | refine below_setRow ?_ (by first | omega | (simp; done) | (simp; omega)) _ | refine bl_drewN ?_ _ | refine Below.drew ?_ | (refine bl_tr ?_ (by assumption))))), by (repeat (with_reducible first | exact Below.refl _ _ | (refine bl_set ?_ (by first | omega | (simp; done) | (simp; omega)) _) | refine bl_gr ?_ _ | refine bl_al ?_ _ | refine below_setRow ?_ (by first | omega | (simp; done) | (simp; omega)) _ | refine bl_drewN ?_ _ | refine Below.drew ?_ | (refine bl_tr ?_ (by assumption))))⟩
  · have E := Lib.hid (note_shut (x := x) hs (.inl hm))
    have HA := Lib.hid (fun W => hasC (W := w) hR true (by rw [hs]; rfl) c.most c.hits c.miss W)
    have hb : ((c.most : Int) == 0) = true := by rw [hm]; rfl
    clear hs hR hm
    go_enter Try.func25, Try.ntmps25
    go_wp2_with (go_at_call 31; refine (callGr (HA.out _)).mono ?_; rintro e w' ⟨pp, rfl, rfl⟩)
    refine bodyPost_ret (v := .tuple #[refV c.most (.slice A c.sites.length cap) c.hits c.miss, .bool false]) (by simp [results, Try.results25, go_sem]) rfl ⟨_, by rw [E.out], by rw [E.out]; exact H.out.below (by (repeat (with_reducible first | exact Below.refl _ _ | (refine bl_set ?_ (by first | omega | (simp; done) | (simp; omega)) _) | refine bl_gr ?_ _ | refine bl_al ?_ _ | refine below_setRow ?_ (by first | omega | (simp; done) | (simp; omega)) _ | refine bl_drewN ?_ _ | refine Below.drew ?_ | (refine bl_tr ?_ (by assumption))))), by (repeat (with_reducible first | exact Below.refl _ _ | (refine bl_set ?_ (by first | omega | (simp; done) | (simp; omega)) _) | refine bl_gr ?_ _ | refine bl_al ?_ _ | refine below_setRow ?_ (by first | omega | (simp; done) | (simp; omega)) _ | refine bl_drewN ?_ _ | refine Below.drew ?_ | (refine bl_tr ?_ (by assumption))))⟩
  · obtain ⟨j, rfl, hj, hsj⟩ := siteD_some hs
    have E := Lib.hid (note_shut (x := x) hs (.inr hm))
    have HA := Lib.hid (fun W => hasC (W := w) hR true (by rw [hs]; rfl) c.most c.hits c.miss W)
    obtain ⟨b, off, cap', A2, n2, e, hb, c0, c1, hE⟩ := hR.at_ hsj
    simp only [Value.slice.injEq, true_and] at e
    obtain ⟨rfl, rfl⟩ := e
    rw [hm] at c0
    have hb2 : ((c.most : Int) == 0) = false := beq_eq_false_iff_ne.2 (by omega)
    have j0 : ¬ (j : Int) < 0 := by omega
    have j1 : (j : Int) < c.sites.length := by omega
    have lb : ∀ n, b < w.heap.size + n := fun n => by omega
    clear hs hR hsj hE c1 hm hm0
    go_enter Try.func25, Try.ntmps25
    go_wp2_with (go_at_call 31; refine (callGr (HA.out _)).mono ?_; rintro e w' ⟨pp, rfl, rfl⟩)
    refine bodyPost_ret (v := .tuple #[refV c.most (.slice (some ⟨b, off, none⟩) c.sites.length cap) c.hits c.miss, .bool false]) (by simp [results, Try.results25, go_sem]) rfl ⟨_, by rw [E.out], by rw [E.out]; exact H.out.below (by (repeat (with_reducible first | exact Below.refl _ _ | (refine bl_set ?_ (by first | omega | (simp; done) | (simp; omega)) _) | refine bl_gr ?_ _ | refine bl_al ?_ _ | refine below_setRow ?_ (by first | omega | (simp; done) | (simp; omega)) _ | refine bl_drewN ?_ _ | refine Below.drew ?_ | (refine bl_tr ?_ (by assumption))))), by (repeat (with_reducible first | exact Below.refl _ _ | (refine bl_set ?_ (by first | omega | (simp; done) | (simp; omega)) _) | refine bl_gr ?_ _ | refine bl_al ?_ _ | refine below_setRow ?_ (by first | omega | (simp; done) | (simp; omega)) _ | refine bl_drewN ?_ _ | refine Below.drew ?_ | (refine bl_tr ?_ (by assumption))))⟩

set_option maxRecDepth 100000 in
set_option maxHeartbeats 16000000 in
theorem rnote_open (c : CacheD) (sv : Value) (n : Int) (x : Ent) (st : SiteD) (hs : siteD c n = some st) (hm0 : c.most ≠ 0) (hm : st.many = false) (h4 : st.l.length ≤ 4) (hl : c.sites.length ≤ 1000) (w : World) (hR : IsR w sv c.sites) :
    Calls Try.prog 25 #[refV c.most sv c.hits c.miss, .int .i64 n, x.agg] w (RetRNote c n x w) := by
  obtain ⟨A, cap, rfl, _, _⟩ := hR.form
  have H := Lib.hid hR
  obtain ⟨j, rfl, hj, hsj⟩ := siteD_some hs
  obtain ⟨b, off, cap', A2, n2, e, hb, c0, c1, hE⟩ := hR.at_ hsj
  simp only [Value.slice.injEq, true_and] at e
  obtain ⟨rfl, rfl⟩ := e
  have HA := Lib.hid (fun W => hasC (W := w) hR true (by rw [hs]; rfl) c.most c.hits c.miss W)
  have HE := Lib.hid (And.intro hE (And.intro c1 hb))
  have HS := Lib.hid (And.intro hs (And.intro hm0 hm))
  rw [hm] at c0
  have hb2 : ((c.most : Int) == 0) = false := beq_eq_false_iff_ne.2 (by omega)
  have j0 : ¬ (j : Int) < 0 := by omega
  have j1 : (j : Int) < c.sites.length := by omega
  have lb : ∀ n, b < w.heap.size + n := fun n => by omega
  clear hs hR hsj hE c1 hm hm0
  go_enter Try.func25, Try.ntmps25
  go_upto_region 3 with (go_at_call 31; refine (callGr (HA.out _)).mono ?_; rintro e w' ⟨pp, rfl, rfl⟩)
  refine wp_world (fun W => Lays w.heap.size [(#[.int .i64 c.most, .slice (some ⟨b, off, none⟩) c.sites.length cap, .int .i64 c.hits, .int .i64 c.miss], 50), (entA x, 25), (#[.int .i64 0, .slice none 0 0, .int .i64 0, .int .i64 0], 50)] W ∧ Below w.heap.size w W) (by
    have h := laysN w [(#[.int .i64 c.most, .slice (some ⟨b, off, none⟩) c.sites.length cap, .int .i64 c.hits, .int .i64 c.miss], 50), (entA x, 25), (#[.int .i64 0, .slice none 0 0, .int .i64 0, .int .i64 0], 50)]
    exact ⟨h.2.2.below (below_gr _ _), bl_tr h.2.1 (below_gr _ _)⟩) ?_
  rintro W ⟨hh, jb⟩
  obtain ⟨z0, z1, z2⟩ := lays3 hh
  have J := Lib.hid (And.intro hh jb)
  have l2 : w.heap.size + 1 + 1 < W.heap.size := (Array.getElem?_eq_some_iff.1 z2).1
  have l1 : w.heap.size + 1 < W.heap.size := by omega
  have l0 : w.heap.size < W.heap.size := by omega
  obtain ⟨⟨a0, a1, a2, a3⟩, _⟩ := cells4 z0
  have c1 : W.cell? ⟨b, off + j * 2 + 1, none⟩ = some (.slice A2 st.l.length n2) := (jb.cell (p := ⟨b, _, none⟩) HE.out.2.2).trans HE.out.2.1
  have lbW : b < W.heap.size := Nat.lt_of_lt_of_le HE.out.2.2 jb.size
  clear z0 z1 z2 hh jb c0 lb
  go_upto_region 4 with (at_builtin; refine wpList_appG elem_ent rfl _ _ rfl W.heap.size [] st.l (yv := .slice (some ⟨W.heap.size, 0, none⟩) 0 0) (sv := .slice A2 st.l.length n2) rfl rfl (own_empty (heap_alloc_new _ _) (Nat.le_refl _)) (by simp) ((HE.out.1.below J.out.2).below (bl_al (Below.refl _ _) _)) (by simp; omega) (by simp; omega) ?_; intro A5 n5 w3 o3 g3; have O3 := Lib.hid (And.intro o3 (show Below W.heap.size W w3 from app_2 rfl g3)); clear o3 g3)
  have ho := O3.out.1
  simp only [List.nil_append] at ho
  have B3 := O3.out.2
  have OO := Lib.hid (show ∀ Z, Below w3.heap.size w3 Z → Lays w.heap.size [(#[.int .i64 c.most, .slice (some ⟨b, off, none⟩) c.sites.length cap, .int .i64 c.hits, .int .i64 c.miss], 50), (entA x, 25), (#[.int .i64 0, .slice none 0 0, .int .i64 0, .int .i64 0], 50)] Z ∧ Z.ownsRow W.heap.size 25 8 (.slice A5 st.l.length n5) st.l.length (flat Ent.cs st.l) ∧ Below w.heap.size w Z ∧ W.heap.size ≤ Z.heap.size from fun Z hZ => ⟨(J.out.1.below B3).below hZ, ownsRow_below ho hZ, bl_tr (bl_tr J.out.2 B3) hZ, Nat.le_trans B3.size hZ.size⟩)
  have WI := Lib.hid (fun W lv bb L hW hL => with_any c.most c.hits c.miss (.slice (some ⟨b, off, none⟩) c.sites.length cap) lv c.sites j bb L hj hl W hW hL)
  clear ho B3 a0 a1 a2 a3 c1
  go_wp2
  go_loopw [9] (fun i wr => ∃ q : Nat, q ≤ st.l.length ∧ i = .int .i64 q ∧ Hid (∀ p y, p < q → st.l[p]? = some y → ofB y x.k x.sh = false) ∧ Below w3.heap.size w3 wr) (fun i _ => st.l.length - (intOf i).toNat)
  case atStart => exact ⟨0, by omega, rfl, Lib.hid (fun p y hp _ => by omega), Below.refl _ _⟩
  case round =>
    obtain ⟨q, hq, rfl, HQ, hB⟩ := hrel
    have HB := Lib.hid hB
    obtain ⟨hy, ho, hw, hsz⟩ := OO.out wr hB
    obtain ⟨z0, z1, z2⟩ := lays3 hy
    have RR := Lib.hid (And.intro z0 (And.intro z1 (And.intro z2 (And.intro ho hw))))
    clear hB hy
    by_cases hlt : q < st.l.length
    · have q0 : ¬ (q : Int) < 0 := by omega
      have q1 : (q : Int) < st.l.length := by omega
      obtain ⟨g, rfl⟩ : ∃ g, A5 = some ⟨g, 0, none⟩ := by
        rcases ho.2 with ⟨h0, h1⟩ | ⟨g, cap, cur, e, _⟩
        · omega
        · simp only [Value.slice.injEq] at e
          exact ⟨g, e.1⟩
      obtain ⟨g0, g1, gf, gc⟩ := owns_at ho
      obtain ⟨b5, o5, cap5, e5, _, hb5, hx5⟩ := (ownsRow_slOf ent_len ho).at_ (by omega)
      simp only [Value.slice.injEq, Option.some.injEq, Addr.mk.injEq, true_and, and_true] at e5
      obtain ⟨⟨rfl, rfl⟩, rfl⟩ := e5
      obtain ⟨e, he⟩ : ∃ e, st.l[q]? = some e := ⟨_, List.getElem?_eq_getElem hlt⟩
      have r0 := hx5 q e he 0 _ rfl
      have r1 := hx5 q e he 1 _ rfl
      have r2 := hx5 q e he 2 _ rfl
      have r3 := hx5 q e he 3 _ rfl
      have r4 := hx5 q e he 4 _ rfl
      have r5 := hx5 q e he 5 _ rfl
      have r6 := hx5 q e he 6 _ rfl
      have r7 := hx5 q e he 7 _ rfl
      rw [Nat.zero_add] at r0 r1 r2 r3 r4 r5 r6 r7
      rw [Nat.add_zero] at r0
      obtain ⟨⟨x0, x1, x2, x3, x4, x5, x6, x7⟩, _⟩ := cells8 (e := x) (T := 25) z1
      have EE := Lib.hid he
      have no : ofB e x.k x.sh = false → Hid (∀ p y, p < q + 1 → st.l[p]? = some y → ofB y x.k x.sh = false) := fun h => Lib.hid fun p y hp hy => by
        by_cases hpq : p = q
        · subst hpq
          rw [EE.out] at hy
          cases hy
          exact h
        · exact HQ.out p y (by omega) hy
      have NO := Lib.hid no
      clear hx5 hb5 he no
      cases hsq : (e.sh == x.sh)
      · have NN := Lib.hid (NO.out (by simp [ofB, hsq]))
        go_upto_region 7 with fail
        (refine wp_region_held_drew (S := (fun Z : World => Z.cell? ⟨w.heap.size + 1, 0, none⟩ = some (.int .i64 x.k.k) ∧ Z.cell? ⟨w.heap.size + 1, 1, none⟩ = some (.int .i64 x.k.n) ∧ Z.cell? ⟨w.heap.size + 1, 2, none⟩ = some (.string x.k.s) ∧ Z.cell? ⟨w.heap.size + 1, 3, none⟩ = some (.int .i64 x.sh) ∧ Z.cell? ⟨g, q * 8, none⟩ = some (.int .i64 e.k.k) ∧ Z.cell? ⟨g, q * 8 + 1, none⟩ = some (.int .i64 e.k.n) ∧ Z.cell? ⟨g, q * 8 + 2, none⟩ = some (.string e.k.s) ∧ Z.cell? ⟨g, q * 8 + 3, none⟩ = some (.int .i64 e.sh))) Try.mixed (by (and_intros <;> go_simp)) (fun hS => ?_); (refine wpAnyH_take (i := 0) (v := ?_) rfl (by kernel_rfl) (by kernel_rfl) (by kernel_rfl) (fun _ _ _ h => h) ?_ (by assumption) ?_; rotate_left; (next => (refine Or.inl ⟨by kernel_rfl, ?_⟩; ((intro w hSw; (try dsimp only at hSw); go_simp) <;> with_reducible rfl))); (try simp only [Act.put, List.setIfInBounds_toArray, List.set_cons_zero, List.set_cons_succ])); (refine wpAnyH_take (i := 1) (v := ?_) rfl (by kernel_rfl) (by kernel_rfl) (by kernel_rfl) (fun _ _ _ h => h) ?_ (by assumption) ?_; rotate_left; (next => (refine Or.inl ⟨by kernel_rfl, ?_⟩; ((intro w hSw; (try dsimp only at hSw); go_simp) <;> with_reducible rfl))); (try simp only [Act.put, List.setIfInBounds_toArray, List.set_cons_zero, List.set_cons_succ])); (refine wpAnyH_take (i := 2) (v := ?_) rfl (by kernel_rfl) (by kernel_rfl) (by kernel_rfl) (fun _ _ _ h => h) ?_ (by assumption) ?_; rotate_left; (next => (refine Or.inl ⟨by kernel_rfl, ?_⟩; ((intro w hSw; (try dsimp only at hSw); go_simp) <;> with_reducible rfl))); (try simp only [Act.put, List.setIfInBounds_toArray, List.set_cons_zero, List.set_cons_succ])); (refine wpAnyH_take (i := 3) (v := ?_) rfl (by kernel_rfl) (by kernel_rfl) (by kernel_rfl) (fun _ _ _ h => h) ?_ (by assumption) ?_; rotate_left; (next => (refine Or.inl ⟨by kernel_rfl, ?_⟩; ((intro w hSw; (try dsimp only at hSw); go_simp) <;> with_reducible rfl))); (try simp only [Act.put, List.setIfInBounds_toArray, List.set_cons_zero, List.set_cons_succ])); (refine wpAnyH_take (i := 4) (v := ?_) rfl (by kernel_rfl) (by kernel_rfl) (by kernel_rfl) (fun _ _ _ h => h) ?_ (by assumption) ?_; rotate_left; (next => (refine Or.inl ⟨by kernel_rfl, ?_⟩; ((intro w hSw; (try dsimp only at hSw); go_simp) <;> with_reducible rfl))); (try simp only [Act.put, List.setIfInBounds_toArray, List.set_cons_zero, List.set_cons_succ])); (refine wpAnyH_take (i := 5) (v := ?_) rfl (by kernel_rfl) (by kernel_rfl) (by kernel_rfl) (fun _ _ _ h => h) ?_ (by assumption) ?_; rotate_left; (next => (refine Or.inl ⟨by kernel_rfl, ?_⟩; ((intro w hSw; (try dsimp only at hSw); go_simp) <;> with_reducible rfl))); (try simp only [Act.put, List.setIfInBounds_toArray, List.set_cons_zero, List.set_cons_succ])); (refine wpAnyH_take (i := 6) (v := ?_) rfl (by kernel_rfl) (by kernel_rfl) (by kernel_rfl) (fun _ _ _ h => h) ?_ (by assumption) ?_; rotate_left; (next => (refine Or.inl ⟨by kernel_rfl, ?_⟩; ((intro w hSw; (try dsimp only at hSw); go_simp) <;> with_reducible rfl))); (try simp only [Act.put, List.setIfInBounds_toArray, List.set_cons_zero, List.set_cons_succ])); (refine wpAnyH_take (i := 7) (v := ?_) rfl (by kernel_rfl) (by kernel_rfl) (by kernel_rfl) (fun _ _ _ h => h) ?_ (by assumption) ?_; rotate_left; (next => (refine Or.inl ⟨by kernel_rfl, ?_⟩; ((intro w hSw; (try dsimp only at hSw); go_simp) <;> with_reducible rfl))); (try simp only [Act.put, List.setIfInBounds_toArray, List.set_cons_zero, List.set_cons_succ])); (refine wpAnyH_take (i := 8) (v := ?_) rfl (by kernel_rfl) (by kernel_rfl) (by kernel_rfl) (fun _ _ _ h => h) ?_ (by assumption) ?_; rotate_left; (next => (refine Or.inl ⟨by kernel_rfl, ?_⟩; ((intro w hSw; (try dsimp only at hSw); go_simp) <;> with_reducible rfl))); (try simp only [Act.put, List.setIfInBounds_toArray, List.set_cons_zero, List.set_cons_succ])); (refine wpAnyH_take (i := 9) (v := ?_) rfl (by kernel_rfl) (by kernel_rfl) (by kernel_rfl) (fun _ _ _ h => h) ?_ (by assumption) ?_; rotate_left; (next => (refine Or.inr ⟨by kernel_rfl, ?_⟩; with_reducible rfl)); (try simp only [Act.put, List.setIfInBounds_toArray, List.set_cons_zero, List.set_cons_succ])); (refine wpAnyH_take (i := 10) (v := ?_) rfl (by kernel_rfl) (by kernel_rfl) (by kernel_rfl) (fun _ _ _ h => h) ?_ (by assumption) ?_; rotate_left; (next => (refine Or.inr ⟨by kernel_rfl, ?_⟩; with_reducible rfl)); (try simp only [Act.put, List.setIfInBounds_toArray, List.set_cons_zero, List.set_cons_succ])); (refine wpAnyH_take (i := 11) (v := ?_) rfl (by kernel_rfl) (by kernel_rfl) (by kernel_rfl) (fun _ _ _ h => h) ?_ (by assumption) ?_; rotate_left; (next => (refine Or.inr ⟨by kernel_rfl, ?_⟩; with_reducible rfl)); (try simp only [Act.put, List.setIfInBounds_toArray, List.set_cons_zero, List.set_cons_succ])); (refine wpAnyH_take (i := 12) (v := ?_) rfl (by kernel_rfl) (by kernel_rfl) (by kernel_rfl) (fun _ _ _ h => h) ?_ (by assumption) ?_; rotate_left; (next => (refine Or.inr ⟨by kernel_rfl, ?_⟩; with_reducible rfl)); (try simp only [Act.put, List.setIfInBounds_toArray, List.set_cons_zero, List.set_cons_succ])); (refine wpAnyH_take (i := 13) (v := ?_) rfl (by kernel_rfl) (by kernel_rfl) (by kernel_rfl) (fun _ _ _ h => h) ?_ (by assumption) ?_; rotate_left; (next => (refine Or.inr ⟨by kernel_rfl, ?_⟩; with_reducible rfl)); (try simp only [Act.put, List.setIfInBounds_toArray, List.set_cons_zero, List.set_cons_succ])); (refine wpAnyH_take (i := 14) (v := ?_) rfl (by kernel_rfl) (by kernel_rfl) (by kernel_rfl) (fun _ _ _ h => h) ?_ (by assumption) ?_; rotate_left; (next => (refine Or.inr ⟨by kernel_rfl, ?_⟩; with_reducible rfl)); (try simp only [Act.put, List.setIfInBounds_toArray, List.set_cons_zero, List.set_cons_succ])); (refine wpAnyH_take (i := 15) (v := ?_) rfl (by kernel_rfl) (by kernel_rfl) (by kernel_rfl) (fun _ _ _ h => h) ?_ (by assumption) ?_; rotate_left; (next => (refine Or.inr ⟨by kernel_rfl, ?_⟩; with_reducible rfl)); (try simp only [Act.put, List.setIfInBounds_toArray, List.set_cons_zero, List.set_cons_succ])); (refine wpAnyH_take (i := 16) (v := ?_) rfl (by kernel_rfl) (by kernel_rfl) (by kernel_rfl) (fun _ _ _ h => h) ?_ (by assumption) ?_; rotate_left; (next => (refine Or.inr ⟨by kernel_rfl, ?_⟩; with_reducible rfl)); (try simp only [Act.put, List.setIfInBounds_toArray, List.set_cons_zero, List.set_cons_succ])); (refine wpAnyH_take (i := 17) (v := ?_) rfl (by kernel_rfl) (by kernel_rfl) (by kernel_rfl) (fun _ _ _ h => h) ?_ (by assumption) ?_; rotate_left; (next => (refine Or.inl ⟨by kernel_rfl, ?_⟩; ((intro w hSw; (try dsimp only at hSw); go_simp) <;> with_reducible rfl))); (try simp only [Act.put, List.setIfInBounds_toArray, List.set_cons_zero, List.set_cons_succ])); refine wpAnyH_done (by kernel_rfl) ?_ _)
        go_simp
        clear hS
        go_wp2
        go_roundw
        case rel => exact ⟨q + 1, by omega, by go_num, NN.out, by (repeat (with_reducible first | exact HB.out | exact Below.refl _ _ | refine bl_rapp ?_ | (refine bl_set ?_ (by first | omega | (simp; done) | (simp; omega)) _) | refine bl_gr ?_ _ | refine bl_al ?_ _ | refine bl_drewN ?_ _ | refine Below.drew ?_))⟩
        case measure => simp [intOf]; omega
      · cases hkq : (Val.mk e.k.k e.k.n e.k.s).eq ⟨x.k.k, x.k.n, x.k.s⟩
        · have NN := Lib.hid (NO.out (by unfold ofB; rw [hsq, Bool.and_true]; exact hkq))
          go_upto_region 7 with fail
          (refine wp_region_held_drew (S := (fun Z : World => Z.cell? ⟨w.heap.size + 1, 0, none⟩ = some (.int .i64 x.k.k) ∧ Z.cell? ⟨w.heap.size + 1, 1, none⟩ = some (.int .i64 x.k.n) ∧ Z.cell? ⟨w.heap.size + 1, 2, none⟩ = some (.string x.k.s) ∧ Z.cell? ⟨w.heap.size + 1, 3, none⟩ = some (.int .i64 x.sh) ∧ Z.cell? ⟨g, q * 8, none⟩ = some (.int .i64 e.k.k) ∧ Z.cell? ⟨g, q * 8 + 1, none⟩ = some (.int .i64 e.k.n) ∧ Z.cell? ⟨g, q * 8 + 2, none⟩ = some (.string e.k.s) ∧ Z.cell? ⟨g, q * 8 + 3, none⟩ = some (.int .i64 e.sh))) Try.mixed (by (and_intros <;> go_simp)) (fun hS => ?_); (refine wpAnyH_take (i := 0) (v := ?_) rfl (by kernel_rfl) (by kernel_rfl) (by kernel_rfl) (fun _ _ _ h => h) ?_ (by assumption) ?_; rotate_left; (next => (refine Or.inl ⟨by kernel_rfl, ?_⟩; ((intro w hSw; (try dsimp only at hSw); go_simp) <;> with_reducible rfl))); (try simp only [Act.put, List.setIfInBounds_toArray, List.set_cons_zero, List.set_cons_succ])); (refine wpAnyH_take (i := 1) (v := ?_) rfl (by kernel_rfl) (by kernel_rfl) (by kernel_rfl) (fun _ _ _ h => h) ?_ (by assumption) ?_; rotate_left; (next => (refine Or.inl ⟨by kernel_rfl, ?_⟩; ((intro w hSw; (try dsimp only at hSw); go_simp) <;> with_reducible rfl))); (try simp only [Act.put, List.setIfInBounds_toArray, List.set_cons_zero, List.set_cons_succ])); (refine wpAnyH_take (i := 2) (v := ?_) rfl (by kernel_rfl) (by kernel_rfl) (by kernel_rfl) (fun _ _ _ h => h) ?_ (by assumption) ?_; rotate_left; (next => (refine Or.inl ⟨by kernel_rfl, ?_⟩; ((intro w hSw; (try dsimp only at hSw); go_simp) <;> with_reducible rfl))); (try simp only [Act.put, List.setIfInBounds_toArray, List.set_cons_zero, List.set_cons_succ])); (refine wpAnyH_take (i := 3) (v := ?_) rfl (by kernel_rfl) (by kernel_rfl) (by kernel_rfl) (fun _ _ _ h => h) ?_ (by assumption) ?_; rotate_left; (next => (refine Or.inl ⟨by kernel_rfl, ?_⟩; ((intro w hSw; (try dsimp only at hSw); go_simp) <;> with_reducible rfl))); (try simp only [Act.put, List.setIfInBounds_toArray, List.set_cons_zero, List.set_cons_succ])); (refine wpAnyH_take (i := 4) (v := ?_) rfl (by kernel_rfl) (by kernel_rfl) (by kernel_rfl) (fun _ _ _ h => h) ?_ (by assumption) ?_; rotate_left; (next => (refine Or.inl ⟨by kernel_rfl, ?_⟩; ((intro w hSw; (try dsimp only at hSw); go_simp) <;> with_reducible rfl))); (try simp only [Act.put, List.setIfInBounds_toArray, List.set_cons_zero, List.set_cons_succ])); (refine wpAnyH_take (i := 5) (v := ?_) rfl (by kernel_rfl) (by kernel_rfl) (by kernel_rfl) (fun _ _ _ h => h) ?_ (by assumption) ?_; rotate_left; (next => (refine Or.inl ⟨by kernel_rfl, ?_⟩; ((intro w hSw; (try dsimp only at hSw); go_simp) <;> with_reducible rfl))); (try simp only [Act.put, List.setIfInBounds_toArray, List.set_cons_zero, List.set_cons_succ])); (refine wpAnyH_take (i := 6) (v := ?_) rfl (by kernel_rfl) (by kernel_rfl) (by kernel_rfl) (fun _ _ _ h => h) ?_ (by assumption) ?_; rotate_left; (next => (refine Or.inl ⟨by kernel_rfl, ?_⟩; ((intro w hSw; (try dsimp only at hSw); go_simp) <;> with_reducible rfl))); (try simp only [Act.put, List.setIfInBounds_toArray, List.set_cons_zero, List.set_cons_succ])); (refine wpAnyH_take (i := 7) (v := ?_) rfl (by kernel_rfl) (by kernel_rfl) (by kernel_rfl) (fun _ _ _ h => h) ?_ (by assumption) ?_; rotate_left; (next => (refine Or.inl ⟨by kernel_rfl, ?_⟩; ((intro w hSw; (try dsimp only at hSw); go_simp) <;> with_reducible rfl))); (try simp only [Act.put, List.setIfInBounds_toArray, List.set_cons_zero, List.set_cons_succ])); (refine wpAnyH_take (i := 8) (v := ?_) rfl (by kernel_rfl) (by kernel_rfl) (by kernel_rfl) (fun _ _ _ h => h) ?_ (by assumption) ?_; rotate_left; (next => (refine Or.inl ⟨by kernel_rfl, ?_⟩; ((intro w hSw; (try dsimp only at hSw); go_simp) <;> with_reducible rfl))); (try simp only [Act.put, List.setIfInBounds_toArray, List.set_cons_zero, List.set_cons_succ])); (refine wpAnyH_take (i := 9) (v := ?_) rfl (by kernel_rfl) (by kernel_rfl) (by kernel_rfl) (fun _ _ _ h => h) ?_ (by assumption) ?_; rotate_left; (next => (refine Or.inl ⟨by kernel_rfl, ?_⟩; ((intro w hSw; (try dsimp only at hSw); go_simp) <;> with_reducible rfl))); (try simp only [Act.put, List.setIfInBounds_toArray, List.set_cons_zero, List.set_cons_succ])); (refine wpAnyH_take (i := 10) (v := ?_) rfl (by kernel_rfl) (by kernel_rfl) (by kernel_rfl) (fun _ _ _ h => h) ?_ (by assumption) ?_; rotate_left; (next => (refine Or.inl ⟨by kernel_rfl, ?_⟩; ((intro w hSw; (try dsimp only at hSw); go_simp) <;> with_reducible rfl))); (try simp only [Act.put, List.setIfInBounds_toArray, List.set_cons_zero, List.set_cons_succ])); (refine wpAnyH_take (i := 11) (v := ?_) rfl (by kernel_rfl) (by kernel_rfl) (by kernel_rfl) (fun _ _ _ h => h) ?_ (by assumption) ?_; rotate_left; (next => (refine Or.inl ⟨by kernel_rfl, ?_⟩; ((intro w hSw; (try dsimp only at hSw); go_simp) <;> with_reducible rfl))); (try simp only [Act.put, List.setIfInBounds_toArray, List.set_cons_zero, List.set_cons_succ])); (refine wpAnyH_take (i := 12) (v := ?_) rfl (by kernel_rfl) (by kernel_rfl) (by kernel_rfl) (fun _ _ _ h => h) ?_ (by assumption) ?_; rotate_left; (next => (refine Or.inl ⟨by kernel_rfl, ?_⟩; ((intro w hSw; (try dsimp only at hSw); go_simp) <;> with_reducible rfl))); (try simp only [Act.put, List.setIfInBounds_toArray, List.set_cons_zero, List.set_cons_succ])); (refine wpAnyH_take (i := 13) (v := ?_) rfl (by kernel_rfl) (by kernel_rfl) (by kernel_rfl) (fun _ _ _ h => h) ?_ (by assumption) ?_; rotate_left; (next => (refine Or.inl ⟨by kernel_rfl, ?_⟩; ((intro w hSw; (try dsimp only at hSw); go_simp) <;> with_reducible rfl))); (try simp only [Act.put, List.setIfInBounds_toArray, List.set_cons_zero, List.set_cons_succ])); (refine wpAnyH_take (i := 14) (v := ?_) rfl (by kernel_rfl) (by kernel_rfl) (by kernel_rfl) (fun _ _ _ h => h) ?_ (by assumption) ?_; rotate_left; (next => (refine Or.inl ⟨by kernel_rfl, ?_⟩; ((intro w hSw; (try dsimp only at hSw); go_simp) <;> with_reducible rfl))); (try simp only [Act.put, List.setIfInBounds_toArray, List.set_cons_zero, List.set_cons_succ])); (refine wpAnyH_take (i := 15) (v := ?_) rfl (by kernel_rfl) (by kernel_rfl) (by kernel_rfl) (fun _ _ _ h => h) ?_ (by assumption) ?_; rotate_left; (next => (refine Or.inl ⟨by kernel_rfl, ?_⟩; ((intro w hSw; (try dsimp only at hSw); go_simp) <;> with_reducible rfl))); (try simp only [Act.put, List.setIfInBounds_toArray, List.set_cons_zero, List.set_cons_succ])); refine wpAnyH_ready (rs := [16]) (by kernel_rfl) (by simp) ?_; refine AllReadyH.cons rfl (fun K hK => ?_) AllReadyH.nil; go_simp; refine hK.out _ _ (by (and_intros <;> go_simp)) (fun hS => ?_); clear hK K; (try simp only [Act.put, List.setIfInBounds_toArray, List.set_cons_zero, List.set_cons_succ]); (refine wpAnyH_take (i := 17) (v := ?_) rfl (by kernel_rfl) (by kernel_rfl) (by kernel_rfl) (fun _ _ _ h => h) ?_ (by assumption) ?_; rotate_left; (next => (refine Or.inl ⟨by kernel_rfl, ?_⟩; ((intro w hSw; (try dsimp only at hSw); go_simp) <;> with_reducible rfl))); (try simp only [Act.put, List.setIfInBounds_toArray, List.set_cons_zero, List.set_cons_succ])); refine wpAnyH_done (by kernel_rfl) ?_ _)
          go_simp
          clear hS
          go_wp2
          go_roundw
          case rel => exact ⟨q + 1, by omega, by go_num, NN.out, by (repeat (with_reducible first | exact HB.out | exact Below.refl _ _ | refine bl_rapp ?_ | (refine bl_set ?_ (by first | omega | (simp; done) | (simp; omega)) _) | refine bl_gr ?_ _ | refine bl_al ?_ _ | refine bl_drewN ?_ _ | refine Below.drew ?_))⟩
          case measure => simp [intOf]; omega
        · have YY := Lib.hid (show ofB e x.k x.sh = true by unfold ofB; rw [hsq, Bool.and_true]; exact hkq)
          go_upto_region 7 with fail
          (refine wp_region_held_drew (S := (fun Z : World => Z.cell? ⟨w.heap.size + 1, 0, none⟩ = some (.int .i64 x.k.k) ∧ Z.cell? ⟨w.heap.size + 1, 1, none⟩ = some (.int .i64 x.k.n) ∧ Z.cell? ⟨w.heap.size + 1, 2, none⟩ = some (.string x.k.s) ∧ Z.cell? ⟨w.heap.size + 1, 3, none⟩ = some (.int .i64 x.sh) ∧ Z.cell? ⟨g, q * 8, none⟩ = some (.int .i64 e.k.k) ∧ Z.cell? ⟨g, q * 8 + 1, none⟩ = some (.int .i64 e.k.n) ∧ Z.cell? ⟨g, q * 8 + 2, none⟩ = some (.string e.k.s) ∧ Z.cell? ⟨g, q * 8 + 3, none⟩ = some (.int .i64 e.sh))) Try.mixed (by (and_intros <;> go_simp)) (fun hS => ?_); (refine wpAnyH_take (i := 0) (v := ?_) rfl (by kernel_rfl) (by kernel_rfl) (by kernel_rfl) (fun _ _ _ h => h) ?_ (by assumption) ?_; rotate_left; (next => (refine Or.inl ⟨by kernel_rfl, ?_⟩; ((intro w hSw; (try dsimp only at hSw); go_simp) <;> with_reducible rfl))); (try simp only [Act.put, List.setIfInBounds_toArray, List.set_cons_zero, List.set_cons_succ])); (refine wpAnyH_take (i := 1) (v := ?_) rfl (by kernel_rfl) (by kernel_rfl) (by kernel_rfl) (fun _ _ _ h => h) ?_ (by assumption) ?_; rotate_left; (next => (refine Or.inl ⟨by kernel_rfl, ?_⟩; ((intro w hSw; (try dsimp only at hSw); go_simp) <;> with_reducible rfl))); (try simp only [Act.put, List.setIfInBounds_toArray, List.set_cons_zero, List.set_cons_succ])); (refine wpAnyH_take (i := 2) (v := ?_) rfl (by kernel_rfl) (by kernel_rfl) (by kernel_rfl) (fun _ _ _ h => h) ?_ (by assumption) ?_; rotate_left; (next => (refine Or.inl ⟨by kernel_rfl, ?_⟩; ((intro w hSw; (try dsimp only at hSw); go_simp) <;> with_reducible rfl))); (try simp only [Act.put, List.setIfInBounds_toArray, List.set_cons_zero, List.set_cons_succ])); (refine wpAnyH_take (i := 3) (v := ?_) rfl (by kernel_rfl) (by kernel_rfl) (by kernel_rfl) (fun _ _ _ h => h) ?_ (by assumption) ?_; rotate_left; (next => (refine Or.inl ⟨by kernel_rfl, ?_⟩; ((intro w hSw; (try dsimp only at hSw); go_simp) <;> with_reducible rfl))); (try simp only [Act.put, List.setIfInBounds_toArray, List.set_cons_zero, List.set_cons_succ])); (refine wpAnyH_take (i := 4) (v := ?_) rfl (by kernel_rfl) (by kernel_rfl) (by kernel_rfl) (fun _ _ _ h => h) ?_ (by assumption) ?_; rotate_left; (next => (refine Or.inl ⟨by kernel_rfl, ?_⟩; ((intro w hSw; (try dsimp only at hSw); go_simp) <;> with_reducible rfl))); (try simp only [Act.put, List.setIfInBounds_toArray, List.set_cons_zero, List.set_cons_succ])); (refine wpAnyH_take (i := 5) (v := ?_) rfl (by kernel_rfl) (by kernel_rfl) (by kernel_rfl) (fun _ _ _ h => h) ?_ (by assumption) ?_; rotate_left; (next => (refine Or.inl ⟨by kernel_rfl, ?_⟩; ((intro w hSw; (try dsimp only at hSw); go_simp) <;> with_reducible rfl))); (try simp only [Act.put, List.setIfInBounds_toArray, List.set_cons_zero, List.set_cons_succ])); (refine wpAnyH_take (i := 6) (v := ?_) rfl (by kernel_rfl) (by kernel_rfl) (by kernel_rfl) (fun _ _ _ h => h) ?_ (by assumption) ?_; rotate_left; (next => (refine Or.inl ⟨by kernel_rfl, ?_⟩; ((intro w hSw; (try dsimp only at hSw); go_simp) <;> with_reducible rfl))); (try simp only [Act.put, List.setIfInBounds_toArray, List.set_cons_zero, List.set_cons_succ])); (refine wpAnyH_take (i := 7) (v := ?_) rfl (by kernel_rfl) (by kernel_rfl) (by kernel_rfl) (fun _ _ _ h => h) ?_ (by assumption) ?_; rotate_left; (next => (refine Or.inl ⟨by kernel_rfl, ?_⟩; ((intro w hSw; (try dsimp only at hSw); go_simp) <;> with_reducible rfl))); (try simp only [Act.put, List.setIfInBounds_toArray, List.set_cons_zero, List.set_cons_succ])); (refine wpAnyH_take (i := 8) (v := ?_) rfl (by kernel_rfl) (by kernel_rfl) (by kernel_rfl) (fun _ _ _ h => h) ?_ (by assumption) ?_; rotate_left; (next => (refine Or.inl ⟨by kernel_rfl, ?_⟩; ((intro w hSw; (try dsimp only at hSw); go_simp) <;> with_reducible rfl))); (try simp only [Act.put, List.setIfInBounds_toArray, List.set_cons_zero, List.set_cons_succ])); (refine wpAnyH_take (i := 9) (v := ?_) rfl (by kernel_rfl) (by kernel_rfl) (by kernel_rfl) (fun _ _ _ h => h) ?_ (by assumption) ?_; rotate_left; (next => (refine Or.inl ⟨by kernel_rfl, ?_⟩; ((intro w hSw; (try dsimp only at hSw); go_simp) <;> with_reducible rfl))); (try simp only [Act.put, List.setIfInBounds_toArray, List.set_cons_zero, List.set_cons_succ])); (refine wpAnyH_take (i := 10) (v := ?_) rfl (by kernel_rfl) (by kernel_rfl) (by kernel_rfl) (fun _ _ _ h => h) ?_ (by assumption) ?_; rotate_left; (next => (refine Or.inl ⟨by kernel_rfl, ?_⟩; ((intro w hSw; (try dsimp only at hSw); go_simp) <;> with_reducible rfl))); (try simp only [Act.put, List.setIfInBounds_toArray, List.set_cons_zero, List.set_cons_succ])); (refine wpAnyH_take (i := 11) (v := ?_) rfl (by kernel_rfl) (by kernel_rfl) (by kernel_rfl) (fun _ _ _ h => h) ?_ (by assumption) ?_; rotate_left; (next => (refine Or.inl ⟨by kernel_rfl, ?_⟩; ((intro w hSw; (try dsimp only at hSw); go_simp) <;> with_reducible rfl))); (try simp only [Act.put, List.setIfInBounds_toArray, List.set_cons_zero, List.set_cons_succ])); (refine wpAnyH_take (i := 12) (v := ?_) rfl (by kernel_rfl) (by kernel_rfl) (by kernel_rfl) (fun _ _ _ h => h) ?_ (by assumption) ?_; rotate_left; (next => (refine Or.inl ⟨by kernel_rfl, ?_⟩; ((intro w hSw; (try dsimp only at hSw); go_simp) <;> with_reducible rfl))); (try simp only [Act.put, List.setIfInBounds_toArray, List.set_cons_zero, List.set_cons_succ])); (refine wpAnyH_take (i := 13) (v := ?_) rfl (by kernel_rfl) (by kernel_rfl) (by kernel_rfl) (fun _ _ _ h => h) ?_ (by assumption) ?_; rotate_left; (next => (refine Or.inl ⟨by kernel_rfl, ?_⟩; ((intro w hSw; (try dsimp only at hSw); go_simp) <;> with_reducible rfl))); (try simp only [Act.put, List.setIfInBounds_toArray, List.set_cons_zero, List.set_cons_succ])); (refine wpAnyH_take (i := 14) (v := ?_) rfl (by kernel_rfl) (by kernel_rfl) (by kernel_rfl) (fun _ _ _ h => h) ?_ (by assumption) ?_; rotate_left; (next => (refine Or.inl ⟨by kernel_rfl, ?_⟩; ((intro w hSw; (try dsimp only at hSw); go_simp) <;> with_reducible rfl))); (try simp only [Act.put, List.setIfInBounds_toArray, List.set_cons_zero, List.set_cons_succ])); (refine wpAnyH_take (i := 15) (v := ?_) rfl (by kernel_rfl) (by kernel_rfl) (by kernel_rfl) (fun _ _ _ h => h) ?_ (by assumption) ?_; rotate_left; (next => (refine Or.inl ⟨by kernel_rfl, ?_⟩; ((intro w hSw; (try dsimp only at hSw); go_simp) <;> with_reducible rfl))); (try simp only [Act.put, List.setIfInBounds_toArray, List.set_cons_zero, List.set_cons_succ])); refine wpAnyH_ready (rs := [16]) (by kernel_rfl) (by simp) ?_; refine AllReadyH.cons rfl (fun K hK => ?_) AllReadyH.nil; go_simp; refine hK.out _ _ (by (and_intros <;> go_simp)) (fun hS => ?_); clear hK K; (try simp only [Act.put, List.setIfInBounds_toArray, List.set_cons_zero, List.set_cons_succ]); (refine wpAnyH_take (i := 17) (v := ?_) rfl (by kernel_rfl) (by kernel_rfl) (by kernel_rfl) (fun _ _ _ h => h) ?_ (by assumption) ?_; rotate_left; (next => (refine Or.inl ⟨by kernel_rfl, ?_⟩; ((intro w hSw; (try dsimp only at hSw); go_simp) <;> with_reducible rfl))); (try simp only [Act.put, List.setIfInBounds_toArray, List.set_cons_zero, List.set_cons_succ])); refine wpAnyH_done (by kernel_rfl) ?_ _)
          go_simp
          clear hS
          go_upto_region 8 with fail
          have f0 := gf (q * 8)
          have f1 := gf (q * 8 + 1)
          have f2 := gf (q * 8 + 2)
          have f3 := gf (q * 8 + 3)
          have f4 := gf (q * 8 + 4)
          have f5 := gf (q * 8 + 5)
          have f6 := gf (q * 8 + 6)
          have f7 := gf (q * 8 + 7)
          go_upto_region 9 with fail
          have GO := Lib.hid (rnM_put (q := q) (x := x) (show RnM w (w.heap.size) (w.heap.size + 1 + 1) W.heap.size g n5 c (.slice (some ⟨b, off, none⟩) c.sites.length cap) st.l wr from ⟨RR.out.1, RR.out.2.2.1, RR.out.2.2.2.1, RR.out.2.2.2.2⟩) hlt (by omega) (by omega) (by omega))
          refine wp_world (RnM w (w.heap.size) (w.heap.size + 1 + 1) W.heap.size g n5 c (.slice (some ⟨b, off, none⟩) c.sites.length cap) (st.l.set q x)) (by first | exact GO.out.drew | exact GO.out) ?_
          rintro Z ⟨y0, y2, yo, yb⟩
          have YO := Lib.hid (And.intro y2 (And.intro yo yb))
          obtain ⟨⟨a0, a1, a2, a3⟩, _⟩ := cells4 y0
          have l2Z := (Array.getElem?_eq_some_iff.1 y2).1
          have l0Z : w.heap.size < Z.heap.size := by omega
          have FI := Lib.hid (find_here (q := fun y => ofB y x.k x.sh) HQ.out EE.out YY.out).2
          clear y0 y2 yo yb r0 r1 r2 r3 r4 r5 r6 r7 x0 x1 x2 x3 x4 x5 x6 x7 f0 f1 f2 f3 f4 f5 f6 f7
          go_wp2_with (go_at_call 32; refine (WI.out _ _ false (st.l.set q x) (H.out.below YO.out.2.2) (by have h := ownsRow_slOf (xs := st.l.set q x) ent_len YO.out.2.1; have t := tag_own YO.out.2.1; rw [List.length_set] at h t; exact ⟨h, t⟩)).mono ?_; rintro e' w7 ⟨A7, n7, rfl, h7, hb7⟩; have R7 := Lib.hid (And.intro h7 hb7); obtain ⟨⟨b0, b1, b2, b3⟩, y0, y1, y2, y3⟩ := cells4 ((hb7.block _ l2Z).trans YO.out.1); clear h7 hb7)
          refine wp_post (fun V => V.heap[w.heap.size + 1 + 1]? = some (refO c.most (.slice A7 c.sites.length n7) c.hits c.miss) ∧ Below w.heap.size w V ∧ IsR V (.slice A7 c.sites.length n7) (c.sites.set j ⟨st.l.set q x, false⟩)) (ref_end ((R7.out.2.block _ l2Z).trans YO.out.1) (by omega) (bl_tr YO.out.2.2 R7.out.2) R7.out.1) ?_
          rintro V ⟨z, hb, hr⟩
          have ZZ := Lib.hid (And.intro hb hr)
          clear a0 a1 a2 a3 b0 b1 b2 b3 y0 y1 y2 y3 hb hr
          obtain ⟨⟨a0, a1, a2, a3⟩, _⟩ := cells4 z
          have NN := Lib.hid (note_some (x := x) HS.out.1 HS.out.2.1 HS.out.2.2 FI.out)
          clear z
          refine bodyPost_ret (v := .tuple #[refV c.most (.slice A7 c.sites.length n7) c.hits c.miss, .bool true]) (by simp [results, Try.results25, go_sem, *]) rfl ⟨_, by rw [NN.out], by rw [NN.out]; exact ZZ.out.2, ZZ.out.1⟩
    · have hql : q = st.l.length := by omega
      have q1 : ¬ (q : Int) < st.l.length := by omega
      have FN := Lib.hid (find_no (q := fun y => ofB y x.k x.sh) (fun p y hp hy => HQ.out p y (by omega) hy)).2
      obtain ⟨⟨a0, a1, a2, a3⟩, _⟩ := cells4 z0
      have l2Z := (Array.getElem?_eq_some_iff.1 z2).1
      have l0Z : w.heap.size < wr.heap.size := by omega
      have l1Z : w.heap.size + 1 < wr.heap.size := by omega
      clear hql
      by_cases hlm : st.l.length < c.most
      · have i2 : (st.l.length : Int) < c.most := by omega
        have NN := Lib.hid (note_new (x := x) HS.out.1 HS.out.2.1 HS.out.2.2 FN.out hlm)
        obtain ⟨⟨x0, x1, x2, x3, x4, x5, x6, x7⟩, _⟩ := cells8 (e := x) (T := 25) z1
        clear hlm z0 z1 z2 ho hw
        go_upto_region 11 with fail
        have nF : ∀ k, k < W.heap.size → k ≠ w.heap.size + 1 + 1 → ¬ (Value.ownBlock (.slice A5 st.l.length n5) = some k ∨ k = w.heap.size + 1 + 1) := fun k hk hk2 h => by
          rcases h with h | h
          · have := (RR.out.2.2.2.1.lt _ h).1
            omega
          · exact hk2 h
        have NF := Lib.hid nF
        clear nF a0 a1 a2 a3 x0 x1 x2 x3 x4 x5 x6 x7
        (refine wp_region_held_drew (S := (fun Z : World => Touch (fun k => Value.ownBlock (.slice A5 st.l.length n5) = some k ∨ k = w.heap.size + 1 + 1) wr Z)) Try.mixed (by (repeat (with_reducible first | exact Touch.refl _ _ | refine Touch.drew ?_ | refine Touch.alloc ?_ _ | refine Touch.gr ?_ _))) (fun hS => ?_); (refine wpAnyH_take (i := 0) (v := ?_) rfl (by kernel_rfl) (by kernel_rfl) (by kernel_rfl) (fun _ _ _ h => h) ?_ (by assumption) ?_; rotate_left; (next => (refine Or.inl ⟨by kernel_rfl, ?_⟩; ((intro w hSw; (try dsimp only at hSw); (obtain ⟨⟨a0, a1, a2, a3⟩, _⟩ := cells4 ((hSw.block _ l0Z (NF.out _ (by omega) (by omega))).trans RR.out.1); obtain ⟨⟨x0, x1, x2, x3, x4, x5, x6, x7⟩, _⟩ := cells8 (e := x) (T := 25) ((hSw.block _ l1Z (NF.out _ (by omega) (by omega))).trans RR.out.2.1)); go_simp) <;> with_reducible rfl))); (try simp only [Act.put, List.setIfInBounds_toArray, List.set_cons_zero, List.set_cons_succ])); (refine wpAnyH_take (i := 1) (v := ?_) rfl (by kernel_rfl) (by kernel_rfl) (by kernel_rfl) (fun _ _ _ h => h) ?_ (by assumption) ?_; rotate_left; (next => (refine Or.inl ⟨by kernel_rfl, ?_⟩; ((intro w hSw; (try dsimp only at hSw); go_simp) <;> with_reducible rfl))); (try simp only [Act.put, List.setIfInBounds_toArray, List.set_cons_zero, List.set_cons_succ])); (refine wpAnyH_take (i := 2) (v := ?_) rfl (by kernel_rfl) (by kernel_rfl) (by kernel_rfl) (fun _ _ _ h => h) ?_ (by assumption) ?_; rotate_left; (next => (refine Or.inl ⟨by kernel_rfl, ?_⟩; ((intro w hSw; (try dsimp only at hSw); go_simp) <;> with_reducible rfl))); (try simp only [Act.put, List.setIfInBounds_toArray, List.set_cons_zero, List.set_cons_succ])); (refine wpAnyH_take (i := 3) (v := ?_) rfl (by kernel_rfl) (by kernel_rfl) (by kernel_rfl) (fun _ _ _ h => h) ?_ (by assumption) ?_; rotate_left; (next => (refine Or.inl ⟨by kernel_rfl, ?_⟩; ((intro w hSw; (try dsimp only at hSw); (obtain ⟨⟨a0, a1, a2, a3⟩, _⟩ := cells4 ((hSw.block _ l0Z (NF.out _ (by omega) (by omega))).trans RR.out.1); obtain ⟨⟨x0, x1, x2, x3, x4, x5, x6, x7⟩, _⟩ := cells8 (e := x) (T := 25) ((hSw.block _ l1Z (NF.out _ (by omega) (by omega))).trans RR.out.2.1)); go_simp) <;> with_reducible rfl))); (try simp only [Act.put, List.setIfInBounds_toArray, List.set_cons_zero, List.set_cons_succ])); refine wpAnyH_ready (rs := [4]) (by kernel_rfl) (by simp) ?_; refine AllReadyH.cons rfl (fun K hK => ?_) AllReadyH.nil; go_simp; refine hK.out _ _ (by (repeat (with_reducible first | exact Touch.refl _ _ | refine Touch.drew ?_ | refine Touch.alloc ?_ _ | refine Touch.gr ?_ _))) (fun hS => ?_); clear hK K; (try simp only [Act.put, List.setIfInBounds_toArray, List.set_cons_zero, List.set_cons_succ]); refine wpAnyH_ready (rs := [5]) (by kernel_rfl) (by simp) ?_; refine AllReadyH.cons rfl (fun K hK => ?_) AllReadyH.nil; (refine step_appG elem_ent W.heap.size rfl _ _ rfl st.l [x] (yv := .slice A5 st.l.length n5) (sv := .slice (some ⟨wr.heap.size, 0, none⟩) 1 1) rfl rfl (RR.out.2.2.2.1.alloc _).drew (by simp; omega) (sl_one (heap_alloc_new _ _)).drew (by simp; omega) (by simp; omega) ?_; intro A6 n6 w5 o5 g5; rw [show (st.l ++ [x]).length = st.l.length + 1 by simp] at o5 ⊢; have tg := touch_grown g5; have T5 := Lib.hid (show Touch (fun k => Value.ownBlock (.slice A5 st.l.length n5) = some k ∨ k = w.heap.size + 1 + 1) wr w5 from (((Touch.refl _ wr).alloc _).drew).trans tg (fun i _ h => .inl h)); have O5 := Lib.hid (And.intro o5 (show Below w.heap.size w w5 from RR.out.2.2.2.2.trans (T5.out.below RR.out.2.2.2.2.size (fun k hk => by rcases hk with hk | hk; (have := (RR.out.2.2.2.1.lt _ hk).1; omega); omega)))); have Q5 := Lib.hid (show w5.heap[w.heap.size + 1 + 1]? = some (refO 0 (.slice none 0 0) 0 0) from (tg.block _ (by simp; omega) (fun h => by have := (RR.out.2.2.2.1.lt _ h).1; omega)).trans ((heap_alloc_old _ _ l2Z).trans RR.out.2.2.1)); clear o5 g5 tg); refine hK.out _ _ (by exact T5.out) (fun hS => ?_); clear hK K; (try simp only [Act.put, List.setIfInBounds_toArray, List.set_cons_zero, List.set_cons_succ]); (refine wpAnyH_take (i := 6) (v := ?_) rfl (by kernel_rfl) (by kernel_rfl) (by kernel_rfl) (fun _ _ _ h => h) ?_ (by assumption) ?_; rotate_left; (next => (refine Or.inl ⟨by kernel_rfl, ?_⟩; ((intro w hSw; (try dsimp only at hSw); go_simp) <;> with_reducible rfl))); (try simp only [Act.put, List.setIfInBounds_toArray, List.set_cons_zero, List.set_cons_succ])); refine wpAnyH_ready (rs := [7]) (by kernel_rfl) (by simp) ?_; refine AllReadyH.cons rfl (fun K hK => ?_) AllReadyH.nil; go_simp; ((go_at_call 32; refine (WI.out _ _ false (st.l ++ [x]) (H.out.below O5.out.2) (by have h := ownsRow_slOf (xs := st.l ++ [x]) ent_len (by rw [show (st.l ++ [x]).length = st.l.length + 1 by simp]; exact O5.out.1); exact IsL.own O5.out.1 h)).mono ?_; rintro e' w7 ⟨A7, n7, rfl, h7, hb7⟩; have R7 := Lib.hid (And.intro h7 hb7); have T7 := Lib.hid (show Touch (fun k => Value.ownBlock (.slice A5 st.l.length n5) = some k ∨ k = w.heap.size + 1 + 1) wr w7 from T5.out.trans (G := fun _ => False) (Touch.of_below hb7) (fun _ _ h => h.elim)); obtain ⟨⟨b0, b1, b2, b3⟩, y0, y1, y2, y3⟩ := cells4 ((hb7.block _ (Array.getElem?_eq_some_iff.1 Q5.out).1).trans Q5.out); clear h7 hb7)); refine hK.out _ _ (by exact T7.out) (fun hS => ?_); clear hK K; (try simp only [Act.put, List.setIfInBounds_toArray, List.set_cons_zero, List.set_cons_succ]); refine wpAnyH_ready (rs := [8]) (by kernel_rfl) (by simp) ?_; refine AllReadyH.cons rfl (fun K hK => ?_) AllReadyH.nil; go_simp; refine hK.out _ _ (by (repeat (with_reducible first | exact T7.out | refine Touch.drew ?_ | refine Touch.set ?_ (.inl (.inr rfl)) _))) (fun hS => ?_); clear hK K; (try simp only [Act.put, List.setIfInBounds_toArray, List.set_cons_zero, List.set_cons_succ]); (refine wpAnyH_take (i := 9) (v := ?_) rfl (by kernel_rfl) (by kernel_rfl) (by kernel_rfl) (fun _ _ _ h => h) ?_ (by assumption) ?_; rotate_left; (next => (refine Or.inl ⟨by kernel_rfl, ?_⟩; ((intro w hSw; (try dsimp only at hSw); go_simp) <;> with_reducible rfl))); (try simp only [Act.put, List.setIfInBounds_toArray, List.set_cons_zero, List.set_cons_succ])); refine wpAnyH_done (by kernel_rfl) ?_ _)
        go_simp
        go_wp2
        refine wp_post (fun V => V.heap[w.heap.size + 1 + 1]? = some (refO c.most (.slice A7 c.sites.length n7) c.hits c.miss) ∧ Below w.heap.size w V ∧ IsR V (.slice A7 c.sites.length n7) (c.sites.set j ⟨st.l ++ [x], false⟩)) (ref_end ((R7.out.2.block _ (Array.getElem?_eq_some_iff.1 Q5.out).1).trans Q5.out) (by omega) (bl_tr O5.out.2 R7.out.2) R7.out.1) ?_
        rintro V ⟨z, hb, hr⟩
        have ZZ := Lib.hid (And.intro hb hr)
        clear b0 b1 b2 b3 y0 y1 y2 y3 hb hr
        obtain ⟨⟨a0, a1, a2, a3⟩, _⟩ := cells4 z
        clear z
        refine bodyPost_ret (v := .tuple #[refV c.most (.slice A7 c.sites.length n7) c.hits c.miss, .bool true]) (by simp [results, Try.results25, go_sem, *]) rfl ⟨_, by rw [NN.out], by rw [NN.out]; exact ZZ.out.2, ZZ.out.1⟩
      · have i2 : ¬ (st.l.length : Int) < c.most := by omega
        have NN := Lib.hid (note_gone (x := x) HS.out.1 HS.out.2.1 HS.out.2.2 FN.out hlm)
        clear hlm z0 z1 z2 ho hw
        go_wp2_with (go_at_call 32; refine (WI.out _ (.slice none 0 0) true [] (H.out.below RR.out.2.2.2.2) .nil_).mono ?_; rintro e' w7 ⟨A7, n7, rfl, h7, hb7⟩; have R7 := Lib.hid (And.intro h7 hb7); obtain ⟨⟨b0, b1, b2, b3⟩, y0, y1, y2, y3⟩ := cells4 ((hb7.block _ l2Z).trans RR.out.2.2.1); clear h7 hb7)
        refine wp_post (fun V => V.heap[w.heap.size + 1 + 1]? = some (refO c.most (.slice A7 c.sites.length n7) c.hits c.miss) ∧ Below w.heap.size w V ∧ IsR V (.slice A7 c.sites.length n7) (c.sites.set j ⟨[], true⟩)) (ref_end ((R7.out.2.block _ l2Z).trans RR.out.2.2.1) (by omega) (bl_tr RR.out.2.2.2.2 R7.out.2) R7.out.1) ?_
        rintro V ⟨z, hb, hr⟩
        have ZZ := Lib.hid (And.intro hb hr)
        clear a0 a1 a2 a3 b0 b1 b2 b3 y0 y1 y2 y3 hb hr
        obtain ⟨⟨a0, a1, a2, a3⟩, _⟩ := cells4 z
        clear z
        refine bodyPost_ret (v := .tuple #[refV c.most (.slice A7 c.sites.length n7) c.hits c.miss, .bool false]) (by simp [results, Try.results25, go_sem, *]) rfl ⟨_, by rw [NN.out], by rw [NN.out]; exact ZZ.out.2, ZZ.out.1⟩
end Go.Proofs.Ytbgcjgnhblhohaa
