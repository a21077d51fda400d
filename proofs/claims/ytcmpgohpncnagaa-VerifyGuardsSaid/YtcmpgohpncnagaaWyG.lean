/- verify.Deep. -/
import Derived.Test.YtcmpgohpncnagaaWyF
namespace Go.Proofs.Ytcmpgohpncnagaa
set_option linter.all false
open Go.ChangeShapes Go.WideShapes Go.ChangeAt Go.RowKit Go.Sort Go.Deep Go.Shelf

theorem store_fn {P : Program} {w : World} {a : Addr} {m : Mode} (fn : Fn) (first captured : Array Value) : (store a (.func fn first captured) m).run P w = stored P w a (.func fn first captured) m := run_store P w a _ m rfl
attribute [local go_sem] store_fn
abbrev enZ (x : Int) : List Value := [.int .i64 x]
abbrev IsZ (w : World) (v : Value) (l : List Int) : Prop := SlOf w 1 enZ v l
open Classical in
/-- the error of Deep -/
noncomputable def depE (c : CodeD) : Int := if rightC c = false then 1 else if 0 ≤ openC c then 42 else if DepOk (E3 c) (nxC c) then 0 else 6
open Classical in
/-- .. its depths -/
noncomputable def depV (c : CodeD) : List Int := if depE c = 0 then depL (E3 c) (nxC c) c.ins.length else []
def RetD (w : World) (c : CodeD) (e : Ending) (w' : World) : Prop := ∃ v, e = .returned (.tuple #[v, .int .i64 (depE c)]) ∧ IsZ w' v (depV c) ∧ Below w.heap.size w w'
theorem make_ints (n : Nat) (hn : n ≤ 1000000) (w : World) : (Instr.makeSlice 32 (.int .i64 (n : Int)) (.int .i64 (n : Int))).run Try.prog w = .ok (.slice (some ⟨w.heap.size, 0, none⟩) n n) (w.alloc (.cells ((List.replicate n (0 : Int)).map vI).toArray 3)) := by
  obtain ⟨i, hi, hz, hs, hb⟩ := info_int
  have := run_make (P := Try.prog) w 32 3 i _ Try.underlying32 hi hz .i64 .i64 n n (by omega) (Int.le_refl _) (by rw [hb]; omega) (by omega)
  have e : madeCells #[Value.int .i64 0] (n * 1) = ((List.replicate n (0 : Int)).map vI).toArray := by
    unfold madeCells
    apply Array.ext
    · simp
    · intro j h1 h2
      simp [Nat.mod_one, vI]
  rw [← e]
  simpa [hs, Value.cells] using this
/-- a block of ints, by value -/
theorem intsB {w : World} {bo n : Nat} {o : List Int} (h : w.heap[bo]? = some (.cells (o.map vI).toArray 3)) (hl : o.length = n) (hn : n ≤ 65536) : IsZ w (.slice (some ⟨bo, 0, none⟩) n n) o := by
  refine ⟨by rw [hl]; unfold maxLen; omega, some ⟨bo, 0, none⟩, n, by rw [hl], by omega, fun _ => ⟨bo, 0, rfl, (Array.getElem?_eq_some_iff.1 h).1, fun i x hi j u hj => ?_⟩⟩
  have hj0 : j = 0 := by
    have := (List.getElem?_eq_some_iff.1 hj).1
    simp at this
    exact this
  subst hj0
  simp at hj
  subst hj
  rw [cell_of_row w bo _ _ _ _ h]
  simp [hi, vI]
def fillL (n q : Nat) : List Int := List.replicate q (-1) ++ List.replicate (n - q) 0
theorem fillL_len {n q : Nat} (h : q ≤ n) : (fillL n q).length = n := by simp [fillL]; omega
theorem fillL_next {n q : Nat} (h : q < n) : (fillL n q).set q (-1) = fillL n (q + 1) := by
  unfold fillL
  obtain ⟨m, hm⟩ : ∃ m, n - q = m + 1 := ⟨n - q - 1, by omega⟩
  rw [hm, show n - (q + 1) = m by omega, List.replicate_succ, List.replicate_succ', List.set_append]
  simp
theorem fillL_end (n : Nat) : fillL n n = List.replicate n (-1) := by simp [fillL]
theorem fillL_0 (n : Nat) : fillL n 0 = List.replicate n 0 := by simp [fillL]
/-- the first loop -/
def Lp1 (w : World) (co : Obj) (n b4 bo q : Nat) (Z : World) : Prop := q ≤ n ∧ Z.heap[b4]? = some (.cells #[.slice (some ⟨bo, 0, none⟩) n n] 32) ∧ Z.heap[bo]? = some (.cells ((fillL n q).map vI).toArray 3) ∧ Z.heap[w.heap.size]? = some co ∧ Below w.heap.size w Z
theorem Lp1.next {w : World} {co : Obj} {n b4 bo q : Nat} {Z : World} (h : Lp1 w co n b4 bo q Z) (hq : q < n) (h1 : bo ≠ b4) (h2 : w.heap.size < bo) : Lp1 w co n b4 bo (q + 1) (Z.setCell ⟨bo, q, none⟩ (.int .i64 (-1))) := by
  obtain ⟨_, a, b, c, d⟩ := h
  refine ⟨hq, (heap_setCell_other Z _ _ _ (by exact fun e => h1 e.symm)).trans a, ?_, (heap_setCell_other Z _ _ _ (by dsimp only; omega)).trans c, bl_set d (by dsimp only; omega) _⟩
  rw [heap_setCell_same Z bo q _ _ _ b, ← fillL_next hq]
  congr 2
  simp [List.map_set, vI]
theorem depOk_nil {c : CodeD} (h : c.ins = []) : DepOk (E3 c) (nxC c) := by
  refine ⟨fun _ => 0, rfl, fun a _ => ?_, fun a b g _ he => ?_⟩
  · unfold nxC
    rw [h]
    show (0 : Int) ≤ 0
    omega
  · obtain ⟨x, hx, _⟩ := he
    rw [h] at hx
    simp at hx
abbrev fn1O (b4 b6 b7 : Nat) : Obj := .cells #[.func (.func 25) #[] #[.pointer (some ⟨b4, 0, none⟩), .pointer (some ⟨b6, 0, none⟩), .pointer (some ⟨b7, 0, none⟩)]] 57
theorem StD.re {n b4 bo b6 b7 g0 sz : Nat} {s : LS} {W : World} (h : StD n b4 bo b6 b7 g0 sz s W) {m : Nat} (h1 : m < g0) (h2 : m < sz) : ∃ g, m < g ∧ StD n b4 bo b6 b7 g W.heap.size s W := by
  obtain ⟨hd, ob, ⟨g, cap, lb, own, hg, hgb⟩, tw, h7, h8, h9, ⟨z1, z2, z3, z4, z5⟩, h11⟩ := h
  exact ⟨g, by omega, hd, ob, ⟨g, cap, lb, own, .inl rfl, hgb⟩, tw, h7, h8, h9, ⟨by omega, by omega, by omega, by omega, z5⟩, Nat.le_refl _⟩
theorem StD.re2 {n b4 bo b6 b7 g0 sz : Nat} {s : LS} {W : World} (h : StD n b4 bo b6 b7 g0 sz s W) {g cap : Nat} (lb : W.heap[b6]? = some (.cells #[.slice (some ⟨g, 0, none⟩) s.l.length cap] 32)) : StD n b4 bo b6 b7 g W.heap.size s W := by
  obtain ⟨hd, ob, ⟨g1, cap1, lb1, own, hg, hgb⟩, tw, h7, h8, h9, ⟨z1, z2, z3, z4, z5⟩, h11⟩ := h
  rw [lb] at lb1
  simp only [Option.some.injEq, Obj.cells.injEq, and_true, Array.mk.injEq, List.cons.injEq, Value.slice.injEq, Addr.mk.injEq, true_and] at lb1
  obtain ⟨rfl, rfl⟩ := lb1
  exact ⟨hd, ob, ⟨g, cap, lb, own, .inl rfl, hgb⟩, tw, h7, h8, h9, ⟨by omega, by omega, by omega, by omega, z5⟩, Nat.le_refl _⟩
theorem StD.fwd {n b4 bo b6 b7 g : Nat} {s : LS} {W V : World} (h : StD n b4 bo b6 b7 g W.heap.size s W) (hb : Below W.heap.size W V) : StD n b4 bo b6 b7 g V.heap.size s V := by
  obtain ⟨g1, cap1, lb1, own1, hg1, hgb1⟩ := h.ls
  obtain ⟨cur, hgc, -, -⟩ := own_cells own1
  have lg := (Array.getElem?_eq_some_iff.1 hgc).1
  obtain rfl : g1 = g := by omega
  exact (h.below hb).re2 ((hb.block _ (Array.getElem?_eq_some_iff.1 lb1).1).trans lb1)
theorem f2_all (v nx : Int) (s : LS) (q : List (Nat × Bool)) : q.foldl (f2 v nx) s = layAll s (q.map fun p => (p.1, if p.2 then v else nx)) := by
  unfold layAll
  rw [List.foldl_map]
  rfl
/-- the worklist's loop -/
structure LpD (c : CodeD) (w : World) (co : Obj) (b4 bo b6 b7 b8 q : Nat) (s : LS) (Z : World) : Prop where
  wl : LWL (E3 c) (nxC c) c.ins.length q s
  st : ∃ g, w.heap.size < g ∧ StD c.ins.length b4 bo b6 b7 g Z.heap.size s Z
  c8 : Z.heap[b8]? = some (fn1O b4 b6 b7)
  co : Z.heap[w.heap.size]? = some co
  lo : Below w.heap.size w Z
theorem StD.start {n bo b4 : Nat} {Y : World} (h1 : Y.heap[bo]? = some (.cells ((List.replicate n (-1 : Int)).map vI).toArray 3)) (h2 : Y.heap[b4]? = some (.cells #[.slice (some ⟨bo, 0, none⟩) n n] 32)) (hn : 0 < n ∧ n ≤ 65536) (x : Obj) :
    StD n b4 bo (Y.heap.size + 1) (Y.heap.size + 2) Y.heap.size (Y.heap.size + 4) ⟨(List.replicate n (-1)).set 0 0, [0], false⟩ (((((Y.setCell ⟨bo, 0, none⟩ (.int .i64 0)).alloc (.cells #[.int .i64 0] 3)).alloc (.cells #[.slice (some ⟨Y.heap.size, 0, none⟩) 1 1] 32)).alloc (.cells #[.bool false] 4)).alloc x) ∧
    (((((Y.setCell ⟨bo, 0, none⟩ (.int .i64 0)).alloc (.cells #[.int .i64 0] 3)).alloc (.cells #[.slice (some ⟨Y.heap.size, 0, none⟩) 1 1] 32)).alloc (.cells #[.bool false] 4)).alloc x).heap[Y.heap.size + 3]? = some x := by
  have lt4 := (Array.getElem?_eq_some_iff.1 h2).1
  have lto := (Array.getElem?_eq_some_iff.1 h1).1
  have n1 : bo ≠ b4 := fun e => by subst e; exact cells_ne h1 h2 (by decide)
  have hb := (LWL.start (E := fun _ _ _ => False) (nx := fun _ _ => 0) hn.1).bas.cnt
  dsimp only at hb
  generalize hA : (Y.setCell ⟨bo, 0, none⟩ (.int .i64 0)) = A
  have sA : A.heap.size = Y.heap.size := by rw [← hA]; simp
  have e1 : (A.alloc (.cells #[.int .i64 0] 3)).heap.size = Y.heap.size + 1 := by simp [sA]
  have e2 : ((A.alloc (.cells #[.int .i64 0] 3)).alloc (.cells #[.slice (some ⟨Y.heap.size, 0, none⟩) 1 1] 32)).heap.size = Y.heap.size + 2 := by simp [sA]
  have e3 : (((A.alloc (.cells #[.int .i64 0] 3)).alloc (.cells #[.slice (some ⟨Y.heap.size, 0, none⟩) 1 1] 32)).alloc (.cells #[.bool false] 4)).heap.size = Y.heap.size + 3 := by simp [sA]
  have old : ∀ k, k < Y.heap.size → ((((A.alloc (.cells #[.int .i64 0] 3)).alloc (.cells #[.slice (some ⟨Y.heap.size, 0, none⟩) 1 1] 32)).alloc (.cells #[.bool false] 4)).alloc x).heap[k]? = A.heap[k]? := fun k hk => by
    rw [heap_alloc_old _ _ (by rw [e3]; omega), heap_alloc_old _ _ (by rw [e2]; omega), heap_alloc_old _ _ (by rw [e1]; omega), heap_alloc_old _ _ (by rw [sA]; exact hk)]
  have g0 : ((((A.alloc (.cells #[.int .i64 0] 3)).alloc (.cells #[.slice (some ⟨Y.heap.size, 0, none⟩) 1 1] 32)).alloc (.cells #[.bool false] 4)).alloc x).heap[Y.heap.size]? = some (.cells #[.int .i64 0] 3) := by
    rw [heap_alloc_old _ _ (by rw [e3]; omega), heap_alloc_old _ _ (by rw [e2]; omega), heap_alloc_old _ _ (by rw [e1]; omega), ← sA]
    exact heap_alloc_new _ _
  have g1 : ((((A.alloc (.cells #[.int .i64 0] 3)).alloc (.cells #[.slice (some ⟨Y.heap.size, 0, none⟩) 1 1] 32)).alloc (.cells #[.bool false] 4)).alloc x).heap[Y.heap.size + 1]? = some (.cells #[.slice (some ⟨Y.heap.size, 0, none⟩) 1 1] 32) := by
    rw [heap_alloc_old _ _ (by rw [e3]; omega), heap_alloc_old _ _ (by rw [e2]; omega), ← e1]
    exact heap_alloc_new _ _
  have g2 : ((((A.alloc (.cells #[.int .i64 0] 3)).alloc (.cells #[.slice (some ⟨Y.heap.size, 0, none⟩) 1 1] 32)).alloc (.cells #[.bool false] 4)).alloc x).heap[Y.heap.size + 2]? = some (.cells #[.bool false] 4) := by
    rw [heap_alloc_old _ _ (by rw [e3]; omega), ← e2]
    exact heap_alloc_new _ _
  refine ⟨⟨?_, ?_, ⟨Y.heap.size, 1, g1, ?_, .inl rfl, by omega⟩, g2, by simp, by dsimp only; omega, hn.2, ⟨by omega, by omega, by omega, by omega, by omega⟩, by simp [sA]⟩, ?_⟩
  · rw [old _ lt4, ← hA, heap_setCell_other _ _ _ _ (by exact fun e => n1 e.symm)]
    exact h2
  · rw [old _ lto, ← hA, heap_setCell_same _ _ _ _ _ _ h1]
    congr 2
    apply Array.ext'
    simp [List.map_set, vI]
  · exact ⟨rfl, .inr ⟨Y.heap.size, 1, _, rfl, Nat.zero_le _, g0, Nat.le_refl _, by unfold maxLen; simp, rfl, rfl⟩⟩
  · rw [← e3]
    exact heap_alloc_new _ _
set_option maxRecDepth 100000 in
set_option maxHeartbeats 8000000 in
theorem deep_any (c : CodeD) (i p k g : Value) (hc : c.ok) (w : World) (h : Cd4 w i p k g c) :
    Calls Try.prog 12 #[codeV c.nm c.kd c.ln c.rg i p k g] w (RetD w c) := by
  obtain ⟨A1, c1, A2, c2, A3, c3, A4, c4, rfl, rfl, rfl, rfl⟩ := h.forms
  have H := Lib.hid h
  have RT := Lib.hid (fun W hW => rightC_any c (.slice A1 c.ins.length c1) (.slice A2 c.pl.length c2) (.slice A3 c.ks.length c3) (.slice A4 c.gs.length c4) hc W (h.below hW) : ∀ W, Below w.heap.size w W → _)
  cases hr : rightC c
  · have RS := Lib.hid (show depE c = 1 by unfold depE; rw [if_pos hr])
    have RV := Lib.hid (show depV c = [] by unfold depV; rw [RS.out]; rfl)
    rw [hr] at RT
    clear hr h hc
    go_enter Try.func12, Try.ntmps12
    go_wp2_with fail
    go_step3
    go_wp2_with (go_at_call 18; refine (callGr (RT.out _ (by (repeat (with_reducible first | exact Below.refl _ _ | (refine bl_set ?_ (by first | omega | (simp; done) | (simp; omega)) _) | refine bl_gr ?_ _ | refine bl_al ?_ _ | refine below_setRow ?_ (by first | omega | (simp; done) | (simp; omega)) _ | refine bl_drewN ?_ _ | refine Below.drew ?_ | (refine bl_tr ?_ (by assumption))))))).mono ?_; rintro e w' ⟨pp, rfl, rfl⟩)
    (try rw [Exit.noGoto_ret])
    go_ret2
    exact ⟨.slice none 0 0, by rw [RS.out]; rfl, by rw [RV.out]; exact .nil_, by (repeat (with_reducible first | exact Below.refl _ _ | (refine bl_set ?_ (by first | omega | (simp; done) | (simp; omega)) _) | refine bl_gr ?_ _ | refine bl_al ?_ _ | refine below_setRow ?_ (by first | omega | (simp; done) | (simp; omega)) _ | refine bl_drewN ?_ _ | refine Below.drew ?_ | (refine bl_tr ?_ (by assumption))))⟩
  · have OP := Lib.hid (fun W hW => open_any c hr (.slice A1 c.ins.length c1) (.slice A2 c.pl.length c2) (.slice A3 c.ks.length c3) (.slice A4 c.gs.length c4) hc W (h.below hW) : ∀ W, Below w.heap.size w W → _)
    rw [hr] at RT
    by_cases ho : 0 ≤ openC c
    · have RS := Lib.hid (show depE c = 42 by unfold depE; rw [hr]; simp [ho])
      have RV := Lib.hid (show depV c = [] by unfold depV; rw [RS.out]; rfl)
      generalize openC c = oc at *
      clear hr h hc
      go_enter Try.func12, Try.ntmps12
      go_wp2_with fail
      go_step3
      go_wp2_with (first | (go_at_call 18; refine (callGr (RT.out _ (by (repeat (with_reducible first | exact Below.refl _ _ | (refine bl_set ?_ (by first | omega | (simp; done) | (simp; omega)) _) | refine bl_gr ?_ _ | refine bl_al ?_ _ | refine below_setRow ?_ (by first | omega | (simp; done) | (simp; omega)) _ | refine bl_drewN ?_ _ | refine Below.drew ?_ | (refine bl_tr ?_ (by assumption))))))).mono ?_; rintro e w' ⟨pp, rfl, rfl⟩) | (go_at_call 24; refine (callGr (OP.out _ (by (repeat (with_reducible first | exact Below.refl _ _ | (refine bl_set ?_ (by first | omega | (simp; done) | (simp; omega)) _) | refine bl_gr ?_ _ | refine bl_al ?_ _ | refine below_setRow ?_ (by first | omega | (simp; done) | (simp; omega)) _ | refine bl_drewN ?_ _ | refine Below.drew ?_ | (refine bl_tr ?_ (by assumption))))))).mono ?_; rintro e w' ⟨pp, rfl, rfl⟩))
      (try rw [Exit.noGoto_ret])
      go_ret2
      exact ⟨.slice none 0 0, by rw [RS.out]; rfl, by rw [RV.out]; exact .nil_, by (repeat (with_reducible first | exact Below.refl _ _ | (refine bl_set ?_ (by first | omega | (simp; done) | (simp; omega)) _) | refine bl_gr ?_ _ | refine bl_al ?_ _ | refine below_setRow ?_ (by first | omega | (simp; done) | (simp; omega)) _ | refine bl_drewN ?_ _ | refine Below.drew ?_ | (refine bl_tr ?_ (by assumption))))⟩
    · have RD := Lib.hid (And.intro hr ho)
      have hn := rightC_len hr
      have MB := fun W => make_ints c.ins.length (by omega) W
      have HN := Lib.hid hn
      have OC := Lib.hid OP.out
      generalize openC c = oc at OP ho
      clear hr h hc hn
      go_enter Try.func12, Try.ntmps12
      go_wp2_with fail
      go_step3
      go_upto_region 5 with (first | (go_at_call 18; refine (callGr (RT.out _ (by (repeat (with_reducible first | exact Below.refl _ _ | (refine bl_set ?_ (by first | omega | (simp; done) | (simp; omega)) _) | refine bl_gr ?_ _ | refine bl_al ?_ _ | refine below_setRow ?_ (by first | omega | (simp; done) | (simp; omega)) _ | refine bl_drewN ?_ _ | refine Below.drew ?_ | (refine bl_tr ?_ (by assumption))))))).mono ?_; rintro e w' ⟨pp, rfl, rfl⟩) | (go_at_call 24; refine (callGr (OP.out _ (by (repeat (with_reducible first | exact Below.refl _ _ | (refine bl_set ?_ (by first | omega | (simp; done) | (simp; omega)) _) | refine bl_gr ?_ _ | refine bl_al ?_ _ | refine below_setRow ?_ (by first | omega | (simp; done) | (simp; omega)) _ | refine bl_drewN ?_ _ | refine Below.drew ?_ | (refine bl_tr ?_ (by assumption))))))).mono ?_; rintro e w' ⟨pp, rfl, rfl⟩))
      refine wpc_world (fun X => X.heap[w.heap.size]? = some (codeO c.nm c.kd c.ln c.rg (.slice A1 c.ins.length c1) (.slice A2 c.pl.length c2) (.slice A3 c.ks.length c3) (.slice A4 c.gs.length c4)) ∧ Below w.heap.size w X) ⟨((show Below (w.alloc (codeO c.nm c.kd c.ln c.rg (.slice A1 c.ins.length c1) (.slice A2 c.pl.length c2) (.slice A3 c.ks.length c3) (.slice A4 c.gs.length c4))).heap.size (w.alloc (codeO c.nm c.kd c.ln c.rg (.slice A1 c.ins.length c1) (.slice A2 c.pl.length c2) (.slice A3 c.ks.length c3) (.slice A4 c.gs.length c4))) _ by (repeat (with_reducible first | exact Below.refl _ _ | (refine bl_set ?_ (by first | omega | (simp; done) | (simp; omega)) _) | refine bl_gr ?_ _ | refine bl_al ?_ _ | refine below_setRow ?_ (by first | omega | (simp; done) | (simp; omega)) _ | refine bl_drewN ?_ _ | refine Below.drew ?_ | (refine bl_tr ?_ (by assumption))))).block _ (by simp)).trans (heap_alloc_new _ _), by (repeat (with_reducible first | exact Below.refl _ _ | (refine bl_set ?_ (by first | omega | (simp; done) | (simp; omega)) _) | refine bl_gr ?_ _ | refine bl_al ?_ _ | refine below_setRow ?_ (by first | omega | (simp; done) | (simp; omega)) _ | refine bl_drewN ?_ _ | refine Below.drew ?_ | (refine bl_tr ?_ (by assumption))))⟩ ?_
      rintro X ⟨j0, jb⟩
      have JJ := Lib.hid (And.intro j0 jb)
      obtain ⟨⟨a0, a1, a2, a3, a4, a5, a6, a7⟩, -⟩ := cells8 j0
      have l0 := (Array.getElem?_eq_some_iff.1 j0).1
      clear j0 jb
      go_upto_region 6 with fail
      refine wpc_world (Lp1 w (codeO c.nm c.kd c.ln c.rg (.slice A1 c.ins.length c1) (.slice A2 c.pl.length c2) (.slice A3 c.ks.length c3) (.slice A4 c.gs.length c4)) c.ins.length (X.heap.size + 1) X.heap.size 0) ⟨Nat.zero_le _, ?_, ?_, ?_, bl_tr JJ.out.2 (by (repeat (with_reducible first | exact Below.refl _ _ | (refine bl_set ?_ (by first | omega | (simp; done) | (simp; omega)) _) | refine bl_gr ?_ _ | refine bl_al ?_ _ | refine below_setRow ?_ (by first | omega | (simp; done) | (simp; omega)) _ | refine bl_drewN ?_ _ | refine Below.drew ?_ | (refine bl_tr ?_ (by assumption)))))⟩ ?_
      · have := heap_alloc_new (X.alloc (.cells ((List.replicate c.ins.length (0 : Int)).map vI).toArray 3)) (.cells #[.slice (some ⟨X.heap.size, 0, none⟩) c.ins.length c.ins.length] 32)
        simpa using this
      · rw [heap_alloc_old _ _ (by simp), fillL_0, List.map_replicate, List.toArray_replicate]
        exact heap_alloc_new _ _
      · rw [heap_alloc_old _ _ (by simp; omega), heap_alloc_old _ _ l0]
        exact JJ.out.1
      intro Y hY
      have YY := Lib.hid hY
      have hd4 : Y.cell? ⟨X.heap.size + 1, 0, none⟩ = some (.slice (some ⟨X.heap.size, 0, none⟩) c.ins.length c.ins.length) := by rw [cell_of_row Y _ _ _ _ _ hY.2.1]; rfl
      have LX := Lib.hid l0
      clear hY a0 a1 a2 a3 a4 a5 a6 a7 JJ MB l0 ho RT OP
      generalize X.heap.size = bo at *
      clear X
      have NB := Lib.hid (show bo ≠ bo + 1 from by omega)
      go_wp2
      go_loopw [24] (fun i Z => ∃ q : Nat, i = .int .i64 q ∧ Lp1 w (codeO c.nm c.kd c.ln c.rg (.slice A1 c.ins.length c1) (.slice A2 c.pl.length c2) (.slice A3 c.ks.length c3) (.slice A4 c.gs.length c4)) c.ins.length (bo + 1) bo q Z) (fun i _ => c.ins.length - (intOf i).toNat)
      case atStart => exact ⟨0, rfl, YY.out⟩
      case round =>
        clear hd4 YY
        obtain ⟨q, rfl, hL⟩ := hrel
        have LL := Lib.hid hL
        obtain ⟨hq, h4, hb, hco, hlo⟩ := hL
        have d4 : wr.cell? ⟨bo + 1, 0, none⟩ = some (.slice (some ⟨bo, 0, none⟩) c.ins.length c.ins.length) := by rw [cell_of_row wr _ _ _ _ _ h4]; rfl
        have lbo := (Array.getElem?_eq_some_iff.1 hb).1
        have l4 := (Array.getElem?_eq_some_iff.1 h4).1
        by_cases hlt : q < c.ins.length
        · have q2 : (q : Int) < (c.ins.length : Int) := by omega
          have q3 : ¬ (q : Int) < 0 := by omega
          obtain ⟨u, hu⟩ : ∃ u, (fillL c.ins.length q)[q]? = some u := ⟨_, List.getElem?_eq_getElem (by rw [fillL_len hq]; exact hlt)⟩
          have db : wr.cell? ⟨bo, q, none⟩ = some (.int .i64 u) := by rw [cell_of_row wr _ _ _ _ _ hb, List.getElem?_toArray, List.getElem?_map, hu]; rfl
          have fb := frozen_of_row wr bo q _ _ hb
          have NX := Lib.hid (LL.out.next hlt NB.out LX.out)
          obtain ⟨kp, hkp, ek1⟩ : ∃ kp : Nat, kp = q + 1 ∧ wrap64 ((q : Int) + 1) = (kp : Int) := ⟨q + 1, rfl, w64c rfl (by have := HN.out.1; omega)⟩
          have KP := Lib.hid hkp
          have LQ := Lib.hid hlt
          clear hkp hlt hu hq h4 hb hco hlo
          go_wp2
          go_roundw
          case rel => exact ⟨kp, by first | with_reducible rfl | (rw [ek1]; done) | (rw [KP.out]; go_num), by rw [KP.out]; exact NX.out⟩
          case measure => (first | ((try rw [ek1]); exact meas_c KP.out LQ.out) | (clear ek1; have := LQ.out; simp only [intOf]; omega))
        · obtain rfl : q = c.ins.length := by omega
          have q2 : ¬ (c.ins.length : Int) < (c.ins.length : Int) := by omega
          have d00 : 0 < c.ins.length → wr.cell? ⟨bo, 0, none⟩ = some (.int .i64 (-1)) := fun h0 => by
            rw [cell_of_row wr _ _ _ _ _ hb, fillL_end]
            simp [h0, vI]
          have fb := frozen_of_row wr bo 0 _ _ hb
          by_cases h0 : c.ins.length = 0
          · have hnil : c.ins = [] := List.eq_nil_of_length_eq_zero h0
            have RS := Lib.hid (show depE c = 0 by unfold depE; rw [RD.out.1]; simp [RD.out.2, depOk_nil hnil])
            have RV := Lib.hid (show depV c = fillL c.ins.length c.ins.length by unfold depV; rw [RS.out, if_pos rfl, h0]; rfl)
            have IZ := Lib.hid (intsB hb (fillL_len (Nat.le_refl _)) HN.out.1)
            have q5 : (c.ins.length : Int) = 0 := by omega
            have LO := Lib.hid hlo
            clear hq h4 hb hco hlo hnil hlt h0 d00
            go_wp2
            (try rw [Exit.noGoto_ret])
            go_ret2
            exact ⟨.slice (some ⟨bo, 0, none⟩) c.ins.length c.ins.length, by rw [RS.out]; rfl, by rw [RV.out]; exact IZ.out, LO.out⟩
          · have hp : 0 < c.ins.length := Nat.pos_of_ne_zero h0
            have d0 := d00 hp
            have q5 : ((c.ins.length : Int) == 0) = false := by simpa using h0
            have q6 : (0 : Int) < (c.ins.length : Int) := by omega
            have H4 := Lib.hid h4
            have HB := Lib.hid (show wr.heap[bo]? = some (.cells ((List.replicate c.ins.length (-1 : Int)).map vI).toArray 3) by rw [← fillL_end]; exact hb)
            have HO := Lib.hid (And.intro hco hlo)
            have HP := Lib.hid hp
            clear hq h4 hb hco hlo hlt h0 d00 hp
            go_upto_region 16 with fail
            refine wpc_world (fun V => V = (((wr.setCell ⟨bo, 0, none⟩ (.int .i64 0)).alloc (.cells #[.int .i64 0] 3)).alloc (.cells #[.slice (some ⟨wr.heap.size, 0, none⟩) 1 1] 32)).alloc (.cells #[.bool false] 4)) rfl ?_
            intro V hV
            have VV := Lib.hid hV
            have SV := Lib.hid (show V.heap.size = wr.heap.size + 3 by rw [hV]; simp)
            clear hV
            go_upto_region 17 with fail
            obtain ⟨s0, hs0⟩ : ∃ s0 : LS, s0 = ⟨(List.replicate c.ins.length (-1)).set 0 0, [0], false⟩ := ⟨_, rfl⟩
            refine wpc_world (LpD c w (codeO c.nm c.kd c.ln c.rg (.slice A1 c.ins.length c1) (.slice A2 c.pl.length c2) (.slice A3 c.ks.length c3) (.slice A4 c.gs.length c4)) (bo + 1) bo (wr.heap.size + 1) (wr.heap.size + 1 + 1) V.heap.size 0 s0) ?start ?_
            case start =>
              subst hs0
              have ss := StD.start HB.out H4.out ⟨HP.out, HN.out.1⟩ (fn1O (bo + 1) (wr.heap.size + 1) (wr.heap.size + 1 + 1))
              have e := VV.out
              have e2 := SV.out
              have hbl : Below wr.heap.size (wr.setCell ⟨bo, 0, none⟩ (.int .i64 0)) (V.alloc (fn1O (bo + 1) (wr.heap.size + 1) (wr.heap.size + 1 + 1))) := by
                rw [e]
                have := bl_al (bl_al (bl_al (bl_al (Below.refl (wr.setCell ⟨bo, 0, none⟩ (.int .i64 0)).heap.size (wr.setCell ⟨bo, 0, none⟩ (.int .i64 0))) (.cells #[.int .i64 0] 3)) (.cells #[.slice (some ⟨wr.heap.size, 0, none⟩) 1 1] 32)) (.cells #[.bool false] 4)) (fn1O (bo + 1) (wr.heap.size + 1) (wr.heap.size + 1 + 1))
                simpa using this
              have hlo : Below w.heap.size w (V.alloc (fn1O (bo + 1) (wr.heap.size + 1) (wr.heap.size + 1 + 1))) := (bl_set HO.out.2 (Nat.le_of_lt LX.out) _).trans (hbl.mono HO.out.2.size)
              have hw := HO.out.2.size
              refine ⟨LWL.start HP.out, ⟨wr.heap.size, by have := LX.out; omega, ?_⟩, ?_, ?_, hlo⟩
              · have h1 := ss.1
                rw [← e] at h1
                have e3 : (V.alloc (fn1O (bo + 1) (wr.heap.size + 1) (wr.heap.size + 1 + 1))).heap.size = wr.heap.size + 4 := by simp [e2]
                rw [e3]
                exact h1
              · exact heap_alloc_new _ _
              · have := HO.out.1
                rw [hbl.block _ (by have := LX.out; omega), heap_setCell_other _ _ _ _ (by have := LX.out; dsimp only; omega)]
                exact this
            intro Z hZ
            have ZZ := Lib.hid hZ
            have LB := Lib.hid (show w.heap.size < bo ∧ w.heap.size < wr.heap.size + 1 ∧ w.heap.size < wr.heap.size + 1 + 1 by have := LX.out; have := HO.out.2.size; exact ⟨by assumption, by omega, by omega⟩)
            clear hZ hs0 VV SV HB H4 HO d0 d4 fb l4 lbo LL q5 q6 NB
            generalize wr.heap.size + 1 + 1 = b7 at *
            generalize wr.heap.size + 1 = b6 at *
            generalize V.heap.size = b8 at *
            generalize bo + 1 = b4 at *
            clear V
            have R6 := Lib.hid (fun h => by unfold depE; rw [RD.out.1]; simp [RD.out.2, h] : ¬ DepOk (E3 c) (nxC c) → depE c = 6)
            have R6v := Lib.hid (fun h => by unfold depV; rw [R6.out h]; rfl : ¬ DepOk (E3 c) (nxC c) → depV c = [])
            have R0 := Lib.hid (fun h => by unfold depE; rw [RD.out.1]; simp [RD.out.2, h] : DepOk (E3 c) (nxC c) → depE c = 0)
            have R0v := Lib.hid (fun h => by unfold depV; rw [R0.out h]; rfl : DepOk (E3 c) (nxC c) → depV c = depL (E3 c) (nxC c) c.ins.length)
            go_wp2
            go_step3
            go_wp2
            go_loopw [9] (fun i Z => ∃ q s, i = .int .i64 ((q : Nat) : Int) ∧ LpD c w (codeO c.nm c.kd c.ln c.rg (.slice A1 c.ins.length c1) (.slice A2 c.pl.length c2) (.slice A3 c.ks.length c3) (.slice A4 c.gs.length c4)) b4 bo b6 b7 b8 q s Z) (fun i _ => c.ins.length - (intOf i).toNat)
            case atStart => exact ⟨0, _, rfl, ZZ.out⟩
            case round =>
              clear ZZ Z
              obtain ⟨q, ⟨o, l, two⟩, rfl, hL⟩ := hrel
              have LL := Lib.hid hL
              obtain ⟨hW, ⟨g0, hg0, hS⟩, h8, hco, hlo⟩ := hL
              obtain ⟨g, cap, lb, own, hgg, hgb⟩ := hS.ls
              dsimp only at lb own
              have d6 : wr.cell? ⟨b6, 0, none⟩ = some (.slice (some ⟨g, 0, none⟩) l.length cap) := by rw [cell_of_row wr _ _ _ _ _ lb]; rfl
              have d7 : wr.cell? ⟨b7, 0, none⟩ = some (.bool two) := by rw [cell_of_row wr _ _ _ _ _ hS.tw]; rfl
              have d4 : wr.cell? ⟨b4, 0, none⟩ = some (.slice (some ⟨bo, 0, none⟩) c.ins.length c.ins.length) := by rw [cell_of_row wr _ _ _ _ _ hS.hd]; rfl
              have l6 := (Array.getElem?_eq_some_iff.1 lb).1
              have l7 := (Array.getElem?_eq_some_iff.1 hS.tw).1
              have l4 := (Array.getElem?_eq_some_iff.1 hS.hd).1
              by_cases hlt : q < l.length
              · obtain ⟨cur, hgc, -, oc⟩ := own_cells own
                have lg := (Array.getElem?_eq_some_iff.1 hgc).1
                obtain ⟨a, ha⟩ : ∃ a, l[q]? = some a := ⟨_, List.getElem?_eq_getElem hlt⟩
                have ca := oc q a ha
                obtain ⟨v, hv, hv0, han, hvD⟩ := hW.lab ha
                obtain ⟨x, hx⟩ : ∃ x, c.ins[a]? = some x := ⟨_, List.getElem?_eq_getElem han⟩
                have q2 : (q : Int) < (l.length : Int) := by omega
                have q3 : ¬ (q : Int) < 0 := by omega
                have q4 : (a : Int) < (c.ins.length : Int) := by omega
                have q5 : ¬ (a : Int) < 0 := by omega
                obtain ⟨b, off, cp, e1, lb0, f0, f1, f2, f3⟩ := at_In (H.out.i.below hlo) hx
                simp only [Value.slice.injEq] at e1
                obtain ⟨rfl, _, rfl⟩ := e1
                have hi := rightC_ins RD.out.1 (List.mem_of_getElem? hx)
                have hS' := hS.re2 lb
                have hgw : w.heap.size < g := by
                  have := hlo.size
                  rcases hgg with h | h
                  · rw [h]; exact hg0
                  · omega
                have NE := Lib.hid (fun (h : 0 ≤ behM x.op v) => hW.next ha hv (by rw [nxC_at hx]; exact h) (E3_at hx) (fun p hp => by
                  have hlt2 := sc_lt RD.out.1 hx p.1
                  rcases List.mem_append.1 hp with h | h
                  · obtain ⟨t, ht, rfl⟩ := List.mem_map.1 h
                    exact hlt2 (List.mem_append_left _ ht)
                  · obtain ⟨t, ht, rfl⟩ := List.mem_map.1 h
                    exact hlt2 (List.mem_append_right _ ht)))
                have BD := Lib.hid (fun (h : behM x.op v < 0) => hW.bad ha hv (by rw [nxC_at hx]; exact h))
                have TW := Lib.hid (fun (h : two = true) => hW.two h)
                have dob : wr.cell? ⟨bo, a, none⟩ = some (.int .i64 v) := by rw [cell_of_row wr _ _ _ _ _ hS.ob, List.getElem?_toArray, List.getElem?_map, hv]; rfl
                have lbo := (Array.getElem?_eq_some_iff.1 hS.ob).1
                have lco := (Array.getElem?_eq_some_iff.1 hco).1
                have BH := Lib.hid (fun W => behind_any x.op v W)
                have hlen := hW.len
                dsimp only at hlen
                have LQ := Lib.hid (show q < c.ins.length by omega)
                have n8 : b8 ≠ bo ∧ b8 ≠ b6 ∧ b8 ≠ b7 ∧ b8 ≠ g := ⟨fun e => by subst e; exact cells_ne h8 hS.ob (by decide), fun e => by subst e; exact cells_ne h8 hS'.ls.choose_spec.choose_spec.1 (by decide), fun e => by subst e; exact cells_ne h8 hS.tw (by decide), fun e => by subst e; exact cells_ne h8 hgc (by decide)⟩
                have l8 := (Array.getElem?_eq_some_iff.1 h8).1
                have N8 := Lib.hid n8
                have GG := Lib.hid (And.intro hS' (And.intro hgw (And.intro h8 (And.intro hco (And.intro hlo lg)))))
                have HV := Lib.hid (And.intro hv (And.intro hv0 (And.intro hx hi)))
                obtain ⟨kp, hkp, ek1⟩ : ∃ kp : Nat, kp = q + 1 ∧ wrap64 ((q : Int) + 1) = (kp : Int) := ⟨q + 1, rfl, w64c rfl (by have := HN.out.1; omega)⟩
                have KP := Lib.hid hkp
                clear hW hS hS' hg0 hgg hgb h8 hco hlo lb own hgc oc ha hv hv0 han hvD hx hi hlen hlt hkp n8 hgw
                go_upto_region 21 with fail
                refine wpc_world (fun X => X.heap[wr.heap.size]? = some (.cells #[.int .i64 (a : Int)] 3) ∧ Below wr.heap.size wr X) ⟨heap_alloc_new _ _, bl_al (Below.refl _ _) _⟩ ?_
                rintro X ⟨x0, xb⟩
                have XX := Lib.hid (And.intro x0 xb)
                have sX := xb.size
                have lX := (Array.getElem?_eq_some_iff.1 x0).1
                have KF := Lib.hid (fun (Z : World) (h : Below X.heap.size X Z) => (⟨(h.block _ (by omega)).trans ((xb.block _ lco).trans GG.out.2.2.2.1), (h.cell (p := ⟨b4, 0, none⟩) (by dsimp only; omega)).trans ((xb.cell (p := ⟨b4, 0, none⟩) l4).trans d4), (h.cell (p := ⟨bo, a, none⟩) (by dsimp only; omega)).trans ((xb.cell (p := ⟨bo, a, none⟩) lbo).trans dob),
                  (by rw [cell_of_row Z _ _ _ _ _ ((h.block _ lX).trans x0)]; rfl), AtIn.below ⟨f0, f1, f2, f3⟩ lb0 (bl_tr xb h)⟩ :
                  Z.heap[w.heap.size]? = some (codeO c.nm c.kd c.ln c.rg (.slice (some ⟨b, off, none⟩) c.ins.length c1) (.slice A2 c.pl.length c2) (.slice A3 c.ks.length c3) (.slice A4 c.gs.length c4)) ∧ Z.cell? ⟨b4, 0, none⟩ = some (.slice (some ⟨bo, 0, none⟩) c.ins.length c.ins.length) ∧ Z.cell? ⟨bo, a, none⟩ = some (.int .i64 v) ∧ Z.cell? ⟨wr.heap.size, 0, none⟩ = some (.int .i64 (a : Int)) ∧ AtIn Z b (off + a * 4) x))
                have lb0X : b < X.heap.size := by omega
                clear x0 xb d6 d7 d4 ca dob f0 f1 f2 f3
                (refine wp_region_held_drew (S := (fun Z : World => Below X.heap.size X Z)) Try.mixed (by (repeat (with_reducible first | exact Below.refl _ _ | (refine bl_set ?_ (by first | omega | (simp; done) | (simp; omega)) _) | refine bl_gr ?_ _ | refine bl_al ?_ _ | refine below_setRow ?_ (by first | omega | (simp; done) | (simp; omega)) _ | refine bl_drewN ?_ _ | refine Below.drew ?_ | (refine bl_tr ?_ (by assumption))))) (fun hS => ?_); (refine wpAnyH_take (i := 0) (v := ?_) rfl (by kernel_rfl) (by kernel_rfl) (by kernel_rfl) (fun _ _ _ h => h) ?_ (by assumption) ?_; rotate_left; (next => (refine Or.inl ⟨by kernel_rfl, ?_⟩; ((intro w hSw; (try dsimp only at hSw); go_simp) <;> with_reducible rfl))); (try simp only [Act.put, List.getElem_toArray, List.getElem_cons_zero, List.getElem_cons_succ, List.setIfInBounds_toArray, List.set_cons_zero, List.set_cons_succ])); (refine wpAnyH_take (i := 1) (v := ?_) rfl (by kernel_rfl) (by kernel_rfl) (by kernel_rfl) (fun _ _ _ h => h) ?_ (by assumption) ?_; rotate_left; (next => (refine Or.inl ⟨by kernel_rfl, ?_⟩; ((intro w hSw; (try dsimp only at hSw); (obtain ⟨z0, z1, z2, z3, z4⟩ := KF.out _ hSw; obtain ⟨⟨a0, a1, a2, a3, a4, a5, a6, a7⟩, _⟩ := cells8 z0; obtain ⟨f0, f1, f2, f3⟩ := z4; clear z0); go_simp) <;> with_reducible rfl))); (try simp only [Act.put, List.getElem_toArray, List.getElem_cons_zero, List.getElem_cons_succ, List.setIfInBounds_toArray, List.set_cons_zero, List.set_cons_succ])); (refine wpAnyH_take (i := 2) (v := ?_) rfl (by kernel_rfl) (by kernel_rfl) (by kernel_rfl) (fun _ _ _ h => h) ?_ (by assumption) ?_; rotate_left; (next => (refine Or.inl ⟨by kernel_rfl, ?_⟩; ((intro w hSw; (try dsimp only at hSw); (obtain ⟨z0, z1, z2, z3, z4⟩ := KF.out _ hSw; obtain ⟨⟨a0, a1, a2, a3, a4, a5, a6, a7⟩, _⟩ := cells8 z0; obtain ⟨f0, f1, f2, f3⟩ := z4; clear z0); go_simp) <;> with_reducible rfl))); (try simp only [Act.put, List.getElem_toArray, List.getElem_cons_zero, List.getElem_cons_succ, List.setIfInBounds_toArray, List.set_cons_zero, List.set_cons_succ])); (refine wpAnyH_take (i := 3) (v := ?_) rfl (by kernel_rfl) (by kernel_rfl) (by kernel_rfl) (fun _ _ _ h => h) ?_ (by assumption) ?_; rotate_left; (next => (refine Or.inl ⟨by kernel_rfl, ?_⟩; ((intro w hSw; (try dsimp only at hSw); go_simp) <;> with_reducible rfl))); (try simp only [Act.put, List.getElem_toArray, List.getElem_cons_zero, List.getElem_cons_succ, List.setIfInBounds_toArray, List.set_cons_zero, List.set_cons_succ])); (refine wpAnyH_take (i := 4) (v := ?_) rfl (by kernel_rfl) (by kernel_rfl) (by kernel_rfl) (fun _ _ _ h => h) ?_ (by assumption) ?_; rotate_left; (next => (refine Or.inl ⟨by kernel_rfl, ?_⟩; ((intro w hSw; (try dsimp only at hSw); go_simp) <;> with_reducible rfl))); (try simp only [Act.put, List.getElem_toArray, List.getElem_cons_zero, List.getElem_cons_succ, List.setIfInBounds_toArray, List.set_cons_zero, List.set_cons_succ])); (refine wpAnyH_take (i := 5) (v := ?_) rfl (by kernel_rfl) (by kernel_rfl) (by kernel_rfl) (fun _ _ _ h => h) ?_ (by assumption) ?_; rotate_left; (next => (refine Or.inl ⟨by kernel_rfl, ?_⟩; ((intro w hSw; (try dsimp only at hSw); (obtain ⟨z0, z1, z2, z3, z4⟩ := KF.out _ hSw; obtain ⟨⟨a0, a1, a2, a3, a4, a5, a6, a7⟩, _⟩ := cells8 z0; obtain ⟨f0, f1, f2, f3⟩ := z4; clear z0); go_simp) <;> with_reducible rfl))); (try simp only [Act.put, List.getElem_toArray, List.getElem_cons_zero, List.getElem_cons_succ, List.setIfInBounds_toArray, List.set_cons_zero, List.set_cons_succ])); (refine wpAnyH_take (i := 6) (v := ?_) rfl (by kernel_rfl) (by kernel_rfl) (by kernel_rfl) (fun _ _ _ h => h) ?_ (by assumption) ?_; rotate_left; (next => (refine Or.inl ⟨by kernel_rfl, ?_⟩; ((intro w hSw; (try dsimp only at hSw); (obtain ⟨z0, z1, z2, z3, z4⟩ := KF.out _ hSw; obtain ⟨⟨a0, a1, a2, a3, a4, a5, a6, a7⟩, _⟩ := cells8 z0; obtain ⟨f0, f1, f2, f3⟩ := z4; clear z0); go_simp) <;> with_reducible rfl))); (try simp only [Act.put, List.getElem_toArray, List.getElem_cons_zero, List.getElem_cons_succ, List.setIfInBounds_toArray, List.set_cons_zero, List.set_cons_succ])); (refine wpAnyH_take (i := 7) (v := ?_) rfl (by kernel_rfl) (by kernel_rfl) (by kernel_rfl) (fun _ _ _ h => h) ?_ (by assumption) ?_; rotate_left; (next => (refine Or.inl ⟨by kernel_rfl, ?_⟩; ((intro w hSw; (try dsimp only at hSw); (obtain ⟨z0, z1, z2, z3, z4⟩ := KF.out _ hSw; obtain ⟨⟨a0, a1, a2, a3, a4, a5, a6, a7⟩, _⟩ := cells8 z0; obtain ⟨f0, f1, f2, f3⟩ := z4; clear z0); go_simp) <;> with_reducible rfl))); (try simp only [Act.put, List.getElem_toArray, List.getElem_cons_zero, List.getElem_cons_succ, List.setIfInBounds_toArray, List.set_cons_zero, List.set_cons_succ])); (refine wpAnyH_take (i := 8) (v := ?_) rfl (by kernel_rfl) (by kernel_rfl) (by kernel_rfl) (fun _ _ _ h => h) ?_ (by assumption) ?_; rotate_left; (next => (refine Or.inl ⟨by kernel_rfl, ?_⟩; ((intro w hSw; (try dsimp only at hSw); go_simp) <;> with_reducible rfl))); (try simp only [Act.put, List.getElem_toArray, List.getElem_cons_zero, List.getElem_cons_succ, List.setIfInBounds_toArray, List.set_cons_zero, List.set_cons_succ])); (refine wpAnyH_take (i := 9) (v := ?_) rfl (by kernel_rfl) (by kernel_rfl) (by kernel_rfl) (fun _ _ _ h => h) ?_ (by assumption) ?_; rotate_left; (next => (refine Or.inl ⟨by kernel_rfl, ?_⟩; ((intro w hSw; (try dsimp only at hSw); (obtain ⟨z0, z1, z2, z3, z4⟩ := KF.out _ hSw; obtain ⟨⟨a0, a1, a2, a3, a4, a5, a6, a7⟩, _⟩ := cells8 z0; obtain ⟨f0, f1, f2, f3⟩ := z4; clear z0); go_simp) <;> with_reducible rfl))); (try simp only [Act.put, List.getElem_toArray, List.getElem_cons_zero, List.getElem_cons_succ, List.setIfInBounds_toArray, List.set_cons_zero, List.set_cons_succ])); refine wpAnyH_ready (rs := [10, 11]) (by kernel_rfl) (by simp) ?_; refine AllReadyH.cons rfl (fun K hK => ?_) (AllReadyH.cons rfl (fun K hK => ?_) AllReadyH.nil); go_simp; ((go_at_call 26; refine (BH.out _).mono ?_; rintro e w' ⟨rfl, rfl⟩)); refine hK.out _ _ (by (repeat (with_reducible first | exact Below.refl _ _ | (refine bl_set ?_ (by first | omega | (simp; done) | (simp; omega)) _) | refine bl_gr ?_ _ | refine bl_al ?_ _ | refine below_setRow ?_ (by first | omega | (simp; done) | (simp; omega)) _ | refine bl_drewN ?_ _ | refine Below.drew ?_ | (refine bl_tr ?_ (by assumption))))) (fun hS => ?_); clear hK K; (try simp only [Act.put, List.getElem_toArray, List.getElem_cons_zero, List.getElem_cons_succ, List.setIfInBounds_toArray, List.set_cons_zero, List.set_cons_succ]); refine wpAnyH_ready (rs := [11]) (by kernel_rfl) (by simp) ?_; refine AllReadyH.cons rfl (fun K hK => ?_) AllReadyH.nil; go_simp; refine hK.out _ _ (by (repeat (with_reducible first | exact Below.refl _ _ | (refine bl_set ?_ (by first | omega | (simp; done) | (simp; omega)) _) | refine bl_gr ?_ _ | refine bl_al ?_ _ | refine below_setRow ?_ (by first | omega | (simp; done) | (simp; omega)) _ | refine bl_drewN ?_ _ | refine Below.drew ?_ | (refine bl_tr ?_ (by assumption))))) (fun hS => ?_); clear hK K; (try simp only [Act.put, List.getElem_toArray, List.getElem_cons_zero, List.getElem_cons_succ, List.setIfInBounds_toArray, List.set_cons_zero, List.set_cons_succ]); refine wpAnyH_ready (rs := [12]) (by kernel_rfl) (by simp) ?_; refine AllReadyH.cons rfl (fun K hK => ?_) AllReadyH.nil; go_simp; refine hK.out _ _ (by (repeat (with_reducible first | exact Below.refl _ _ | (refine bl_set ?_ (by first | omega | (simp; done) | (simp; omega)) _) | refine bl_gr ?_ _ | refine bl_al ?_ _ | refine below_setRow ?_ (by first | omega | (simp; done) | (simp; omega)) _ | refine bl_drewN ?_ _ | refine Below.drew ?_ | (refine bl_tr ?_ (by assumption))))) (fun hS => ?_); clear hK K; (try simp only [Act.put, List.getElem_toArray, List.getElem_cons_zero, List.getElem_cons_succ, List.setIfInBounds_toArray, List.set_cons_zero, List.set_cons_succ]); refine wpAnyH_done (by kernel_rfl) ?_ _; rotate_left 1; go_simp; refine hK.out _ _ (by (repeat (with_reducible first | exact Below.refl _ _ | (refine bl_set ?_ (by first | omega | (simp; done) | (simp; omega)) _) | refine bl_gr ?_ _ | refine bl_al ?_ _ | refine below_setRow ?_ (by first | omega | (simp; done) | (simp; omega)) _ | refine bl_drewN ?_ _ | refine Below.drew ?_ | (refine bl_tr ?_ (by assumption))))) (fun hS => ?_); clear hK K; (try simp only [Act.put, List.getElem_toArray, List.getElem_cons_zero, List.getElem_cons_succ, List.setIfInBounds_toArray, List.set_cons_zero, List.set_cons_succ]); refine wpAnyH_ready (rs := [10]) (by kernel_rfl) (by simp) ?_; refine AllReadyH.cons rfl (fun K hK => ?_) AllReadyH.nil; go_simp; ((go_at_call 26; refine (BH.out _).mono ?_; rintro e w' ⟨rfl, rfl⟩)); refine hK.out _ _ (by (repeat (with_reducible first | exact Below.refl _ _ | (refine bl_set ?_ (by first | omega | (simp; done) | (simp; omega)) _) | refine bl_gr ?_ _ | refine bl_al ?_ _ | refine below_setRow ?_ (by first | omega | (simp; done) | (simp; omega)) _ | refine bl_drewN ?_ _ | refine Below.drew ?_ | (refine bl_tr ?_ (by assumption))))) (fun hS => ?_); clear hK K; (try simp only [Act.put, List.getElem_toArray, List.getElem_cons_zero, List.getElem_cons_succ, List.setIfInBounds_toArray, List.set_cons_zero, List.set_cons_succ]); refine wpAnyH_ready (rs := [12]) (by kernel_rfl) (by simp) ?_; refine AllReadyH.cons rfl (fun K hK => ?_) AllReadyH.nil; go_simp; refine hK.out _ _ (by (repeat (with_reducible first | exact Below.refl _ _ | (refine bl_set ?_ (by first | omega | (simp; done) | (simp; omega)) _) | refine bl_gr ?_ _ | refine bl_al ?_ _ | refine below_setRow ?_ (by first | omega | (simp; done) | (simp; omega)) _ | refine bl_drewN ?_ _ | refine Below.drew ?_ | (refine bl_tr ?_ (by assumption))))) (fun hS => ?_); clear hK K; (try simp only [Act.put, List.getElem_toArray, List.getElem_cons_zero, List.getElem_cons_succ, List.setIfInBounds_toArray, List.set_cons_zero, List.set_cons_succ]); refine wpAnyH_done (by kernel_rfl) ?_ _)
                all_goals
                  go_simp
                  go_upto_region 22 with fail
                  refine wpc_world (fun V => V.heap[X.heap.size]? = some (.cells #[.int .i64 (behM x.op v)] 3) ∧ Below X.heap.size X V) ⟨heap_alloc_new _ _, by (repeat (with_reducible first | exact Below.refl _ _ | (refine bl_set ?_ (by first | omega | (simp; done) | (simp; omega)) _) | refine bl_gr ?_ _ | refine bl_al ?_ _ | refine below_setRow ?_ (by first | omega | (simp; done) | (simp; omega)) _ | refine bl_drewN ?_ _ | refine Below.drew ?_ | (refine bl_tr ?_ (by assumption))))⟩ ?_
                  rintro V ⟨v0, vb⟩
                  have sV := vb.size
                  have lV := (Array.getElem?_eq_some_iff.1 v0).1
                  have e11 : V.cell? ⟨X.heap.size, 0, none⟩ = some (.int .i64 (behM x.op v)) := by rw [cell_of_row V _ _ _ _ _ v0]; rfl
                  have h10 := (vb.block _ lX).trans XX.out.1
                  have wb := bl_tr XX.out.2 vb
                  have tw := (wb.block _ l7).trans GG.out.1.tw
                  have e7 : V.cell? ⟨b7, 0, none⟩ = some (.bool two) := by rw [cell_of_row V _ _ _ _ _ tw]; rfl
                  have f7 := frozen_of_row V b7 0 _ _ tw
                  have m7 := (Array.getElem?_eq_some_iff.1 tw).1
                  have hco := (wb.block _ lco).trans GG.out.2.2.2.1
                  obtain ⟨⟨a0, a1, a2, a3, a4, a5, a6, a7⟩, -⟩ := cells8 hco
                  have mco := (Array.getElem?_eq_some_iff.1 hco).1
                  have e10 : V.cell? ⟨wr.heap.size, 0, none⟩ = some (.int .i64 (a : Int)) := by rw [cell_of_row V _ _ _ _ _ h10]; rfl
                  have m10 := (Array.getElem?_eq_some_iff.1 h10).1
                  have VV := Lib.hid (And.intro v0 (And.intro h10 (And.intro wb (And.intro hco vb))))
                  have FIN6 := Lib.hid (fun (h : ¬ DepOk (E3 c) (nxC c)) (Z : World) (hZ : Below w.heap.size w Z) => (⟨.slice none 0 0, by rw [R6.out h], by rw [R6v.out h]; exact .nil_, hZ⟩ : RetD w c (.returned (.tuple #[.slice none 0 0, .int .i64 6])) Z))
                  have LV := Lib.hid (GG.out.2.2.2.2.1.trans (wb.mono GG.out.2.2.2.2.1.size))
                  clear v0 vb h10 wb tw hco
                  by_cases hneg : behM x.op v < 0
                  · have ND := Lib.hid (BD.out hneg)
                    have lb7 := Lib.hid (show w.heap.size ≤ b7 from Nat.le_of_lt LB.out.2.2)
                    go_wp2
                    (try rw [Exit.noGoto_ret])
                    go_ret2
                    exact FIN6.out ND.out _ (bl_set LV.out lb7.out _)
                  · cases two
                    · have NX := Lib.hid (NE.out (by omega))
                      have hx := HV.out.2.2.1
                      have hi := HV.out.2.2.2
                      have sw := LV.out.size
                      have lx := LX.out
                      have lbb := LB.out
                      have hgw := GG.out.2.1
                      have lgw := GG.out.2.2.2.2.2
                      have KB := Lib.hid (show ∀ k, k < w.heap.size → KD bo b6 b7 g V.heap.size k from fun k hk => ⟨by omega, by omega, by omega, by omega, by omega⟩)
                      have k8 : KD bo b6 b7 g V.heap.size b8 := ⟨by omega, N8.out.1, N8.out.2.1, N8.out.2.2.1, N8.out.2.2.2⟩
                      have k10 : KD bo b6 b7 g V.heap.size wr.heap.size := ⟨by omega, by omega, by omega, by omega, by omega⟩
                      have k11 : KD bo b6 b7 g V.heap.size X.heap.size := ⟨by omega, by omega, by omega, by omega, by omega⟩
                      have S2 : St2 c.ins.length b4 bo b6 b7 g V.heap.size b8 wr.heap.size X.heap.size a v (behM x.op v) ⟨o, l, false⟩ V := ⟨GG.out.1.fwd VV.out.2.2.1, (VV.out.2.2.1.block _ l8).trans GG.out.2.2.1, VV.out.2.1, VV.out.1, HV.out.1⟩
                      have AL := Lib.hid (fun W (hb : Below V.heap.size V W) => along_any c (.slice (some ⟨b, off, none⟩) c.ins.length c1) (.slice A2 c.pl.length c2) (.slice A3 c.ks.length c3) (.slice A4 c.gs.length c4) w H.out a x hx (insC_op hi) (fun j hj => (insC_j hi j hj).1) (fun y hy => (gdM_ok (rightC_gs RD.out.1 hy)).2.2.2.1)
                        (f2 v (behM x.op v)) (St2 c.ins.length b4 bo b6 b7 g V.heap.size b8 wr.heap.size X.heap.size a v (behM x.op v)) (KD bo b6 b7 g V.heap.size) KB.out (fun s W W' h hb => h.below hb) 28 #[.pointer (some ⟨b8, 0, none⟩), .pointer (some ⟨b4, 0, none⟩), .pointer (some ⟨wr.heap.size, 0, none⟩), .pointer (some ⟨X.heap.size, 0, none⟩)] (fun args W => by go_simp)
                        (fun s t gg W ht hS => deep2_any c.ins.length b4 bo b6 b7 g V.heap.size b8 wr.heap.size X.heap.size a v (behM x.op v) HV.out.2.1 (by omega) k8 k10 k11 s t gg (by
                          have hlt2 := sc_lt RD.out.1 hx t
                          rcases List.mem_append.1 ht with h | h
                          · obtain ⟨t', ht', e⟩ := List.mem_map.1 h
                            cases e
                            exact hlt2 (List.mem_append_left _ ht')
                          · obtain ⟨t', ht', e⟩ := List.mem_map.1 h
                            cases e
                            exact hlt2 (List.mem_append_right _ ht')) W hS) ⟨o, l, false⟩ W (S2.below hb) (bl_tr LV.out hb))
                      have WL5 := Lib.hid (show LWL (E3 c) (nxC c) c.ins.length kp ((qC c a x).foldl (f2 v (behM x.op v)) ⟨o, l, false⟩) by
                        have := NX.out
                        rw [nxC_at hx] at this
                        rw [f2_all, KP.out]
                        exact this)
                      have GW := Lib.hid (show w.heap.size < g ∧ w.heap.size < V.heap.size from ⟨hgw, by omega⟩)
                      clear hx hi sw lx lbb hgw lgw k8 k10 k11 S2 NX
                      go_wp2_with (go_at_call 27; go_loud (refine (AL.out _ (Below.refl _ _)).mono ?_; rintro e w5 ⟨rfl, s5, k5⟩; have G5 := Lib.hid (And.intro s5 k5); clear s5 k5))
                      go_roundw
                      case rel => exact ⟨kp, _, by first | with_reducible rfl | (rw [ek1]; done) | (rw [KP.out]; go_num), WL5.out, G5.out.1.st.re GW.out.1 GW.out.2, G5.out.1.c8, G5.out.2.blk _ _ VV.out.2.2.2.1 (.inr rfl), LV.out.trans (G5.out.2.below LV.out.size KB.out)⟩
                      case measure => (first | ((try rw [ek1]); exact meas_c KP.out LQ.out) | (clear ek1; have := LQ.out; simp only [intOf]; omega))
                    · have ND := Lib.hid (TW.out rfl)
                      go_wp2
                      (try rw [Exit.noGoto_ret])
                      go_ret2
                      exact FIN6.out ND.out _ LV.out
              · have hq : q = l.length := by have := hW.le; dsimp only at this; omega
                have q2 : ¬ (q : Int) < (l.length : Int) := by omega
                have lo := Lib.hid hlo
                have f7 := frozen_of_row wr b7 0 _ _ hS.tw
                cases two
                · have DN := Lib.hid (LWL.done (s := ⟨o, l, false⟩) (hq ▸ hW) rfl)
                  have IZ := Lib.hid (intsB hS.ob hS.len HN.out.1)
                  have RS := Lib.hid (R0.out DN.out.1)
                  have RV := Lib.hid ((R0v.out DN.out.1).trans DN.out.2.symm)
                  clear hW hS hco hlo lb own hq hlt h8 hg0 hgg hgb
                  go_wp2
                  (try rw [Exit.noGoto_ret])
                  go_ret2
                  exact ⟨.slice (some ⟨bo, 0, none⟩) c.ins.length c.ins.length, by rw [RS.out]; rfl, by rw [RV.out]; exact IZ.out, lo.out⟩
                · have ND := hW.two rfl
                  have RS := Lib.hid (R6.out ND)
                  have RV := Lib.hid (R6v.out ND)
                  clear hW hS hco hlo lb own hq hlt h8 hg0 hgg hgb ND
                  go_wp2
                  (try rw [Exit.noGoto_ret])
                  go_ret2
                  exact ⟨.slice none 0 0, by rw [RS.out]; rfl, by rw [RV.out]; exact .nil_, lo.out⟩
end Go.Proofs.Ytcmpgohpncnagaa
