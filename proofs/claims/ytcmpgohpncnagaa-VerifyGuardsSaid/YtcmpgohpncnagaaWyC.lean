/- verify.Reaches. -/
import Derived.Test.YtcmpgohpncnagaaWyB
namespace Go.Proofs.Ytcmpgohpncnagaa
set_option linter.all false
open Go.ChangeShapes Go.WideShapes Go.ChangeAt Go.RowKit Go.Sort Go.Deep Go.Shelf

/-! ### a code object's graph -/
def qC (c : CodeD) (a : Nat) (x : InsD) : List (Nat × Bool) := (wlC c a x).map (fun t => (t, false)) ++ (glC c.gs a).map (fun t => (t, true))
/-- b is behind a; g: over a handler -/
def E3 (c : CodeD) (a b : Nat) (g : Bool) : Prop := ∃ x, c.ins[a]? = some x ∧ (b, g) ∈ qC c a x
abbrev EC (c : CodeD) : Nat → Nat → Prop := Eg (E3 c)
theorem E3_at {c : CodeD} {a : Nat} {x : InsD} (hx : c.ins[a]? = some x) (b : Nat) (g : Bool) : E3 c a b g ↔ (b, g) ∈ qC c a x :=
  ⟨fun ⟨y, hy, h⟩ => by rw [hx] at hy; cases hy; exact h, fun h => ⟨x, hx, h⟩⟩
theorem EC_at {c : CodeD} {a : Nat} {x : InsD} (hx : c.ins[a]? = some x) (b : Nat) : EC c a b ↔ b ∈ wlC c a x ++ glC c.gs a := by
  unfold EC Eg
  constructor
  · rintro ⟨g, h⟩
    rw [E3_at hx] at h
    rcases List.mem_append.1 h with h | h
    · obtain ⟨t, ht, e⟩ := List.mem_map.1 h
      cases e
      exact List.mem_append_left _ ht
    · obtain ⟨t, ht, e⟩ := List.mem_map.1 h
      cases e
      exact List.mem_append_right _ ht
  · intro h
    rcases List.mem_append.1 h with h | h
    · exact ⟨false, (E3_at hx _ _).2 (List.mem_append_left _ (List.mem_map.2 ⟨b, h, rfl⟩))⟩
    · exact ⟨true, (E3_at hx _ _).2 (List.mem_append_right _ (List.mem_map.2 ⟨b, h, rfl⟩))⟩
theorem rightC_ins {c : CodeD} (h : rightC c = true) {x : InsD} (hx : x ∈ c.ins) : insC c x = true := by
  unfold rightC at h
  simp only [Bool.and_eq_true, List.all_eq_true] at h
  exact h.2.2.2.1.2 x hx
theorem rightC_gs {c : CodeD} (h : rightC c = true) {x : GrdD} (hx : x ∈ c.gs) : gdM c x = true := by
  unfold rightC at h
  simp only [Bool.and_eq_true, List.all_eq_true] at h
  exact h.2.2.2.2.2 x hx
theorem rightC_rg {c : CodeD} (h : rightC c = true) : 0 ≤ c.rg ∧ c.rg ≤ 4096 := by
  unfold rightC hdC inB at h
  simp only [Bool.and_eq_true, decide_eq_true_eq] at h
  exact h.1.2.2.1
theorem rightC_len {c : CodeD} (h : rightC c = true) : c.ins.length ≤ 65536 ∧ c.gs.length ≤ 65536 := by
  unfold rightC at h
  simp only [Bool.and_eq_true, decide_eq_true_eq] at h
  exact ⟨h.2.2.2.1.1, h.2.2.2.2.1⟩
theorem insC_op {c : CodeD} {x : InsD} (h : insC c x = true) : 0 ≤ x.op ∧ x.op < 55 := by
  unfold insC at h
  simp only [Bool.and_eq_true, decide_eq_true_eq] at h
  exact h.1
theorem insC_j {c : CodeD} {x : InsD} (h : insC c x = true) (j : Nat) (hj : sgn x.op j = 106) : 0 ≤ opd x j ∧ opd x j < (c.ins.length : Int) := by
  have hop := insC_op h
  obtain ⟨b0, b1, b2, hp, s0, s1, s2, -⟩ := part_three x.op hop
  have in_ : ∀ n, prtC c 106 n = true → 0 ≤ n ∧ n < (c.ins.length : Int) := fun n hn => by
    simp [prtC, inB] at hn
    omega
  unfold insC at h
  simp only [Bool.and_eq_true] at h
  match j with
  | 0 => exact in_ _ (by rw [← hj]; exact h.2.1)
  | 1 => exact in_ _ (by rw [← hj]; exact h.2.2.1)
  | 2 => exact in_ _ (by rw [← hj]; exact h.2.2.2)
  | j + 3 =>
    unfold sgn at hj
    rw [hp] at hj
    simp at hj
theorem gdM_ok {c : CodeD} {g : GrdD} (h : gdM c g = true) : 0 ≤ g.f ∧ g.f < g.t ∧ g.t ≤ (c.ins.length : Int) ∧ 0 ≤ g.g ∧ g.g < (c.ins.length : Int) ∧ 0 ≤ g.r ∧ g.r < c.rg := by
  unfold gdM at h
  simp [prtC, inB] at h
  omega
theorem wlC_lt {c : CodeD} {a : Nat} {x : InsD} (h : insC c x = true) {t : Nat} (ht : t ∈ wlC c a x) : t < c.ins.length := by
  rcases List.mem_append.1 ht with ht | ht
  · unfold flC at ht
    split at ht
    · rename_i e
      simp only [Bool.and_eq_true, decide_eq_true_eq] at e
      rw [List.mem_singleton.1 ht]
      exact e.2
    · simp at ht
  · obtain ⟨j, _, hj⟩ := List.mem_flatMap.1 ht
    unfold joC at hj
    split at hj
    · rename_i e
      have := insC_j h j e
      rw [List.mem_singleton.1 hj]
      omega
    · simp at hj
theorem glC_lt {c : CodeD} (h : rightC c = true) {a t : Nat} (ht : t ∈ glC c.gs a) : t < c.ins.length := by
  obtain ⟨g, hg, h1⟩ := List.mem_flatMap.1 ht
  have hk := gdM_ok (rightC_gs h hg)
  unfold goC at h1
  split at h1
  · rw [List.mem_singleton.1 h1]
    omega
  · simp at h1
theorem sc_lt {c : CodeD} (h : rightC c = true) {a : Nat} {x : InsD} (hx : c.ins[a]? = some x) : ∀ t ∈ wlC c a x ++ glC c.gs a, t < c.ins.length := fun t ht => by
  rcases List.mem_append.1 ht with ht | ht
  · exact wlC_lt (rightC_ins h (List.mem_of_getElem? hx)) ht
  · exact glC_lt h ht
/-- what is reachable; nothing if the code is not valid -/
noncomputable def reachC (c : CodeD) : List Bool := if rightC c then rchL (EC c) c.ins.length else []
abbrev enB (b : Bool) : List Value := [.bool b]
abbrev IsB (w : World) (v : Value) (l : List Bool) : Prop := SlOf w 1 enB v l
def RetB (w : World) (l : List Bool) (e : Ending) (w' : World) : Prop := ∃ v, e = .returned v ∧ IsB w' v l ∧ Below w.heap.size w w'
theorem make_bools (n : Nat) (hn : n ≤ 1000000) (w : World) : (Instr.makeSlice 30 (.int .i64 (n : Int)) (.int .i64 (n : Int))).run Try.prog w = .ok (.slice (some ⟨w.heap.size, 0, none⟩) n n) (w.alloc (.cells ((List.replicate n false).map Value.bool).toArray 4)) := by
  have h : (Try.prog.info? 4).map (fun i => (i.zero, i.size, i.bytes)) = some (some (.bool false), 1, 1) := by kernel_rfl
  obtain ⟨i, hi, hzz⟩ := Option.map_eq_some_iff.1 h
  simp only [Prod.mk.injEq] at hzz
  obtain ⟨hz, hs, hb⟩ := hzz
  have := run_make (P := Try.prog) w 30 4 i _ Try.underlying30 hi hz .i64 .i64 n n (by omega) (Int.le_refl _) (by rw [hb]; omega) (by omega)
  have e : madeCells #[Value.bool false] (n * 1) = ((List.replicate n false).map Value.bool).toArray := by
    unfold madeCells
    apply Array.ext
    · simp
    · intro j h1 h2
      simp [Nat.mod_one]
  rw [← e]
  simpa [hs, Value.cells] using this

theorem StR.start {n bo b3 : Nat} {Y : World} (h1 : Y.heap[bo]? = some (.cells ((List.replicate n false).map Value.bool).toArray 4)) (h2 : Y.heap[b3]? = some (.cells #[.slice (some ⟨bo, 0, none⟩) n n] 30)) (hn : 0 < n ∧ n ≤ 65536) :
    StR n b3 bo (Y.heap.size + 1) Y.heap.size (Y.heap.size + 2) ((List.replicate n false).set 0 true, [0]) (((Y.setCell ⟨bo, 0, none⟩ (.bool true)).alloc (.cells #[.int .i64 0] 3)).alloc (.cells #[.slice (some ⟨Y.heap.size, 0, none⟩) 1 1] 32)) := by
  have lt3 := (Array.getElem?_eq_some_iff.1 h2).1
  have lto := (Array.getElem?_eq_some_iff.1 h1).1
  have n1 : bo ≠ b3 := fun e => by subst e; exact cells_ne h1 h2 (by decide)
  have hb := (WL.start (E := fun _ _ => False) hn.1).bas.cnt
  dsimp only at hb
  have e2 : ((Y.setCell ⟨bo, 0, none⟩ (.bool true)).alloc (.cells #[.int .i64 0] 3)).heap.size = Y.heap.size + 1 := by simp
  have old : ∀ k, k < Y.heap.size → (((Y.setCell ⟨bo, 0, none⟩ (.bool true)).alloc (.cells #[.int .i64 0] 3)).alloc (.cells #[.slice (some ⟨Y.heap.size, 0, none⟩) 1 1] 32)).heap[k]? = (Y.setCell ⟨bo, 0, none⟩ (.bool true)).heap[k]? := fun k hk => by
    rw [heap_alloc_old _ _ (by rw [e2]; omega), heap_alloc_old _ _ (by simpa using hk)]
  have g0 : (((Y.setCell ⟨bo, 0, none⟩ (.bool true)).alloc (.cells #[.int .i64 0] 3)).alloc (.cells #[.slice (some ⟨Y.heap.size, 0, none⟩) 1 1] 32)).heap[Y.heap.size]? = some (.cells #[.int .i64 0] 3) := by
    rw [heap_alloc_old _ _ (by rw [e2]; omega)]
    exact hp_put _ _ _ _ _
  have b4 : (((Y.setCell ⟨bo, 0, none⟩ (.bool true)).alloc (.cells #[.int .i64 0] 3)).alloc (.cells #[.slice (some ⟨Y.heap.size, 0, none⟩) 1 1] 32)).heap[Y.heap.size + 1]? = some (.cells #[.slice (some ⟨Y.heap.size, 0, none⟩) 1 1] 32) := by
    have := heap_alloc_new ((Y.setCell ⟨bo, 0, none⟩ (.bool true)).alloc (.cells #[.int .i64 0] 3)) (.cells #[.slice (some ⟨Y.heap.size, 0, none⟩) 1 1] 32)
    rwa [e2] at this
  refine ⟨?_, ?_, ⟨Y.heap.size, 1, b4, ?_, .inl rfl⟩, by simp, by dsimp only; omega, hn.2, ⟨by omega, by omega, by omega⟩, by simp⟩
  · rw [old _ lt3, heap_setCell_other _ _ _ _ (by exact fun e => n1 e.symm)]
    exact h2
  · rw [old _ lto, heap_setCell_same _ _ _ _ _ _ h1]
    congr 2
    apply Array.ext'
    simp [List.map_set]
  · exact ⟨rfl, .inr ⟨Y.heap.size, 1, _, rfl, Nat.zero_le _, g0, Nat.le_refl _, by unfold maxLen; simp, rfl, rfl⟩⟩
theorem StR.isB {n b3 bo b4 g0 sz : Nat} {s : List Bool × List Nat} {W : World} (h : StR n b3 bo b4 g0 sz s W) : IsB W (.slice (some ⟨bo, 0, none⟩) n n) s.1 := by
  have hl := h.len
  have hn := h.hn
  refine ⟨by rw [hl]; unfold maxLen; omega, some ⟨bo, 0, none⟩, n, by rw [hl], by omega, fun _ => ⟨bo, 0, rfl, (Array.getElem?_eq_some_iff.1 h.ob).1, fun i x hi j u hj => ?_⟩⟩
  have hj0 : j = 0 := by
    have := (List.getElem?_eq_some_iff.1 hj).1
    simp at this
    exact this
  subst hj0
  simp at hj
  subst hj
  rw [cell_of_row W bo _ _ _ _ h.ob]
  simp [hi]
/-- the worklist's loop -/
def LpR (c : CodeD) (w : World) (co : Obj) (b3 bo b4 g0 sz q : Nat) (s : List Bool × List Nat) (Z : World) : Prop := WL (EC c) c.ins.length q s ∧ StR c.ins.length b3 bo b4 g0 sz s Z ∧ Z.heap[w.heap.size]? = some co ∧ Below w.heap.size w Z
set_option maxRecDepth 100000 in
set_option maxHeartbeats 8000000 in
theorem reaches_any (c : CodeD) (i p k g : Value) (hc : c.ok) (w : World) (h : Cd4 w i p k g c) :
    Calls Try.prog 10 #[codeV c.nm c.kd c.ln c.rg i p k g] w (RetB w (reachC c)) := by
  obtain ⟨A1, c1, A2, c2, A3, c3, A4, c4, rfl, rfl, rfl, rfl⟩ := h.forms
  have H := Lib.hid h
  have RT := Lib.hid (fun W hW => rightC_any c (.slice A1 c.ins.length c1) (.slice A2 c.pl.length c2) (.slice A3 c.ks.length c3) (.slice A4 c.gs.length c4) hc W (h.below hW) : ∀ W, Below w.heap.size w W → _)
  clear h hc
  cases hr : rightC c
  · have RS := Lib.hid (show reachC c = [] by unfold reachC; rw [hr]; rfl)
    rw [hr] at RT
    clear hr
    go_enter Try.func10, Try.ntmps10
    go_wp2_with (go_at_call 18; refine (callGr (RT.out _ (by (repeat (with_reducible first | exact Below.refl _ _ | (refine bl_set ?_ (by first | omega | (simp; done) | (simp; omega)) _) | refine bl_gr ?_ _ | refine bl_al ?_ _ | refine below_setRow ?_ (by first | omega | (simp; done) | (simp; omega)) _ | refine bl_drewN ?_ _ | refine Below.drew ?_ | (refine bl_tr ?_ (by assumption))))))).mono ?_; rintro e w' ⟨pp, rfl, rfl⟩)
    go_ret
    exact ⟨_, rfl, by rw [RS.out]; exact .nil_, by (repeat (with_reducible first | exact Below.refl _ _ | (refine bl_set ?_ (by first | omega | (simp; done) | (simp; omega)) _) | refine bl_gr ?_ _ | refine bl_al ?_ _ | refine below_setRow ?_ (by first | omega | (simp; done) | (simp; omega)) _ | refine bl_drewN ?_ _ | refine Below.drew ?_ | (refine bl_tr ?_ (by assumption))))⟩
  · by_cases h0 : c.ins.length = 0
    · have RS := Lib.hid (show reachC c = [] by unfold reachC; rw [hr, h0]; rfl)
      rw [hr] at RT
      rw [h0]
      clear hr
      go_enter Try.func10, Try.ntmps10
      go_wp2_with (go_at_call 18; refine (callGr ((by have := RT.out; rw [h0] at this; exact this _ (by (repeat (with_reducible first | exact Below.refl _ _ | (refine bl_set ?_ (by first | omega | (simp; done) | (simp; omega)) _) | refine bl_gr ?_ _ | refine bl_al ?_ _ | refine below_setRow ?_ (by first | omega | (simp; done) | (simp; omega)) _ | refine bl_drewN ?_ _ | refine Below.drew ?_ | (refine bl_tr ?_ (by assumption)))))))).mono ?_; rintro e w' ⟨pp, rfl, rfl⟩)
      go_ret
      exact ⟨_, rfl, by rw [RS.out]; exact .nil_, by (repeat (with_reducible first | exact Below.refl _ _ | (refine bl_set ?_ (by first | omega | (simp; done) | (simp; omega)) _) | refine bl_gr ?_ _ | refine bl_al ?_ _ | refine below_setRow ?_ (by first | omega | (simp; done) | (simp; omega)) _ | refine bl_drewN ?_ _ | refine Below.drew ?_ | (refine bl_tr ?_ (by assumption))))⟩
    · have RS := Lib.hid (show reachC c = rchL (EC c) c.ins.length by unfold reachC; rw [hr]; rfl)
      have R1 := Lib.hid hr
      have hn := rightC_len hr
      have MB := fun W => make_bools c.ins.length (by omega) W
      rw [hr] at RT
      have q0 : ¬ ((c.ins.length : Int) = 0) := by omega
      have q1 : ((c.ins.length : Int) == 0) = false := by simpa using h0
      have HN := Lib.hid (And.intro hn (Nat.pos_of_ne_zero h0))
      clear hr h0 hn
      go_enter Try.func10, Try.ntmps10
      go_upto_region 3 with (go_at_call 18; refine (callGr (RT.out _ (by (repeat (with_reducible first | exact Below.refl _ _ | (refine bl_set ?_ (by first | omega | (simp; done) | (simp; omega)) _) | refine bl_gr ?_ _ | refine bl_al ?_ _ | refine below_setRow ?_ (by first | omega | (simp; done) | (simp; omega)) _ | refine bl_drewN ?_ _ | refine Below.drew ?_ | (refine bl_tr ?_ (by assumption))))))).mono ?_; rintro e w' ⟨pp, rfl, rfl⟩)
      refine wpc_world (fun X => X.heap[w.heap.size]? = some (codeO c.nm c.kd c.ln c.rg (.slice A1 c.ins.length c1) (.slice A2 c.pl.length c2) (.slice A3 c.ks.length c3) (.slice A4 c.gs.length c4)) ∧ Below w.heap.size w X) ⟨((below_gr _ _).block _ (by simp)).trans (heap_alloc_new _ _), by (repeat (with_reducible first | exact Below.refl _ _ | (refine bl_set ?_ (by first | omega | (simp; done) | (simp; omega)) _) | refine bl_gr ?_ _ | refine bl_al ?_ _ | refine below_setRow ?_ (by first | omega | (simp; done) | (simp; omega)) _ | refine bl_drewN ?_ _ | refine Below.drew ?_ | (refine bl_tr ?_ (by assumption))))⟩ ?_
      rintro X ⟨j0, jb⟩
      have JJ := Lib.hid (And.intro j0 jb)
      obtain ⟨⟨a0, a1, a2, a3, a4, a5, a6, a7⟩, -⟩ := cells8 j0
      have l0 := (Array.getElem?_eq_some_iff.1 j0).1
      clear j0 jb
      go_upto_region 4 with fail
      refine wpc_world (fun Y => Y.heap[X.heap.size]? = some (.cells ((List.replicate c.ins.length false).map Value.bool).toArray 4) ∧ Y.heap[X.heap.size + 1]? = some (.cells #[.slice (some ⟨X.heap.size, 0, none⟩) c.ins.length c.ins.length] 30) ∧ Below X.heap.size X Y) ⟨?_, ?_, by (repeat (with_reducible first | exact Below.refl _ _ | (refine bl_set ?_ (by first | omega | (simp; done) | (simp; omega)) _) | refine bl_gr ?_ _ | refine bl_al ?_ _ | refine below_setRow ?_ (by first | omega | (simp; done) | (simp; omega)) _ | refine bl_drewN ?_ _ | refine Below.drew ?_ | (refine bl_tr ?_ (by assumption))))⟩ ?_
      · rw [heap_alloc_old _ _ (by simp), List.map_replicate, List.toArray_replicate]
        exact heap_alloc_new _ _
      · have := heap_alloc_new (X.alloc (.cells ((List.replicate c.ins.length false).map Value.bool).toArray 4)) (.cells #[.slice (some ⟨X.heap.size, 0, none⟩) c.ins.length c.ins.length] 30)
        simpa using this
      rintro Y ⟨y0, y1, yb⟩
      have YY := Lib.hid (And.intro y0 (And.intro y1 yb))
      have cb3 : Y.cell? ⟨X.heap.size + 1, 0, none⟩ = some (.slice (some ⟨X.heap.size, 0, none⟩) c.ins.length c.ins.length) := by rw [cell_of_row Y _ _ _ _ _ y1]; rfl
      have cbo : Y.cell? ⟨X.heap.size, 0, none⟩ = some (.bool false) := by rw [cell_of_row Y _ _ _ _ _ y0]; simp [HN.out.2]
      have fbo := frozen_of_row Y X.heap.size 0 _ _ y0
      have lb3 := (Array.getElem?_eq_some_iff.1 y1).1
      have lbo := (Array.getElem?_eq_some_iff.1 y0).1
      have q2 : ¬ ((c.ins.length : Int) ≤ 0) := by have := HN.out.2; omega
      have q3 : (0 : Int) < (c.ins.length : Int) := by have := HN.out.2; omega
      clear y0 y1 yb a0 a1 a2 a3 a4 a5 a6 a7
      go_upto_region 6 with fail
      refine wpc_world (LpR c w (codeO c.nm c.kd c.ln c.rg (.slice A1 c.ins.length c1) (.slice A2 c.pl.length c2) (.slice A3 c.ks.length c3) (.slice A4 c.gs.length c4)) (X.heap.size + 1) X.heap.size (Y.heap.size + 1) Y.heap.size (Y.heap.size + 2) 0 ((List.replicate c.ins.length false).set 0 true, [0])) ⟨WL.start HN.out.2, StR.start YY.out.1 YY.out.2.1 ⟨HN.out.2, HN.out.1.1⟩, ?_, ?_⟩ ?_
      · have e2 : ((Y.setCell ⟨X.heap.size, 0, none⟩ (.bool true)).alloc (.cells #[.int .i64 0] 3)).heap.size = Y.heap.size + 1 := by simp
        rw [heap_alloc_old _ _ (by rw [e2]; omega), heap_alloc_old _ _ (by simp; omega), heap_setCell_other _ _ _ _ (by dsimp only; omega), YY.out.2.2.block _ l0]
        exact JJ.out.1
      · exact bl_tr JJ.out.2 (bl_al (bl_al (bl_set YY.out.2.2 (by simp) _) _) _)
      intro Z hZ
      have ZZ := Lib.hid hZ
      have lXY : X.heap.size < Y.heap.size := by omega
      have KB := Lib.hid (show ∀ k, k < w.heap.size → KR X.heap.size (Y.heap.size + 1) Y.heap.size (Y.heap.size + 2) k from fun k hk => ⟨by omega, by omega, by omega, by omega⟩)
      generalize X.heap.size = bo at *
      generalize Y.heap.size = g0 at *
      clear hZ cb3 cbo fbo lb3 lbo YY JJ l0 lXY MB q0 q1 q2 q3 RT
      clear X Y
      go_wp2
      go_loopw [5] (fun i Z => ∃ q s, i = .int .i64 ((q : Nat) : Int) ∧ LpR c w (codeO c.nm c.kd c.ln c.rg (.slice A1 c.ins.length c1) (.slice A2 c.pl.length c2) (.slice A3 c.ks.length c3) (.slice A4 c.gs.length c4)) (bo + 1) bo (g0 + 1) g0 (g0 + 2) q s Z) (fun i _ => c.ins.length - (intOf i).toNat)
      case atStart => exact ⟨0, _, rfl, ZZ.out⟩
      case round =>
        clear ZZ Z
        obtain ⟨q, ⟨o, l⟩, rfl, hL⟩ := hrel
        have LL := Lib.hid hL
        obtain ⟨hW, hS, hco, hlo⟩ := hL
        obtain ⟨g, cap, lb, own, -⟩ := hS.ls
        dsimp only at lb own
        have d4 : wr.cell? ⟨g0 + 1, 0, none⟩ = some (.slice (some ⟨g, 0, none⟩) l.length cap) := by rw [cell_of_row wr _ _ _ _ _ lb]; rfl
        have d3 : wr.cell? ⟨bo + 1, 0, none⟩ = some (.slice (some ⟨bo, 0, none⟩) c.ins.length c.ins.length) := by rw [cell_of_row wr _ _ _ _ _ hS.hd]; rfl
        obtain ⟨⟨a0, a1, a2, a3, a4, a5, a6, a7⟩, -⟩ := cells8 hco
        have l0 := (Array.getElem?_eq_some_iff.1 hco).1
        have l3 := (Array.getElem?_eq_some_iff.1 hS.hd).1
        have l4 := (Array.getElem?_eq_some_iff.1 lb).1
        by_cases hlt : q < l.length
        · obtain ⟨cur, hgc, -, oc⟩ := own_cells own
          have lg := (Array.getElem?_eq_some_iff.1 hgc).1
          obtain ⟨a, ha⟩ : ∃ a, l[q]? = some a := ⟨_, List.getElem?_eq_getElem hlt⟩
          have ca := oc q a ha
          have han := hW.bas.lt (List.mem_of_getElem? ha)
          obtain ⟨x, hx⟩ : ∃ x, c.ins[a]? = some x := ⟨_, List.getElem?_eq_getElem han⟩
          have hi := rightC_ins R1.out (List.mem_of_getElem? hx)
          have WY := Lib.hid (fun W (hb : Below wr.heap.size wr W) => ways_any c (.slice A1 c.ins.length c1) (.slice A2 c.pl.length c2) (.slice A3 c.ks.length c3) (.slice A4 c.gs.length c4) w H.out a x hx (insC_op hi) (fun j hj => (insC_j hi j hj).1) (fun y hy => (gdM_ok (rightC_gs R1.out hy)).2.2.2.1)
            vis (StR c.ins.length (bo + 1) bo (g0 + 1) g0 (g0 + 2)) (KR bo (g0 + 1) g0 (g0 + 2)) KB.out (fun s W W' h hb => h.below hb) 21 #[.pointer (some ⟨bo + 1, 0, none⟩), .pointer (some ⟨g0 + 1, 0, none⟩)] (fun args W => by go_simp)
            (fun s t W ht hS => reaches1_any c.ins.length (bo + 1) bo (g0 + 1) g0 (g0 + 2) s t (sc_lt R1.out hx t ht) W hS) (o, l) W (hS.below hb) (bl_tr hlo hb))
          have NX := Lib.hid (hW.next ha (EC_at hx) (sc_lt R1.out hx))
          have hlen := hW.len
          dsimp only at hlen
          have q2 : (q : Int) < (l.length : Int) := by omega
          have q3 : ¬ (q : Int) < 0 := by omega
          have LQ := Lib.hid (show q < c.ins.length by omega)
          obtain ⟨kp, hkp, ek1⟩ : ∃ kp : Nat, kp = q + 1 ∧ wrap64 ((q : Int) + 1) = (kp : Int) := ⟨q + 1, rfl, w64c rfl (by have := HN.out.1.1; omega)⟩
          have KP := Lib.hid hkp
          have LO := Lib.hid (And.intro hlo hco)
          clear hW hS hco hlo lb own hgc oc ha han hx hi hlen hlt hkp
          go_upto_region 9 with fail
          ((first | (with_reducible refine wp_tail_gr 6 Try.mixed ?_ ?_) | (with_reducible refine wp_tail_any 6 Try.mixed ?_ ?_)); (next => kernel_rfl); simp only [List.take_succ_cons, List.take_zero, List.drop_succ_cons, List.drop_zero]; (repeat (with_reducible refine wpQuiet_step (fun K hK => ?_); go_simp; first | (refine hK _ ?_; clear hK K) | (apply Exists.intro; refine ⟨fun _ => ?_, hK _ ?_⟩; (fail); clear hK K))); refine wpQuiet_nil ?_; intro pq)
          go_wp2_with (go_at_call 20; go_loud (refine (WY.out _ (by (repeat (with_reducible first | exact Below.refl _ _ | (refine bl_set ?_ (by first | omega | (simp; done) | (simp; omega)) _) | refine bl_gr ?_ _ | refine bl_al ?_ _ | refine below_setRow ?_ (by first | omega | (simp; done) | (simp; omega)) _ | refine bl_drewN ?_ _ | refine Below.drew ?_ | (refine bl_tr ?_ (by assumption)))))).mono ?_; rintro e w5 ⟨rfl, s5, k5⟩; have G5 := Lib.hid (And.intro s5 ((Kp.of_below (show Below wr.heap.size wr _ by (repeat (with_reducible first | exact Below.refl _ _ | (refine bl_set ?_ (by first | omega | (simp; done) | (simp; omega)) _) | refine bl_gr ?_ _ | refine bl_al ?_ _ | refine below_setRow ?_ (by first | omega | (simp; done) | (simp; omega)) _ | refine bl_drewN ?_ _ | refine Below.drew ?_ | (refine bl_tr ?_ (by assumption)))))).trans k5)); clear s5 k5))
          go_roundw
          case rel => exact ⟨kp, _, by first | with_reducible rfl | (rw [ek1]; done) | (rw [KP.out]; go_num), by rw [KP.out]; exact NX.out, G5.out.1, G5.out.2.blk _ _ LO.out.2 (.inr rfl), LO.out.1.trans (G5.out.2.below LO.out.1.size KB.out)⟩
          case measure => (first | ((try rw [ek1]); exact meas_c KP.out LQ.out) | (clear ek1; have := LQ.out; simp only [intOf]; omega))
        · have hq : q = l.length := by have := hW.le; dsimp only at this; omega
          have q2 : ¬ (q : Int) < (l.length : Int) := by omega
          have DN := Lib.hid (show o = rchL (EC c) c.ins.length from WL.done (s := (o, l)) (hq ▸ hW))
          have SB := Lib.hid hS.isB
          have LO := Lib.hid hlo
          clear hW hS hco hlo lb own hq hlt
          go_wp2
          go_ret
          exact ⟨_, rfl, by rw [RS.out, ← DN.out]; exact SB.out, LO.out⟩
end Go.Proofs.Ytcmpgohpncnagaa
