/- The reference's One and the laws' same on equal steps, walked. -/
import Derived.Test.YtiagegecnopfgaaDoorPaU
namespace Go.Proofs.YtiagegecnopfgaaDoor
set_option linter.all false
open Go.ChangeShapes Go.WideShapes Go.ChangeAt Go.RowKit Go.Sort Go.Deep

theorem node_any (P P' : Nat → Prop) (t : Tree) (A A' : Option Addr) (c c' : Nat) (w : World) (h : IsNd P w (.slice A t.kids.length c) t.kids) (h' : IsNd P' w (.slice A' t.kids.length c') t.kids) :
    Calls Tryd.prog 21 #[nodeV t (.slice A t.kids.length c), nodeV t (.slice A' t.kids.length c')] w fun e w' => e = .returned (.bool true) ∧ Below w.heap.size w w' := by
  have : ∀ N, NodeC N := by
    intro N
    induction N with
    | zero => intro P P' t A A' c c' w ht; omega
    | succ N ih => exact node_step ih
  exact this (sizeT t + 1) P P' t A A' c c' w (by omega) h h'
abbrev anyB : Nat → Prop := fun _ => True
/-- a step that can be read -/
def RdS (w : World) (x : StepR) : Prop := IsNd anyB w x.nk x.d.nd.kids ∧ SlOf w 1 intCs x.ks x.d.ks
theorem RdS.below {w w' : World} {x : StepR} (h : RdS w x) (hb : Below w.heap.size w w') : RdS w' x := ⟨h.1.bel hb, h.2.below hb⟩
/-- a list of steps that can be read -/
def RdL (w : World) (v : Value) (l : List StepD) : Prop := ∃ rs, SlOf w 11 StepR.cs v rs ∧ rs.map (·.d) = l ∧ ∀ r ∈ rs, RdS w r
theorem RdL.below {w w' : World} {v : Value} {l : List StepD} (h : RdL w v l) (hb : Below w.heap.size w w') : RdL w' v l := by
  obtain ⟨rs, h1, h2, h3⟩ := h
  exact ⟨rs, h1.below hb, h2, fun r hr => (h3 r hr).below hb⟩
theorem IsSt.rd {lo : Nat} {X : World} {v : Value} {l : List StepD} (h : IsSt lo X v l) : RdL X v l := by
  obtain ⟨A, c, rs, rfl, h1, h2, h3⟩ := h
  have hl : rs.length = l.length := by rw [← h2]; simp
  rw [← hl] at h1 ⊢
  exact ⟨rs, ownsRow_slOf sr_len h1, h2, fun r hr => ⟨(h3 r hr).1.mono fun _ _ => trivial, (h3 r hr).2.1⟩⟩
theorem RdL.form {w : World} {v : Value} {l : List StepD} (h : RdL w v l) : ∃ A c, v = .slice A l.length c := by
  obtain ⟨rs, h1, h2, _⟩ := h
  obtain ⟨A, c, e, _⟩ := h1.form
  exact ⟨A, c, by rw [e, ← h2]; simp⟩
theorem RdL.at_ {w : World} {A : Option Addr} {c q : Nat} {l : List StepD} (h : RdL w (.slice A l.length c) l) {d : StepD} (hd : l[q]? = some d) : ∃ (x : StepR) (b off : Nat), A = some ⟨b, off, none⟩ ∧ b < w.heap.size ∧ x.d = d ∧ RdS w x ∧ ∀ j u, (StepR.cs x)[j]? = some u → w.cell? ⟨b, off + q * 11 + j, none⟩ = some u := by
  obtain ⟨rs, h1, h2, h3⟩ := h
  have hl : rs.length = l.length := by rw [← h2]; simp
  have hlt := (List.getElem?_eq_some_iff.1 hd).1
  obtain ⟨b, off, cap, e, _, hb, hx⟩ := h1.at_ (by omega)
  simp only [Value.slice.injEq] at e
  obtain ⟨x, hr⟩ : ∃ x, rs[q]? = some x := ⟨_, List.getElem?_eq_getElem (by omega)⟩
  refine ⟨x, b, off, e.1, hb, ?_, h3 x (List.mem_of_getElem? hr), fun j u hj => hx q x hr j u hj⟩
  have : (rs.map (·.d))[q]? = some x.d := by rw [List.getElem?_map, hr]; rfl
  rw [h2, hd] at this
  exact (Option.some.inj this).symm
abbrev stepRO (x : StepR) : Obj := .cells #[.int .i64 x.d.k, .int .i64 x.d.r, .int .i64 x.d.f, .string x.d.s, .int .i64 x.d.nd.op, .int .i64 x.d.nd.at_, .int .i64 x.d.nd.n, .int .i64 x.d.nd.m, .string x.d.nd.s, x.nk, x.ks] 55
theorem cells11r {w : World} {b : Nat} {r : StepR} (h : w.heap[b]? = some (stepRO r)) : (w.cell? ⟨b, 0, none⟩ = some (.int .i64 r.d.k) ∧ w.cell? ⟨b, 1, none⟩ = some (.int .i64 r.d.r) ∧ w.cell? ⟨b, 2, none⟩ = some (.int .i64 r.d.f) ∧ w.cell? ⟨b, 3, none⟩ = some (.string r.d.s) ∧
    w.cell? ⟨b, 4, none⟩ = some (.int .i64 r.d.nd.op) ∧ w.cell? ⟨b, 5, none⟩ = some (.int .i64 r.d.nd.at_) ∧ w.cell? ⟨b, 6, none⟩ = some (.int .i64 r.d.nd.n) ∧ w.cell? ⟨b, 7, none⟩ = some (.int .i64 r.d.nd.m) ∧ w.cell? ⟨b, 8, none⟩ = some (.string r.d.nd.s) ∧ w.cell? ⟨b, 9, none⟩ = some r.nk ∧ w.cell? ⟨b, 10, none⟩ = some r.ks) ∧ ∀ j, w.frozen? ⟨b, j, none⟩ = false := by
  refine ⟨?_, fun j => frozen_of_row w b j _ _ h⟩
  and_intros <;> (rw [cell_of_row w b _ _ _ _ h]; rfl)
theorem cells11q {w : World} {b : Nat} {d : StepD} {A1 A2 : Option Addr} {c1 c2 : Nat} (h : w.heap[b]? = some (stepRO ⟨d, A1, c1, A2, c2⟩)) : (w.cell? ⟨b, 0, none⟩ = some (.int .i64 d.k) ∧ w.cell? ⟨b, 1, none⟩ = some (.int .i64 d.r) ∧ w.cell? ⟨b, 2, none⟩ = some (.int .i64 d.f) ∧ w.cell? ⟨b, 3, none⟩ = some (.string d.s) ∧
    w.cell? ⟨b, 4, none⟩ = some (.int .i64 d.nd.op) ∧ w.cell? ⟨b, 5, none⟩ = some (.int .i64 d.nd.at_) ∧ w.cell? ⟨b, 6, none⟩ = some (.int .i64 d.nd.n) ∧ w.cell? ⟨b, 7, none⟩ = some (.int .i64 d.nd.m) ∧ w.cell? ⟨b, 8, none⟩ = some (.string d.nd.s) ∧ w.cell? ⟨b, 9, none⟩ = some (.slice A1 d.nd.kids.length c1) ∧ w.cell? ⟨b, 10, none⟩ = some (.slice A2 d.ks.length c2)) ∧ ∀ j, w.frozen? ⟨b, j, none⟩ = false := cells11r h
theorem ints_at {w : World} {A : Option Addr} {c q : Nat} {l : List Int} (h : SlOf w 1 intCs (.slice A l.length c) l) {k : Int} (hk : l[q]? = some k) : ∃ (b off : Nat), A = some ⟨b, off, none⟩ ∧ b < w.heap.size ∧ w.cell? ⟨b, off + q, none⟩ = some (.int .i64 k) := by
  have hlt := (List.getElem?_eq_some_iff.1 hk).1
  obtain ⟨b, off, cap, e, _, hb, hx⟩ := h.at_ (by omega)
  simp only [Value.slice.injEq] at e
  refine ⟨b, off, e.1, hb, ?_⟩
  have := hx q k hk 0 _ rfl
  rw [Nat.mul_one, Nat.add_zero] at this
  exact this
set_option maxRecDepth 100000 in
set_option maxHeartbeats 8000000 in
theorem one_eq (d : StepD) (A1 A2 B1 B2 : Option Addr) (c1 c2 e1 e2 : Nat) (w : World) (hx : RdS w ⟨d, A1, c1, A2, c2⟩) (hy : RdS w ⟨d, B1, e1, B2, e2⟩) :
    Calls Tryd.prog 26 #[stepV ⟨d, A1, c1, A2, c2⟩, stepV ⟨d, B1, e1, B2, e2⟩] w fun e w' => e = .returned (.bool true) ∧ Below w.heap.size w w' := by
  have ND := Lib.hid (fun W (hW : Below w.heap.size w W) => node_any anyB anyB d.nd A1 B1 c1 e1 W (hx.1.bel hW) (hy.1.bel hW))
  have KS := Lib.hid (fun W (hW : Below w.heap.size w W) => And.intro (hx.2.below hW) (hy.2.below hW))
  have T0 := Lib.hid (TwoB.start w (stepRO ⟨d, A1, c1, A2, c2⟩) (stepRO ⟨d, B1, e1, B2, e2⟩))
  have HL := Lib.hid (show d.ks.length ≤ 9223372036854775807 from by have hm := hx.2.1; unfold maxLen at hm; omega)
  have g1 : (d.k != d.k) = false := bne_self_eq_false _
  have g2 : (d.r != d.r) = false := bne_self_eq_false _
  have g3 : (d.f != d.f) = false := bne_self_eq_false _
  have g6 : ((d.ks.length : Int) != (d.ks.length : Int)) = false := bne_self_eq_false _
  clear hx hy
  go_enter Tryd.func26, Tryd.ntmps26
  go_upto_region 1 with fail
  refine wpd_world (fun X => TwoB w X (stepRO ⟨d, A1, c1, A2, c2⟩) (stepRO ⟨d, B1, e1, B2, e2⟩)) T0.out ?_
  intro X hX
  have XB := Lib.hid hX
  obtain ⟨⟨a0, a1, a2, a3, a4, a5, a6, a7, a8, a9, a10⟩, _⟩ := cells11q hX.1
  obtain ⟨⟨y0, y1, y2, y3, y4, y5, y6, y7, y8, y9, y10⟩, _⟩ := cells11q hX.2.1
  have l1 := hX.lt
  have l0 : w.heap.size < X.heap.size := by omega
  clear hX T0
  go_upto_region 3 with (go_at_call 21; go_loud (refine (ND.out _ (bl_tr XB.out.2.2 (show Below X.heap.size X _ by (repeat (with_reducible first | exact Below.refl _ _ | (refine bl_set ?_ (by first | omega | (simp; done) | (simp; omega)) _) | refine bl_gr ?_ _ | refine bl_al ?_ _ | refine below_setRow ?_ (by first | omega | (simp; done) | (simp; omega)) _ | refine bl_drewN ?_ _ | refine Below.drew ?_ | (refine bl_tr ?_ (by assumption))))))).mono ?_; rintro e w4 ⟨rfl, hb4⟩; have X4 := Lib.hid (XB.out.step (bl_tr (by (repeat (with_reducible first | exact Below.refl _ _ | (refine bl_set ?_ (by first | omega | (simp; done) | (simp; omega)) _) | refine bl_gr ?_ _ | refine bl_al ?_ _ | refine below_setRow ?_ (by first | omega | (simp; done) | (simp; omega)) _ | refine bl_drewN ?_ _ | refine Below.drew ?_ | (refine bl_tr ?_ (by assumption))))) hb4)); obtain ⟨⟨b0, b1, b2, b3, b4, b5, b6, b7, b8, b9, b10⟩, _⟩ := cells11q X4.out.1; obtain ⟨⟨z0, z1, z2, z3, z4, z5, z6, z7, z8, z9, z10⟩, _⟩ := cells11q X4.out.2.1; have l4 := X4.out.lt; have l3 : w.heap.size < w4.heap.size := (Array.getElem?_eq_some_iff.1 X4.out.1).1; clear hb4))
  go_wp2
  clear a0 a1 a2 a3 a4 a5 a6 a7 a8 a9 a10 y0 y1 y2 y3 y4 y5 y6 y7 y8 y9 y10 b0 b1 b2 b3 b4 b5 b6 b7 b8 b9 b10 z0 z1 z2 z3 z4 z5 z6 z7 z8 z9 z10 l0 l1 l3 l4 XB
  go_loopw [5] (fun i Y => ∃ (q : Nat), i = .int .i64 q ∧ Hid (q ≤ d.ks.length) ∧ TwoB w Y (stepRO ⟨d, A1, c1, A2, c2⟩) (stepRO ⟨d, B1, e1, B2, e2⟩)) (fun i _ => d.ks.length - (intOf i).toNat)
  case atStart => exact ⟨0, rfl, Lib.hid (Nat.zero_le _), X4.out⟩
  case round =>
    clear X4
    obtain ⟨q, rfl, HQ, hx⟩ := hrel
    have BX := Lib.hid hx
    obtain ⟨⟨a0, a1, a2, a3, a4, a5, a6, a7, a8, a9, a10⟩, _⟩ := cells11q hx.1
    obtain ⟨⟨y0, y1, y2, y3, y4, y5, y6, y7, y8, y9, y10⟩, _⟩ := cells11q hx.2.1
    have l1 := hx.lt
    have l0 : w.heap.size < wr.heap.size := by omega
    by_cases hlt : q < d.ks.length
    · have q1 : (q : Int) < (d.ks.length : Int) := by omega
      have q3 : ¬ (q : Int) < 0 := by omega
      obtain ⟨k, hd⟩ : ∃ k, d.ks[q]? = some k := ⟨_, List.getElem?_eq_getElem hlt⟩
      obtain ⟨b, off, rfl, lb, u0⟩ := ints_at (KS.out _ hx.2.2).1 hd
      obtain ⟨b', off', rfl, lb', u1⟩ := ints_at (KS.out _ hx.2.2).2 hd
      have kp1 : wrap64 ((q : Int) + 1) = ((q + 1 : Nat) : Int) := w64c (by omega) (by have := HL.out; omega)
      have LQ := Lib.hid hlt
      have S0 := Lib.hid (And.intro hx.1 (And.intro hx.2.1 (And.intro u0 u1)))
      have g9 : (k != k) = false := bne_self_eq_false _
      clear hlt hd hx u0 u1
      go_upto_region 6 with fail
      clear a0 a1 a2 a3 a4 a5 a6 a7 a8 a9 a10 y0 y1 y2 y3 y4 y5 y6 y7 y8 y9 y10 l0 l1 lb lb'
      (refine wp_region_held_drew (S := (fun V : World => V.heap[w.heap.size]? = some (stepRO ⟨d, A1, c1, some ⟨b, off, none⟩, c2⟩) ∧ V.heap[w.heap.size + 1]? = some (stepRO ⟨d, B1, e1, some ⟨b', off', none⟩, e2⟩) ∧ V.cell? ⟨b, off + q, none⟩ = some (.int .i64 k) ∧ V.cell? ⟨b', off' + q, none⟩ = some (.int .i64 k))) Tryd.mixed (by exact S0.out) (fun hS => ?_); (refine wpAnyH_take (i := 0) (v := ?_) rfl (by kernel_rfl) (by kernel_rfl) (by kernel_rfl) (fun _ _ _ h => h) ?_ (by assumption) ?_; rotate_left; (next => (refine Or.inl ⟨by kernel_rfl, ?_⟩; ((intro w hSw; (try dsimp only at hSw); go_simp) <;> with_reducible rfl))); (try simp only [Act.put, List.getElem_toArray, List.getElem_cons_zero, List.getElem_cons_succ, List.setIfInBounds_toArray, List.set_cons_zero, List.set_cons_succ])); (refine wpAnyH_take (i := 1) (v := ?_) rfl (by kernel_rfl) (by kernel_rfl) (by kernel_rfl) (fun _ _ _ h => h) ?_ (by assumption) ?_; rotate_left; (next => (refine Or.inl ⟨by kernel_rfl, ?_⟩; ((intro w hSw; (try dsimp only at hSw); (obtain ⟨⟨a0, a1, a2, a3, a4, a5, a6, a7, a8, a9, a10⟩, _⟩ := cells11q hSw.1; obtain ⟨⟨y0, y1, y2, y3, y4, y5, y6, y7, y8, y9, y10⟩, _⟩ := cells11q hSw.2.1; obtain ⟨u0, u1⟩ := hSw.2.2); go_simp) <;> with_reducible rfl))); (try simp only [Act.put, List.getElem_toArray, List.getElem_cons_zero, List.getElem_cons_succ, List.setIfInBounds_toArray, List.set_cons_zero, List.set_cons_succ])); (refine wpAnyH_take (i := 2) (v := ?_) rfl (by kernel_rfl) (by kernel_rfl) (by kernel_rfl) (fun _ _ _ h => h) ?_ (by assumption) ?_; rotate_left; (next => (refine Or.inl ⟨by kernel_rfl, ?_⟩; ((intro w hSw; (try dsimp only at hSw); go_simp) <;> with_reducible rfl))); (try simp only [Act.put, List.getElem_toArray, List.getElem_cons_zero, List.getElem_cons_succ, List.setIfInBounds_toArray, List.set_cons_zero, List.set_cons_succ])); (refine wpAnyH_take (i := 3) (v := ?_) rfl (by kernel_rfl) (by kernel_rfl) (by kernel_rfl) (fun _ _ _ h => h) ?_ (by assumption) ?_; rotate_left; (next => (refine Or.inl ⟨by kernel_rfl, ?_⟩; ((intro w hSw; (try dsimp only at hSw); go_simp) <;> with_reducible rfl))); (try simp only [Act.put, List.getElem_toArray, List.getElem_cons_zero, List.getElem_cons_succ, List.setIfInBounds_toArray, List.set_cons_zero, List.set_cons_succ])); (refine wpAnyH_take (i := 4) (v := ?_) rfl (by kernel_rfl) (by kernel_rfl) (by kernel_rfl) (fun _ _ _ h => h) ?_ (by assumption) ?_; rotate_left; (next => (refine Or.inl ⟨by kernel_rfl, ?_⟩; ((intro w hSw; (try dsimp only at hSw); (obtain ⟨⟨a0, a1, a2, a3, a4, a5, a6, a7, a8, a9, a10⟩, _⟩ := cells11q hSw.1; obtain ⟨⟨y0, y1, y2, y3, y4, y5, y6, y7, y8, y9, y10⟩, _⟩ := cells11q hSw.2.1; obtain ⟨u0, u1⟩ := hSw.2.2); go_simp) <;> with_reducible rfl))); (try simp only [Act.put, List.getElem_toArray, List.getElem_cons_zero, List.getElem_cons_succ, List.setIfInBounds_toArray, List.set_cons_zero, List.set_cons_succ])); (refine wpAnyH_take (i := 5) (v := ?_) rfl (by kernel_rfl) (by kernel_rfl) (by kernel_rfl) (fun _ _ _ h => h) ?_ (by assumption) ?_; rotate_left; (next => (refine Or.inl ⟨by kernel_rfl, ?_⟩; ((intro w hSw; (try dsimp only at hSw); go_simp) <;> with_reducible rfl))); (try simp only [Act.put, List.getElem_toArray, List.getElem_cons_zero, List.getElem_cons_succ, List.setIfInBounds_toArray, List.set_cons_zero, List.set_cons_succ])); (refine wpAnyH_take (i := 6) (v := ?_) rfl (by kernel_rfl) (by kernel_rfl) (by kernel_rfl) (fun _ _ _ h => h) ?_ (by assumption) ?_; rotate_left; (next => (refine Or.inl ⟨by kernel_rfl, ?_⟩; ((intro w hSw; (try dsimp only at hSw); (obtain ⟨⟨a0, a1, a2, a3, a4, a5, a6, a7, a8, a9, a10⟩, _⟩ := cells11q hSw.1; obtain ⟨⟨y0, y1, y2, y3, y4, y5, y6, y7, y8, y9, y10⟩, _⟩ := cells11q hSw.2.1; obtain ⟨u0, u1⟩ := hSw.2.2); go_simp) <;> with_reducible rfl))); (try simp only [Act.put, List.getElem_toArray, List.getElem_cons_zero, List.getElem_cons_succ, List.setIfInBounds_toArray, List.set_cons_zero, List.set_cons_succ])); (refine wpAnyH_take (i := 7) (v := ?_) rfl (by kernel_rfl) (by kernel_rfl) (by kernel_rfl) (fun _ _ _ h => h) ?_ (by assumption) ?_; rotate_left; (next => (refine Or.inl ⟨by kernel_rfl, ?_⟩; ((intro w hSw; (try dsimp only at hSw); go_simp) <;> with_reducible rfl))); (try simp only [Act.put, List.getElem_toArray, List.getElem_cons_zero, List.getElem_cons_succ, List.setIfInBounds_toArray, List.set_cons_zero, List.set_cons_succ])); (refine wpAnyH_take (i := 8) (v := ?_) rfl (by kernel_rfl) (by kernel_rfl) (by kernel_rfl) (fun _ _ _ h => h) ?_ (by assumption) ?_; rotate_left; (next => (refine Or.inl ⟨by kernel_rfl, ?_⟩; ((intro w hSw; (try dsimp only at hSw); go_simp) <;> with_reducible rfl))); (try simp only [Act.put, List.getElem_toArray, List.getElem_cons_zero, List.getElem_cons_succ, List.setIfInBounds_toArray, List.set_cons_zero, List.set_cons_succ])); (refine wpAnyH_take (i := 9) (v := ?_) rfl (by kernel_rfl) (by kernel_rfl) (by kernel_rfl) (fun _ _ _ h => h) ?_ (by assumption) ?_; rotate_left; (next => (refine Or.inl ⟨by kernel_rfl, ?_⟩; ((intro w hSw; (try dsimp only at hSw); (obtain ⟨⟨a0, a1, a2, a3, a4, a5, a6, a7, a8, a9, a10⟩, _⟩ := cells11q hSw.1; obtain ⟨⟨y0, y1, y2, y3, y4, y5, y6, y7, y8, y9, y10⟩, _⟩ := cells11q hSw.2.1; obtain ⟨u0, u1⟩ := hSw.2.2); go_simp) <;> with_reducible rfl))); (try simp only [Act.put, List.getElem_toArray, List.getElem_cons_zero, List.getElem_cons_succ, List.setIfInBounds_toArray, List.set_cons_zero, List.set_cons_succ])); (refine wpAnyH_take (i := 10) (v := ?_) rfl (by kernel_rfl) (by kernel_rfl) (by kernel_rfl) (fun _ _ _ h => h) ?_ (by assumption) ?_; rotate_left; (next => (refine Or.inl ⟨by kernel_rfl, ?_⟩; ((intro w hSw; (try dsimp only at hSw); go_simp) <;> with_reducible rfl))); (try simp only [Act.put, List.getElem_toArray, List.getElem_cons_zero, List.getElem_cons_succ, List.setIfInBounds_toArray, List.set_cons_zero, List.set_cons_succ])); refine wpAnyH_done (by kernel_rfl) ?_ _)
      go_simp
      go_wp2
      go_roundw
      case rel => exact ⟨q + 1, by first | with_reducible rfl | (rw [kp1]; done), Lib.hid LQ.out, BX.out.step (by (repeat (with_reducible first | exact Below.refl _ _ | (refine bl_set ?_ (by first | omega | (simp; done) | (simp; omega)) _) | refine bl_gr ?_ _ | refine bl_al ?_ _ | refine below_setRow ?_ (by first | omega | (simp; done) | (simp; omega)) _ | refine bl_drewN ?_ _ | refine Below.drew ?_ | (refine bl_tr ?_ (by assumption)))))⟩
      case measure => (first | ((try rw [kp1]); exact meas_c rfl LQ.out) | (clear kp1; have := LQ.out; simp only [intOf]; omega))
    · have q1 : ¬ (q : Int) < (d.ks.length : Int) := by omega
      clear hlt hx
      go_wp2
      go_ret
      exact ⟨rfl, BX.out.2.2⟩
end Go.Proofs.YtiagegecnopfgaaDoor
