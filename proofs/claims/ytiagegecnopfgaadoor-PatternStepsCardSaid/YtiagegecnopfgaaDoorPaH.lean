/- The maker's fresh and lay, walked. -/
import Derived.Test.YtiagegecnopfgaaDoorPaG
namespace Go.Proofs.YtiagegecnopfgaaDoor
set_option linter.all false
open Go.ChangeShapes Go.WideShapes Go.ChangeAt Go.RowKit Go.Sort Go.Deep
variable {E : Nat → Prop}

theorem cells3m {w : World} {b : Nat} {v : Value} {g : Int} {k : Bool} (h : w.heap[b]? = some (mkO v g k)) : (w.cell? ⟨b, 0, none⟩ = some v ∧ w.cell? ⟨b, 1, none⟩ = some (.int .i64 g) ∧ w.cell? ⟨b, 2, none⟩ = some (.bool k)) ∧ ∀ j, w.frozen? ⟨b, j, none⟩ = false := by
  refine ⟨⟨?_, ?_, ?_⟩, fun j => frozen_of_row w b j _ _ h⟩ <;> (rw [cell_of_row w b _ _ _ _ h]; rfl)
theorem w64p {g : Int} (h : 0 ≤ g ∧ g ≤ 1000000) : wrap64 (g + 1) = g + 1 ∧ wrap64 g = g := by
  constructor <;> (unfold wrap64; omega)
theorem set_kp {lo B : Nat} {X Y : World} {v : Value} {g g' : Int} {k k' : Bool} (h1 : X.heap[B]? = some (mkO v g k)) (h2 : Y.heap[B]? = some (mkO v g' k')) (hT : Touch (fun b => b = B ∨ RowB B X b) X Y) : KpM lo B X Y :=
  ⟨hT, fun b _ ⟨v', g2, k2, e, hb⟩ => by
    rw [h2] at e
    simp only [Option.some.injEq, Obj.cells.injEq, and_true, Array.mk.injEq, List.cons.injEq] at e
    exact ⟨_, _, _, h1, by rw [e.1]; exact hb⟩⟩
theorem MkS.reg {lo B : Nat} {x : Mk} {X : World} (h : MkS E lo B x X) (g : Int) : MkS E lo B { x with g := g } (X.setCell ⟨B, 1, none⟩ (.int .i64 g)) ∧ KpM lo B X (X.setCell ⟨B, 1, none⟩ (.int .i64 g)) := by
  obtain ⟨h0, A, cp, rs, h1, h2, h3, h4⟩ := h
  have K : KpM lo B X (X.setCell ⟨B, 1, none⟩ (.int .i64 g)) := set_kp h1 (heap_setCell_same X B 1 _ _ _ h1) (Touch.set (p := ⟨B, 1, none⟩) (Touch.refl _ _) (.inl (.inl rfl)) _)
  have hR : RowT lo B X := ⟨⟨_, _, _, h1⟩, h0, row_type h1 h2⟩
  refine ⟨⟨h0, A, cp, rs, heap_setCell_same X B 1 _ _ _ h1, ownsRow_touch h2 ((Touch.refl _ _).set1 _ _) (fun k hk e => ?_), h3, fun r hr => (h4 r hr).kp K hR⟩, K⟩
  obtain ⟨cs, e2⟩ := own_typeN h2 k hk
  rw [e, h1] at e2
  simp at e2
theorem MkS.badS {lo B : Nat} {x : Mk} {X : World} (h : MkS E lo B x X) : MkS E lo B x.bad (X.setCell ⟨B, 2, none⟩ (.bool true)) ∧ KpM lo B X (X.setCell ⟨B, 2, none⟩ (.bool true)) := by
  obtain ⟨h0, A, cp, rs, h1, h2, h3, h4⟩ := h
  have K : KpM lo B X (X.setCell ⟨B, 2, none⟩ (.bool true)) := set_kp h1 (heap_setCell_same X B 2 _ _ _ h1) (Touch.set (p := ⟨B, 2, none⟩) (Touch.refl _ _) (.inl (.inl rfl)) _)
  have hR : RowT lo B X := ⟨⟨_, _, _, h1⟩, h0, row_type h1 h2⟩
  refine ⟨⟨h0, A, cp, rs, heap_setCell_same X B 2 _ _ _ h1, ownsRow_touch h2 ((Touch.refl _ _).set1 _ _) (fun k hk e => ?_), h3, fun r hr => (h4 r hr).kp K hR⟩, K⟩
  obtain ⟨cs, e2⟩ := own_typeN h2 k hk
  rw [e, h1] at e2
  simp at e2
theorem MkS.cells {lo B : Nat} {x : Mk} {X : World} (h : MkS E lo B x X) : ∃ v, X.heap[B]? = some (mkO v x.g x.b) := by
  obtain ⟨_, A, cp, rs, h1, _⟩ := h
  exact ⟨_, h1⟩
set_option maxRecDepth 100000 in
set_option maxHeartbeats 4000000 in
theorem fresh_any (lo B : Nat) (x : Mk) (X : World) (h : MkS E lo B x X) (hg : 0 ≤ x.g ∧ x.g ≤ 1000000) :
    Calls Tryd.prog 37 #[.pointer (some ⟨B, 0, none⟩)] X fun e Y => e = .returned (.int .i64 x.g) ∧ MkS E lo B x.next Y ∧ KpM lo B X Y := by
  obtain ⟨v, hv⟩ := h.cells
  obtain ⟨⟨a0, a1, a2⟩, af⟩ := cells3m hv
  have lb := h.lt
  obtain ⟨e1, e2⟩ := w64p hg
  have NX := Lib.hid (h.reg (x.g + 1))
  clear h hg hv
  go_enter Tryd.func37, Tryd.ntmps37
  go_wp2
  go_ret
  rw [e1, e2]
  exact ⟨rfl, NX.out.1, NX.out.2⟩
theorem cells11 {w : World} {b : Nat} {r : StepR} (h : w.heap[b]? = some (stepO r)) : (w.cell? ⟨b, 0, none⟩ = some (.int .i64 r.d.k) ∧ w.cell? ⟨b, 1, none⟩ = some (.int .i64 r.d.r) ∧ w.cell? ⟨b, 2, none⟩ = some (.int .i64 r.d.f) ∧ w.cell? ⟨b, 3, none⟩ = some (.string r.d.s) ∧
    w.cell? ⟨b, 4, none⟩ = some (.int .i64 r.d.nd.op) ∧ w.cell? ⟨b, 5, none⟩ = some (.int .i64 r.d.nd.at_) ∧ w.cell? ⟨b, 6, none⟩ = some (.int .i64 r.d.nd.n) ∧ w.cell? ⟨b, 7, none⟩ = some (.int .i64 r.d.nd.m) ∧ w.cell? ⟨b, 8, none⟩ = some (.string r.d.nd.s) ∧ w.cell? ⟨b, 9, none⟩ = some r.nk ∧ w.cell? ⟨b, 10, none⟩ = some r.ks) ∧ ∀ j, w.frozen? ⟨b, j, none⟩ = false := by
  refine ⟨?_, fun j => frozen_of_row w b j _ _ h⟩
  and_intros <;> (rw [cell_of_row w b _ _ _ _ h]; rfl)
/-- what lay starts from -/
abbrev LayH (E : Nat → Prop) (lo B : Nat) (x : Mk) (r : StepR) (A : Option Addr) (n cp : Nat) (rs : List StepR) (X : World) : Prop := lo ≤ B ∧ X.heap[B]? = some (mkO (.slice A n cp) x.g x.b) ∧ X.ownsRow lo 41 11 (.slice A n cp) n (flat StepR.cs rs) ∧ rs.map (·.d) = x.l ∧ (∀ r ∈ rs, HoldsS E lo X r) ∧ HoldsS E lo X r ∧ lo ≤ X.heap.size
theorem lay_next {lo B : Nat} {x : Mk} {r : StepR} {A : Option Addr} {q cp : Nat} {rs : List StepR} {X V Y : World} (hq : x.l.length = q) (h : LayH E lo B x r A q cp rs X) (hb : Below X.heap.size X V) {g m n : Nat} (hm : m = q + 1)
    (o : Y.ownsRow lo 41 11 (.slice (some ⟨g, 0, none⟩) (q + 1) n) (q + 1) (flat StepR.cs (rs ++ [r]))) (hg : V.grownBy Y (Value.slice A q cp).ownBlock) (hw : (Value.slice A q cp).ownBlock = some g ∨ g = V.heap.size) :
    MkS E lo B (x.lay r.d) (Y.setCell ⟨B, 0, none⟩ (.slice (some ⟨g, 0, none⟩) m n)) ∧ KpM lo B X (Y.setCell ⟨B, 0, none⟩ (.slice (some ⟨g, 0, none⟩) m n)) := by
  subst hq
  exact MkS.lay h.1 h.2.1 h.2.2.1 h.2.2.2.1 h.2.2.2.2.1 hb h.2.2.2.2.2.2 h.2.2.2.2.2.1 hm o hg hw
theorem lay_box {lo B : Nat} {x : Mk} {r : StepR} {A : Option Addr} {q cp : Nat} {rs : List StepR} {X V Y : World} (h : LayH E lo B x r A q cp rs X) (hb : Below X.heap.size X V) (hg : V.grownBy Y (Value.slice A q cp).ownBlock) : Y.heap[B]? = some (mkO (.slice A q cp) x.g x.b) := by
  have hBV := (hb.block _ (Array.getElem?_eq_some_iff.1 h.2.1).1).trans h.2.1
  refine ((touch_grownE hg).block _ (Array.getElem?_eq_some_iff.1 hBV).1 (fun e => ?_)).trans hBV
  obtain ⟨cs, e2⟩ := own_typeN h.2.2.1 _ e
  rw [h.2.1] at e2
  simp at e2
set_option maxRecDepth 100000 in
set_option maxHeartbeats 4000000 in
theorem lay_any (lo B : Nat) (x : Mk) (r : StepR) (X : World) (h : MkS E lo B x X) (hr : HoldsS E lo X r) (hlo : lo ≤ X.heap.size) (hm : x.l.length ≤ 1000000) :
    Calls Tryd.prog 28 #[.pointer (some ⟨B, 0, none⟩), stepV r] X fun e Y => e = .returned (.tuple #[]) ∧ MkS E lo B (x.lay r.d) Y ∧ KpM lo B X Y := by
  obtain ⟨h0, A, cp, rs, h1, h2, h3, h4⟩ := h
  have hl : rs.length = x.l.length := by rw [← h3]; simp
  have HM := Lib.hid hm
  have HX := Lib.hid (And.intro h0 (And.intro h1 (And.intro h2 (And.intro h3 (And.intro h4 (And.intro hr hlo))))))
  have HL := Lib.hid hl
  clear h0 h1 h2 h3 h4 hl hm hr hlo
  generalize hn : x.l.length = n at *
  have HN := Lib.hid hn
  clear hn
  go_enter Tryd.func28, Tryd.ntmps28
  go_upto_region 1 with fail
  refine wpd_world (fun Z => Z.heap[X.heap.size]? = some (stepO r) ∧ Below X.heap.size X Z) ⟨heap_alloc_new _ _, by (repeat (with_reducible first | exact Below.refl _ _ | (refine bl_set ?_ (by first | omega | (simp; done) | (simp; omega)) _) | refine bl_gr ?_ _ | refine bl_al ?_ _ | refine below_setRow ?_ (by first | omega | (simp; done) | (simp; omega)) _ | refine bl_drewN ?_ _ | refine Below.drew ?_ | (refine bl_tr ?_ (by assumption))))⟩ ?_
  rintro Z ⟨z0, zb⟩
  have KZ := Lib.hid (fun V (hV : Below Z.heap.size Z V) => (hV.block _ (Array.getElem?_eq_some_iff.1 z0).1).trans z0)
  have KB := Lib.hid (fun V (hV : Below Z.heap.size Z V) => ((bl_tr zb hV).block _ (Array.getElem?_eq_some_iff.1 HX.out.2.1).1).trans HX.out.2.1)
  have BZ := Lib.hid zb
  clear z0 zb
  have S0 := Lib.hid (And.intro (KB.out Z (Below.refl _ _)) (KZ.out Z (Below.refl _ _)))
  (refine wp_region_until (fun V : World => V.heap[B]? = some (mkO (.slice A n cp) x.g x.b) ∧ V.heap[X.heap.size]? = some (stepO r)) [10] Tryd.mixed (by exact S0.out) (fun hS => ?_); (refine wpAnyU_free (i := 0) (v := ?_) rfl (by kernel_rfl) (by kernel_rfl) (by kernel_rfl) (by kernel_rfl) (fun _ _ _ h => h) ?_ (fun _ => by assumption) ?_; rotate_left; (next => (refine Or.inl ⟨by kernel_rfl, ?_⟩; ((intro w hSw; (try dsimp only at hSw); go_simp) <;> with_reducible rfl))); (try simp only [Act.put, List.getElem_toArray, List.getElem_cons_zero, List.getElem_cons_succ, List.setIfInBounds_toArray, List.set_cons_zero, List.set_cons_succ])); (refine wpAnyU_free (i := 1) (v := ?_) rfl (by kernel_rfl) (by kernel_rfl) (by kernel_rfl) (by kernel_rfl) (fun _ _ _ h => h) ?_ (fun _ => by assumption) ?_; rotate_left; (next => (refine Or.inl ⟨by kernel_rfl, ?_⟩; ((intro w hSw; (try dsimp only at hSw); go_simp) <;> with_reducible rfl))); (try simp only [Act.put, List.getElem_toArray, List.getElem_cons_zero, List.getElem_cons_succ, List.setIfInBounds_toArray, List.set_cons_zero, List.set_cons_succ])); (refine wpAnyU_free (i := 2) (v := ?_) rfl (by kernel_rfl) (by kernel_rfl) (by kernel_rfl) (by kernel_rfl) (fun _ _ _ h => h) ?_ (fun _ => by assumption) ?_; rotate_left; (next => (refine Or.inl ⟨by kernel_rfl, ?_⟩; ((intro w hSw; (try dsimp only at hSw); go_simp) <;> with_reducible rfl))); (try simp only [Act.put, List.getElem_toArray, List.getElem_cons_zero, List.getElem_cons_succ, List.setIfInBounds_toArray, List.set_cons_zero, List.set_cons_succ])); (refine wpAnyU_free (i := 3) (v := ?_) rfl (by kernel_rfl) (by kernel_rfl) (by kernel_rfl) (by kernel_rfl) (fun _ _ _ h => h) ?_ (fun _ => by assumption) ?_; rotate_left; (next => (refine Or.inl ⟨by kernel_rfl, ?_⟩; ((intro w hSw; (try dsimp only at hSw); go_simp) <;> with_reducible rfl))); (try simp only [Act.put, List.getElem_toArray, List.getElem_cons_zero, List.getElem_cons_succ, List.setIfInBounds_toArray, List.set_cons_zero, List.set_cons_succ])); (refine wpAnyU_take (i := 4) (v := ?_) rfl (by kernel_rfl) (by kernel_rfl) (by kernel_rfl) (by kernel_rfl) (fun _ _ _ h => h) ?_ (by assumption) ?_; rotate_left; (next => (refine Or.inl ⟨by kernel_rfl, ?_⟩; ((intro w hSw; (try dsimp only at hSw); (obtain ⟨⟨b0, b1, b2⟩, _⟩ := cells3m hSw.1; obtain ⟨⟨c0, c1, c2, c3, c4, c5, c6, c7, c8, c9, c10⟩, _⟩ := cells11 hSw.2); go_simp) <;> with_reducible rfl))); (try simp only [Act.put, List.getElem_toArray, List.getElem_cons_zero, List.getElem_cons_succ, List.setIfInBounds_toArray, List.set_cons_zero, List.set_cons_succ])); (refine wpAnyU_take (i := 5) (v := ?_) rfl (by kernel_rfl) (by kernel_rfl) (by kernel_rfl) (by kernel_rfl) (fun _ _ _ h => h) ?_ (by assumption) ?_; rotate_left; (next => (refine Or.inl ⟨by kernel_rfl, ?_⟩; ((intro w hSw; (try dsimp only at hSw); (obtain ⟨⟨b0, b1, b2⟩, _⟩ := cells3m hSw.1; obtain ⟨⟨c0, c1, c2, c3, c4, c5, c6, c7, c8, c9, c10⟩, _⟩ := cells11 hSw.2); go_simp) <;> with_reducible rfl))); (try simp only [Act.put, List.getElem_toArray, List.getElem_cons_zero, List.getElem_cons_succ, List.setIfInBounds_toArray, List.set_cons_zero, List.set_cons_succ])); refine wpAnyU_one (i := 6) (by kernel_rfl) rfl (fun K hK => ?_); have HK := Lib.hid hK; clear hK; go_simp; refine HK.out _ _ (fun _ => by exact ⟨(heap_alloc_old _ _ (Array.getElem?_eq_some_iff.1 hS.1).1).trans hS.1, (heap_alloc_old _ _ (Array.getElem?_eq_some_iff.1 hS.2).1).trans hS.2⟩) ?_; clear HK K; (try simp only [Act.put, List.getElem_toArray, List.getElem_cons_zero, List.getElem_cons_succ, List.setIfInBounds_toArray, List.set_cons_zero, List.set_cons_succ]); (first | refine uH_alloc rfl (fun Z6 f6 b6 => ?_) | refine uH_allocD rfl (fun Z6 f6 b6 => ?_)); have F6 := Lib.hid f6; have G6 := Lib.hid (show Below Z.heap.size Z Z6 from bl_tr (by (repeat (with_reducible first | exact Below.refl _ _ | (refine bl_set ?_ (by first | omega | (simp; done) | (simp; omega)) _) | refine bl_gr ?_ _ | refine bl_al ?_ _ | refine below_setRow ?_ (by first | omega | (simp; done) | (simp; omega)) _ | refine bl_drewN ?_ _ | refine Below.drew ?_ | (refine bl_tr ?_ (by assumption))))) b6); have hS := And.intro (KB.out _ G6.out) (KZ.out _ G6.out); clear f6; refine wpAnyU_one (i := 7) (by kernel_rfl) rfl (fun K hK => ?_); have HK := Lib.hid hK; clear hK; ((refine step_app1 elem_step lo rfl (.tmp 8) (.tmp 10) rfl rs r HL.out (by simp [Act.eval, Act.put]) (by first | (simp [Act.eval, Act.put]; done) | (simp [Act.eval, Act.put]; rfl)) (ownsRow_below HX.out.2.2.1 (bl_tr BZ.out G6.out)) (Nat.le_trans HX.out.2.2.2.2.2.2 (bl_tr BZ.out G6.out).size) F6.out (one_step r) HM.out (by decide) ?_); intro g7 m7 n7 w7 em o7 gr7 gw7 gl7; have NX := Lib.hid (lay_next HN.out HX.out (bl_tr BZ.out G6.out) em o7 gr7 gw7); have S7 := Lib.hid (And.intro (lay_box HX.out (bl_tr BZ.out G6.out) gr7) (((touch_grownE gr7).block _ (Array.getElem?_eq_some_iff.1 (KZ.out _ G6.out)).1 (fun e => Nat.lt_irrefl _ (own_ltN HX.out.2.2.1 _ e).2)).trans (KZ.out _ G6.out))); obtain ⟨⟨v0, v1, v2⟩, vf⟩ := cells3m S7.out.1; have lv := (Array.getElem?_eq_some_iff.1 S7.out.1).1; clear em o7 gr7 gw7); refine HK.out _ _ (fun _ => by exact S7.out) ?_; clear HK K; (try simp only [Act.put, List.getElem_toArray, List.getElem_cons_zero, List.getElem_cons_succ, List.setIfInBounds_toArray, List.set_cons_zero, List.set_cons_succ]); (refine wpAnyU_free (i := 8) (v := ?_) rfl (by kernel_rfl) (by kernel_rfl) (by kernel_rfl) (by kernel_rfl) (fun _ _ _ h => h) ?_ (fun _ => by assumption) ?_; rotate_left; (next => (refine Or.inl ⟨by kernel_rfl, ?_⟩; ((intro w hSw; (try dsimp only at hSw); go_simp) <;> with_reducible rfl))); (try simp only [Act.put, List.getElem_toArray, List.getElem_cons_zero, List.getElem_cons_succ, List.setIfInBounds_toArray, List.set_cons_zero, List.set_cons_succ])); (refine wpAnyU_free (i := 9) (v := ?_) rfl (by kernel_rfl) (by kernel_rfl) (by kernel_rfl) (by kernel_rfl) (fun _ _ _ h => h) ?_ (fun _ => by assumption) ?_; rotate_left; (next => (refine Or.inl ⟨by kernel_rfl, ?_⟩; ((intro w hSw; (try dsimp only at hSw); go_simp) <;> with_reducible rfl))); (try simp only [Act.put, List.getElem_toArray, List.getElem_cons_zero, List.getElem_cons_succ, List.setIfInBounds_toArray, List.set_cons_zero, List.set_cons_succ])); refine wpAnyU_one (i := 10) (by kernel_rfl) rfl (fun K hK => ?_); have HK := Lib.hid hK; clear hK; go_simp; refine HK.out _ _ (fun h => absurd h (by decide)) ?_; clear HK K; (try simp only [Act.put, List.getElem_toArray, List.getElem_cons_zero, List.getElem_cons_succ, List.setIfInBounds_toArray, List.set_cons_zero, List.set_cons_succ]); refine wpAnyU_done (by kernel_rfl) ?_ _)
  go_simp
  go_wp2
  go_end0
  exact ⟨rfl, NX.out.1, NX.out.2⟩
end Go.Proofs.YtiagegecnopfgaaDoor
