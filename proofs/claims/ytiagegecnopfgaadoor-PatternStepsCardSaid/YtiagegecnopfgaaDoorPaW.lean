/- The laws' As and same on lists of steps, walked. -/
import Derived.Test.YtiagegecnopfgaaDoorPaV
namespace Go.Proofs.YtiagegecnopfgaaDoor
set_option linter.all false
open Go.ChangeShapes Go.WideShapes Go.ChangeAt Go.RowKit Go.Sort Go.Deep

theorem elem_stepR : ElemOf StepR StepR.cs 32 55 11 136 (.agg #[.int .i64 0, .int .i64 0, .int .i64 0, .string ⟨#[]⟩, .int .i64 0, .int .i64 0, .int .i64 0, .int .i64 0, .string ⟨#[]⟩, .slice none 0 0, .slice none 0 0]) where
  len _ := rfl
  sl := Tryd.underlying32
  info := info_partsE (by kernel_rfl)
  zs := rfl
  pos := by decide
  bpos := by decide
/-- a step's cells at a place -/
def AtS (w : World) (b o : Nat) (d : StepD) (A1 : Option Addr) (c1 : Nat) (A2 : Option Addr) (c2 : Nat) : Prop := w.cell? ⟨b, o, none⟩ = some (.int .i64 d.k) ∧ w.cell? ⟨b, o + 1, none⟩ = some (.int .i64 d.r) ∧ w.cell? ⟨b, o + 2, none⟩ = some (.int .i64 d.f) ∧ w.cell? ⟨b, o + 3, none⟩ = some (.string d.s) ∧
    w.cell? ⟨b, o + 4, none⟩ = some (.int .i64 d.nd.op) ∧ w.cell? ⟨b, o + 5, none⟩ = some (.int .i64 d.nd.at_) ∧ w.cell? ⟨b, o + 6, none⟩ = some (.int .i64 d.nd.n) ∧ w.cell? ⟨b, o + 7, none⟩ = some (.int .i64 d.nd.m) ∧ w.cell? ⟨b, o + 8, none⟩ = some (.string d.nd.s) ∧ w.cell? ⟨b, o + 9, none⟩ = some (.slice A1 d.nd.kids.length c1) ∧ w.cell? ⟨b, o + 10, none⟩ = some (.slice A2 d.ks.length c2)
theorem AtS.keep {w w' : World} {b o : Nat} {d : StepD} {A1 A2 : Option Addr} {c1 c2 : Nat} (h : AtS w b o d A1 c1 A2 c2) (e : w'.heap[b]? = w.heap[b]?) : AtS w' b o d A1 c1 A2 c2 := by
  obtain ⟨h0, h1, h2, h3, h4, h5, h6, h7, h8, h9, h10⟩ := h
  have f := fun j => World.cell?_of_block (a := ⟨b, j, none⟩) e
  exact ⟨(f _).trans h0, (f _).trans h1, (f _).trans h2, (f _).trans h3, (f _).trans h4, (f _).trans h5, (f _).trans h6, (f _).trans h7, (f _).trans h8, (f _).trans h9, (f _).trans h10⟩
theorem RdL.get {w : World} {A : Option Addr} {c q : Nat} {l : List StepD} (h : RdL w (.slice A l.length c) l) {d : StepD} (hd : l[q]? = some d) : ∃ (A1 : Option Addr) (c1 : Nat) (A2 : Option Addr) (c2 b off : Nat), A = some ⟨b, off, none⟩ ∧ b < w.heap.size ∧ RdS w ⟨d, A1, c1, A2, c2⟩ ∧ AtS w b (off + q * 11) d A1 c1 A2 c2 := by
  obtain ⟨⟨d', A1, c1, A2, c2⟩, b, off, e, hb, rfl, hr, hx⟩ := h.at_ hd
  refine ⟨A1, c1, A2, c2, b, off, e, hb, hr, ?_⟩
  unfold AtS
  exact ⟨hx 0 _ rfl, hx 1 _ rfl, hx 2 _ rfl, hx 3 _ rfl, hx 4 _ rfl, hx 5 _ rfl, hx 6 _ rfl, hx 7 _ rfl, hx 8 _ rfl, hx 9 _ rfl, hx 10 _ rfl⟩
theorem RdL.len {w : World} {v : Value} {l : List StepD} (h : RdL w v l) : l.length ≤ maxLen := by
  obtain ⟨rs, h1, h2, _⟩ := h
  have := h1.1
  rw [← h2]
  simpa using this
/-- converted steps under way -/
def AsI (w : World) (l : List StepD) (q : Nat) (rs : List StepR) (v : Value) (X : World) : Prop := rs.length = q ∧ rs.map (·.d) = l.take q ∧ X.ownsRow w.heap.size 55 11 v q (flat StepR.cs rs) ∧ (∀ r ∈ rs, RdS w r) ∧ Below w.heap.size w X
theorem AsI.next {w X Y Z : World} {l : List StepD} {q : Nat} {rs : List StepR} {v u : Value} (h : AsI w l q rs v X) {r : StepR} (hd : l[q]? = some r.d) (hr : RdS w r) (hb : Below X.heap.size X Y) (hg : Y.grownBy Z v.ownBlock)
    (ho : Z.ownsRow w.heap.size 55 11 u (q + 1) (flat StepR.cs (rs ++ [r]))) : AsI w l (q + 1) (rs ++ [r]) u Z := by
  obtain ⟨h1, h2, h3, h4, h5⟩ := h
  refine ⟨by simp [h1], by rw [List.take_add_one, hd, List.map_append, h2]; rfl, ho, fun x hx => ?_, ?_⟩
  · rcases List.mem_append.1 hx with hx | hx
    · exact h4 x hx
    · rw [List.mem_singleton.1 hx]
      exact hr
  · exact grown_lo (bl_tr h5 hb) hg (own_lo h3)
theorem AsI.done {w X : World} {l : List StepD} {q : Nat} {rs : List StepR} {v : Value} (h : AsI w l q rs v X) (hq : q = l.length) : RdL X v l := by
  subst hq
  refine ⟨rs, ownsRow_slOf sr_len (by rw [h.1]; exact h.2.2.1), by rw [h.2.1, List.take_length], fun r hr => (h.2.2.2.1 r hr).below h.2.2.2.2⟩
set_option maxRecDepth 100000 in
set_option maxHeartbeats 8000000 in
theorem as_any (v : Value) (l : List StepD) (w : World) (h : RdL w v l) (hm : l.length ≤ 900000) :
    Calls Tryd.prog 13 #[v] w fun e w' => ∃ u, e = .returned u ∧ RdL w' u l ∧ Below w.heap.size w w' := by
  obtain ⟨A, c, rfl⟩ := h.form
  have H := Lib.hid h
  have HM := Lib.hid hm
  clear h hm
  go_enter Tryd.func13, Tryd.ntmps13
  go_wp2
  go_loopw [3, 8] (fun o i X => ∃ (q n : Nat) (B : Option Addr) (rs : List StepR), i = .int .i64 q ∧ o = .slice B q n ∧ Hid (q ≤ l.length ∧ AsI w l q rs (.slice B q n) X)) (fun _ i _ => l.length - (intOf i).toNat)
  case atStart => exact ⟨0, 0, some ⟨w.heap.size, 0, none⟩, [], rfl, rfl, Lib.hid ⟨Nat.zero_le _, rfl, rfl, own_empty (heap_alloc_new _ _) (Nat.le_refl _), fun r hr => (by cases hr), by (repeat (with_reducible first | exact Below.refl _ _ | (refine bl_set ?_ (by first | omega | (simp; done) | (simp; omega)) _) | refine bl_gr ?_ _ | refine bl_al ?_ _ | refine below_setRow ?_ (by first | omega | (simp; done) | (simp; omega)) _ | refine bl_drewN ?_ _ | refine Below.drew ?_ | (refine bl_tr ?_ (by assumption))))⟩⟩
  case round =>
    obtain ⟨q, n, B, rs, rfl, rfl, HI⟩ := hrel
    by_cases hlt : q < l.length
    · have q0 : (q : Int) < (l.length : Int) := by omega
      have q1 : ¬ (q : Int) < 0 := by omega
      obtain ⟨d, hd⟩ : ∃ d, l[q]? = some d := ⟨_, List.getElem?_eq_getElem hlt⟩
      obtain ⟨A1, c1, A2, c2, b, off, rfl, hb, hr, hx⟩ := H.out.get hd
      obtain ⟨x0, x1, x2, x3, x4, x5, x6, x7, x8, x9, x10⟩ := hx.keep (HI.out.2.2.2.2.2.block b hb)
      have lb : b < wr.heap.size := Nat.lt_of_lt_of_le hb HI.out.2.2.2.2.2.size
      have NX := Lib.hid (fun Y Z u (hY : Below wr.heap.size wr Y) hg ho => HI.out.2.next (Y := Y) (Z := Z) (u := u) (r := ⟨d, A1, c1, A2, c2⟩) hd hr hY hg ho)
      have LW := Lib.hid (And.intro HI.out.2.2.2.2.2.size hlt)
      have RL := Lib.hid HI.out.2.1
      have SR := Lib.hid HI.out.2.2.2.1
      have QM := Lib.hid (show q + 1 ≤ 900000 by have := HM.out; omega)
      have kp1 : wrap64 ((q : Int) + 1) = ((q + 1 : Nat) : Int) := w64c (by omega) (by have := HM.out; omega)
      clear hd hr hx hlt hb
      go_wp2_with (at_builtin; refine wpList_appG elem_stepR rfl _ _ rfl w.heap.size rs [⟨d, A1, c1, A2, c2⟩] (yv := .slice B q n) (sv := .slice (some ⟨wr.heap.size, 0, none⟩) 1 1) rfl rfl (by rw [RL.out]; exact ownsRow_below SR.out (bl_al (Below.refl _ _) _)) (by have := LW.out.1; rw [World.size_alloc]; omega) (sl_oneE (heap_alloc_new _ _) rfl) (fun x _ => one_step x) (by have h1 := QM.out; have h2 := RL.out; clear kp1; simp; omega) (by have h1 := QM.out; have h2 := RL.out; clear kp1; simp; omega) ?_; intro A5 n5 w5 o5 g5; obtain ⟨m5, hm5⟩ : ∃ m5, m5 = (rs ++ [(⟨d, A1, c1, A2, c2⟩ : StepR)]).length := ⟨_, rfl⟩; rw [← hm5] at o5 ⊢; have M5 := Lib.hid (show m5 = q + 1 by rw [hm5]; simp [RL.out]); have R5 := Lib.hid (NX.out _ w5 (.slice A5 m5 n5) (bl_al (Below.refl _ _) _) g5 (by rw [← M5.out]; exact o5)); clear hm5 g5 o5)
      go_roundw
      case rel => exact ⟨q + 1, n5, A5, _, by first | with_reducible rfl | (rw [kp1]; done), by rw [M5.out], Lib.hid ⟨LW.out.2, by rw [← M5.out] at *; exact R5.out⟩⟩
      case measure => (first | ((try rw [kp1]); exact meas_c rfl LW.out.2) | (clear kp1; have := LW.out.2; simp only [intOf]; omega))
    · have q0 : ¬ (q : Int) < (l.length : Int) := by omega
      have FN := Lib.hid (HI.out.2.done (by have := HI.out.1; omega))
      have BW := Lib.hid HI.out.2.2.2.2.2
      clear hlt
      go_wp2
      go_ret
      exact ⟨_, rfl, FN.out, by (repeat (with_reducible first | exact BW.out | exact Below.refl _ _ | refine bl_rapp ?_ | (refine bl_set ?_ (by first | omega | (simp; done) | (simp; omega)) _) | refine bl_gr ?_ _ | refine bl_al ?_ _ | refine bl_drewN ?_ _ | refine Below.drew ?_))⟩
set_option maxRecDepth 100000 in
set_option maxHeartbeats 8000000 in
theorem same_any (v v' : Value) (l : List StepD) (w : World) (h : RdL w v l) (h' : RdL w v' l) :
    Calls Tryd.prog 12 #[v, v'] w fun e w' => e = .returned (.bool true) ∧ Below w.heap.size w w' := by
  obtain ⟨A, c, rfl⟩ := h.form
  obtain ⟨A', c', rfl⟩ := h'.form
  have H := Lib.hid (And.intro h h')
  have HM := Lib.hid (show l.length ≤ 9223372036854775807 from by have := h.len; unfold maxLen at this; omega)
  have e6 : ((l.length : Int) != (l.length : Int)) = false := bne_self_eq_false _
  clear h h'
  go_enter Tryd.func12, Tryd.ntmps12
  go_wp2
  go_loopw [5, 13] (fun _ i X => ∃ (q : Nat), i = .int .i64 q ∧ Hid (q ≤ l.length ∧ Below w.heap.size w X)) (fun _ i _ => l.length - (intOf i).toNat)
  case atStart => exact ⟨0, rfl, Lib.hid ⟨Nat.zero_le _, Below.refl _ _⟩⟩
  case round =>
    obtain ⟨q, rfl, HI⟩ := hrel
    by_cases hlt : q < l.length
    · have q0 : (q : Int) < (l.length : Int) := by omega
      have q1 : ¬ (q : Int) < 0 := by omega
      obtain ⟨d, hd⟩ : ∃ d, l[q]? = some d := ⟨_, List.getElem?_eq_getElem hlt⟩
      obtain ⟨A1, c1, A2, c2, b, off, rfl, hb, hr, hx⟩ := (H.out.1.below HI.out.2).get hd
      obtain ⟨A3, c3, A4, c4, b', off', rfl, hb', hr', hx'⟩ := (H.out.2.below HI.out.2).get hd
      have kp1 : wrap64 ((q : Int) + 1) = ((q + 1 : Nat) : Int) := w64c (by omega) (by have := HM.out; omega)
      have ON := Lib.hid (fun W (hW : Below wr.heap.size wr W) => one_eq d A1 A2 A3 A4 c1 c2 c3 c4 W (hr.below hW) (hr'.below hW))
      have S0 := Lib.hid (And.intro hx hx')
      have U0 := Lib.hid (fun W (hW : Below wr.heap.size wr W) => And.intro (hx.keep (hW.block b hb)) (hx'.keep (hW.block b' hb')))
      have LQ := Lib.hid hlt
      clear hd hr hr' hx hx' hlt hb hb'
      go_upto_region 6 with fail
      (refine wp_region_held_drew (S := (fun V : World => AtS V b (off + q * 11) d A1 c1 A2 c2 ∧ AtS V b' (off' + q * 11) d A3 c3 A4 c4)) Tryd.mixed (by exact S0.out) (fun hS => ?_); (refine wpAnyH_take (i := 0) (v := ?_) rfl (by kernel_rfl) (by kernel_rfl) (by kernel_rfl) (fun _ _ _ h => h) ?_ (by assumption) ?_; rotate_left; (next => (refine Or.inl ⟨by kernel_rfl, ?_⟩; ((intro w hSw; (try dsimp only at hSw); go_simp) <;> with_reducible rfl))); (try simp only [Act.put, List.getElem_toArray, List.getElem_cons_zero, List.getElem_cons_succ, List.setIfInBounds_toArray, List.set_cons_zero, List.set_cons_succ])); (refine wpAnyH_take (i := 1) (v := ?_) rfl (by kernel_rfl) (by kernel_rfl) (by kernel_rfl) (fun _ _ _ h => h) ?_ (by assumption) ?_; rotate_left; (next => (refine Or.inl ⟨by kernel_rfl, ?_⟩; ((intro w hSw; (try dsimp only at hSw); go_simp) <;> with_reducible rfl))); (try simp only [Act.put, List.getElem_toArray, List.getElem_cons_zero, List.getElem_cons_succ, List.setIfInBounds_toArray, List.set_cons_zero, List.set_cons_succ])); (refine wpAnyH_take (i := 2) (v := ?_) rfl (by kernel_rfl) (by kernel_rfl) (by kernel_rfl) (fun _ _ _ h => h) ?_ (by assumption) ?_; rotate_left; (next => (refine Or.inl ⟨by kernel_rfl, ?_⟩; ((intro w hSw; (try dsimp only at hSw); go_simp) <;> with_reducible rfl))); (try simp only [Act.put, List.getElem_toArray, List.getElem_cons_zero, List.getElem_cons_succ, List.setIfInBounds_toArray, List.set_cons_zero, List.set_cons_succ])); (refine wpAnyH_take (i := 3) (v := ?_) rfl (by kernel_rfl) (by kernel_rfl) (by kernel_rfl) (fun _ _ _ h => h) ?_ (by assumption) ?_; rotate_left; (next => (refine Or.inl ⟨by kernel_rfl, ?_⟩; ((intro w hSw; (try dsimp only at hSw); (obtain ⟨⟨x0, x1, x2, x3, x4, x5, x6, x7, x8, x9, x10⟩, ⟨y0, y1, y2, y3, y4, y5, y6, y7, y8, y9, y10⟩⟩ := hSw); go_simp) <;> with_reducible rfl))); (try simp only [Act.put, List.getElem_toArray, List.getElem_cons_zero, List.getElem_cons_succ, List.setIfInBounds_toArray, List.set_cons_zero, List.set_cons_succ])); (refine wpAnyH_take (i := 4) (v := ?_) rfl (by kernel_rfl) (by kernel_rfl) (by kernel_rfl) (fun _ _ _ h => h) ?_ (by assumption) ?_; rotate_left; (next => (refine Or.inl ⟨by kernel_rfl, ?_⟩; ((intro w hSw; (try dsimp only at hSw); go_simp) <;> with_reducible rfl))); (try simp only [Act.put, List.getElem_toArray, List.getElem_cons_zero, List.getElem_cons_succ, List.setIfInBounds_toArray, List.set_cons_zero, List.set_cons_succ])); (refine wpAnyH_take (i := 5) (v := ?_) rfl (by kernel_rfl) (by kernel_rfl) (by kernel_rfl) (fun _ _ _ h => h) ?_ (by assumption) ?_; rotate_left; (next => (refine Or.inl ⟨by kernel_rfl, ?_⟩; ((intro w hSw; (try dsimp only at hSw); go_simp) <;> with_reducible rfl))); (try simp only [Act.put, List.getElem_toArray, List.getElem_cons_zero, List.getElem_cons_succ, List.setIfInBounds_toArray, List.set_cons_zero, List.set_cons_succ])); (refine wpAnyH_take (i := 6) (v := ?_) rfl (by kernel_rfl) (by kernel_rfl) (by kernel_rfl) (fun _ _ _ h => h) ?_ (by assumption) ?_; rotate_left; (next => (refine Or.inl ⟨by kernel_rfl, ?_⟩; ((intro w hSw; (try dsimp only at hSw); go_simp) <;> with_reducible rfl))); (try simp only [Act.put, List.getElem_toArray, List.getElem_cons_zero, List.getElem_cons_succ, List.setIfInBounds_toArray, List.set_cons_zero, List.set_cons_succ])); (refine wpAnyH_take (i := 7) (v := ?_) rfl (by kernel_rfl) (by kernel_rfl) (by kernel_rfl) (fun _ _ _ h => h) ?_ (by assumption) ?_; rotate_left; (next => (refine Or.inl ⟨by kernel_rfl, ?_⟩; ((intro w hSw; (try dsimp only at hSw); (obtain ⟨⟨x0, x1, x2, x3, x4, x5, x6, x7, x8, x9, x10⟩, ⟨y0, y1, y2, y3, y4, y5, y6, y7, y8, y9, y10⟩⟩ := hSw); go_simp) <;> with_reducible rfl))); (try simp only [Act.put, List.getElem_toArray, List.getElem_cons_zero, List.getElem_cons_succ, List.setIfInBounds_toArray, List.set_cons_zero, List.set_cons_succ])); refine wpAnyH_ready (rs := [8]) (by kernel_rfl) (by simp) ?_; refine AllReadyH.cons rfl (fun K hK => ?_) AllReadyH.nil; go_simp; ((go_at_call 26; refine (ON.out wr.drew (Below.drew (Below.refl _ _))).mono ?_; rintro e w4 ⟨rfl, hb4⟩; have B4 := Lib.hid (show Below wr.heap.size wr w4 from bl_tr (Below.drew (Below.refl _ _)) hb4); clear hb4)); refine hK.out _ _ (by exact U0.out _ B4.out) (fun hS => ?_); clear hK K; (try simp only [Act.put, List.getElem_toArray, List.getElem_cons_zero, List.getElem_cons_succ, List.setIfInBounds_toArray, List.set_cons_zero, List.set_cons_succ]); (refine wpAnyH_take (i := 9) (v := ?_) rfl (by kernel_rfl) (by kernel_rfl) (by kernel_rfl) (fun _ _ _ h => h) ?_ (by assumption) ?_; rotate_left; (next => (refine Or.inl ⟨by kernel_rfl, ?_⟩; ((intro w hSw; (try dsimp only at hSw); go_simp) <;> with_reducible rfl))); (try simp only [Act.put, List.getElem_toArray, List.getElem_cons_zero, List.getElem_cons_succ, List.setIfInBounds_toArray, List.set_cons_zero, List.set_cons_succ])); refine wpAnyH_done (by kernel_rfl) ?_ _)
      go_simp
      go_wp2
      go_roundw
      case rel => exact ⟨q + 1, by first | with_reducible rfl | (rw [kp1]; done), Lib.hid ⟨LQ.out, bl_tr HI.out.2 (by (repeat (with_reducible first | exact B4.out | exact Below.refl _ _ | refine bl_rapp ?_ | (refine bl_set ?_ (by first | omega | (simp; done) | (simp; omega)) _) | refine bl_gr ?_ _ | refine bl_al ?_ _ | refine bl_drewN ?_ _ | refine Below.drew ?_)))⟩⟩
      case measure => (first | ((try rw [kp1]); exact meas_c rfl LQ.out) | (clear kp1; have := LQ.out; simp only [intOf]; omega))
    · have q0 : ¬ (q : Int) < (l.length : Int) := by omega
      have BW := Lib.hid HI.out.2
      clear hlt
      go_wp2
      go_ret
      exact ⟨rfl, by (repeat (with_reducible first | exact BW.out | exact Below.refl _ _ | refine bl_rapp ?_ | (refine bl_set ?_ (by first | omega | (simp; done) | (simp; omega)) _) | refine bl_gr ?_ _ | refine bl_al ?_ _ | refine bl_drewN ?_ _ | refine Below.drew ?_))⟩
end Go.Proofs.YtiagegecnopfgaaDoor
