/- Walk of SpacePlays. -/
import Derived.Test.YtgajmhklinolmaaSpZi
namespace Go.Proofs.Ytgajmhklinolmaa
set_option linter.all false
open Go.RowKit Go.Sort Go.Deep

abbrev rspO (room : Int) (lv : Value) : Obj := .cells #[.int .i64 room, lv] 31
/-- what holds at each round's head: the arena at sB, the reference at dB -/
structure Plays (w : World) (sB dB : Nat) (room : Int) (F : Nat → Prop) (l : List CellD) (lv : Value) (wr : World) : Prop where
  ar : Arena wr F sB room l
  lo : ∀ b, F b → w.heap.size ≤ b ∧ b ≠ dB
  bl : Below w.heap.size w wr
  st : wr.heap[dB]? = some (rspO room lv)
  row : RowK (Holds6 w) wr lv l
  far : ∀ b, lv.ownBlock = some b → b < wr.heap.size ∧ ¬ F b ∧ b ≠ dB
  dlo : w.heap.size ≤ dB
theorem RowK.touch {K : KC} {F : Nat → Prop} {w w' : World} {v : Value} {l : List CellD} (h : RowK K w v l) (ht : Touch F w w') (hF : ∀ b, v.ownBlock = some b → ¬ F b) : RowK K w' v l := by
  obtain ⟨rs, h1, h2, h3⟩ := h
  exact ⟨rs, h1.touch ht (fun b o c e h0 => hF b (by rw [e]; rfl)), h2, h3⟩
theorem Plays.does {w wr w2 : World} {sB dB : Nat} {room : Int} {F : Nat → Prop} {l l2 : List CellD} {lv : Value} (h : Plays w sB dB room F l lv wr) (ha : ∃ F', Arena w2 F' sB room l2 ∧ ∀ b, F' b → F b ∨ wr.heap.size ≤ b) (ht : Touch F wr w2) :
    ∃ F', Arena w2 F' sB room l2 ∧ (∀ b, F' b → w.heap.size ≤ b ∧ b ≠ dB) ∧ Below w.heap.size w w2 ∧ w2.heap[dB]? = some (rspO room lv) ∧ RowK (Holds6 w) w2 lv l ∧ (∀ b, lv.ownBlock = some b → b < w2.heap.size ∧ ¬ F' b ∧ b ≠ dB) := by
  obtain ⟨F', hA, hF'⟩ := ha
  have hd := (Array.getElem?_eq_some_iff.1 h.st).1
  have hz := h.bl.size
  refine ⟨F', hA, fun b hb => ?_, h.bl.trans (ht.below hz fun k hk => (h.lo k hk).1), (ht.block _ hd fun e => (h.lo _ e).2 rfl).trans h.st, h.row.touch ht fun b hb => (h.far b hb).2.1, fun b hb => ?_⟩
  · rcases hF' b hb with q | q
    · exact h.lo b q
    · exact ⟨by omega, by omega⟩
  · obtain ⟨q1, q2, q3⟩ := h.far b hb
    have := ht.size
    refine ⟨by omega, fun e => ?_, q3⟩
    rcases hF' b e with q | q
    · exact q2 q
    · omega

theorem Plays.below {w wr w2 : World} {sB dB : Nat} {room : Int} {F : Nat → Prop} {l : List CellD} {lv : Value} (h : Plays w sB dB room F l lv wr) (hb : Below wr.heap.size wr w2) : Plays w sB dB room F l lv w2 where
  ar := h.ar.below hb
  lo := h.lo
  bl := bl_tr h.bl hb
  st := (hb.block _ (Array.getElem?_eq_some_iff.1 h.st).1).trans h.st
  row := h.row.below hb
  far := fun b hb' => by
    obtain ⟨a, b', c⟩ := h.far b hb'
    exact ⟨Nat.lt_of_lt_of_le a hb.size, b', c⟩
  dlo := h.dlo

/-- between the model's call and the store of its answer -/
structure Plays2 (w : World) (sB dB eB : Nat) (room : Int) (F : Nat → Prop) (l : List CellD) (lv lv2 : Value) (wr : World) : Prop where
  ar : Arena wr F sB room l
  lo : ∀ b, F b → w.heap.size ≤ b ∧ b ≠ dB
  bl : Below w.heap.size w wr
  st : wr.heap[dB]? = some (rspO room lv)
  st2 : wr.heap[eB]? = some (rspO room lv2)
  row : RowK (Holds6 w) wr lv2 l
  far : ∀ b, lv2.ownBlock = some b → b < wr.heap.size ∧ ¬ F b ∧ b ≠ dB
  dlo : w.heap.size ≤ dB
theorem Plays2.of {w w4 w6 : World} {sB dB eB : Nat} {room : Int} {F : Nat → Prop} {l l2 : List CellD} {lv lv2 : Value}
    (q : Arena w4 F sB room l2 ∧ (∀ b, F b → w.heap.size ≤ b ∧ b ≠ dB) ∧ Below w.heap.size w w4 ∧ w4.heap[dB]? = some (rspO room lv) ∧ RowK (Holds6 w) w4 lv l ∧ (∀ b, lv.ownBlock = some b → b < w4.heap.size ∧ ¬ F b ∧ b ≠ dB)) (hd : w.heap.size ≤ dB)
    (hb : Below w4.heap.size w4 w6) (he : w6.heap[eB]? = some (rspO room lv2)) (hr : RowK (Holds6 w) w6 lv2 l2) (hf : ∀ b, lv2.ownBlock = some b → lv.ownBlock = some b ∨ w4.heap.size ≤ b ∧ b < w6.heap.size) : Plays2 w sB dB eB room F l2 lv lv2 w6 where
  ar := q.1.below hb
  lo := q.2.1
  bl := bl_tr q.2.2.1 hb
  st := (hb.block _ (Array.getElem?_eq_some_iff.1 q.2.2.2.1).1).trans q.2.2.2.1
  st2 := he
  row := hr
  far := fun b h => by
    have hd' := (Array.getElem?_eq_some_iff.1 q.2.2.2.1).1
    have hz := hb.size
    rcases hf b h with e | ⟨e1, e2⟩
    · obtain ⟨a, b', c⟩ := q.2.2.2.2.2 b e
      exact ⟨by omega, b', c⟩
    · exact ⟨e2, fun hF => by have := Arena.low q.1 b hF; omega, by omega⟩
  dlo := hd
theorem Plays2.one {w w4 w5 : World} {sB dB : Nat} {room : Int} {F : Nat → Prop} {l l2 : List CellD} {lv lv2 : Value}
    (q : Arena w4 F sB room l2 ∧ (∀ b, F b → w.heap.size ≤ b ∧ b ≠ dB) ∧ Below w.heap.size w w4 ∧ w4.heap[dB]? = some (rspO room lv) ∧ RowK (Holds6 w) w4 lv l ∧ (∀ b, lv.ownBlock = some b → b < w4.heap.size ∧ ¬ F b ∧ b ≠ dB)) (hd : w.heap.size ≤ dB)
    (s : RowS (Holds6 w) w4.drew w5 lv lv2 l2 ∧ Below w4.drew.heap.size w4.drew w5 ∧ Below w.heap.size w w5 ∧ w5.heap[dB]? = some (rspO room lv)) : Plays2 w sB dB w5.heap.size room F l2 lv lv2 (w5.alloc (rspO room lv2)) := by
  have hb : Below w4.heap.size w4 w5 := Below.trans (b := w4.drew) (Below.drew (Below.refl _ _)) s.2.1
  refine Plays2.of q hd (bl_al hb _) (heap_alloc_new _ _) (s.1.1.below (bl_al (Below.refl _ _) _)) fun b h => ?_
  rcases s.1.2 b h with e | ⟨e1, e2⟩
  · exact .inl e
  · have e1' : w4.heap.size ≤ b := e1
    exact .inr ⟨e1', by simp; omega⟩
theorem Plays2.two {w w4 w5 : World} {sB dB : Nat} {room : Int} {F : Nat → Prop} {l l2 : List CellD} {lv lv2 : Value} {o : Obj} {x y : Value}
    (q : Arena w4 F sB room l2 ∧ (∀ b, F b → w.heap.size ≤ b ∧ b ≠ dB) ∧ Below w.heap.size w w4 ∧ w4.heap[dB]? = some (rspO room lv) ∧ RowK (Holds6 w) w4 lv l ∧ (∀ b, lv.ownBlock = some b → b < w4.heap.size ∧ ¬ F b ∧ b ≠ dB)) (hd : w.heap.size ≤ dB)
    (s : RowS (Holds6 w) (w4.alloc o).drew w5 lv lv2 l2 ∧ Below (w4.alloc o).drew.heap.size (w4.alloc o).drew w5 ∧ Below w.heap.size w w5 ∧ w5.heap[dB]? = some (rspO room lv)) (he : w5.heap[w4.heap.size]? = some (.cells #[x, y] 31)) :
    Plays2 w sB dB w4.heap.size room F l2 lv lv2 ((w5.setCell ⟨w4.heap.size, 0, none⟩ (.int .i64 room)).setCell ⟨w4.heap.size, 1, none⟩ lv2) := by
  have hz : (w4.alloc o).drew.heap.size = w4.heap.size + 1 := by simp
  have hb : Below w4.heap.size w4 w5 := (Below.drew (bl_al (Below.refl _ _) o)).trans (s.2.1.mono (by omega))
  have hf : ∀ b, lv2.ownBlock = some b → lv.ownBlock = some b ∨ w4.heap.size + 1 ≤ b ∧ b < w5.heap.size := fun b h => by
    rcases s.1.2 b h with e | ⟨e1, e2⟩
    · exact .inl e
    · exact .inr ⟨by omega, e2⟩
  refine Plays2.of q hd (bl_set (bl_set hb (Nat.le_refl _) _) (Nat.le_refl _) _) (heap_setCell_same _ _ _ _ _ _ (heap_setCell_same _ _ _ _ _ _ he)) (s.1.1.touch (((Touch.refl (fun b => b = w4.heap.size) _).set1 _ _).set1 _ _) fun b h e => ?_) fun b h => ?_
  · rcases hf b h with h | h
    · have := (q.2.2.2.2.2 b h).1
      omega
    · omega
  · rcases hf b h with h | h
    · exact .inl h
    · exact .inr ⟨by omega, by simp [World.setCell]; omega⟩
theorem Plays2.done {w w6 : World} {sB dB eB : Nat} {room : Int} {F : Nat → Prop} {l : List CellD} {lv lv2 : Value} (h : Plays2 w sB dB eB room F l lv lv2 w6) : Plays w sB dB room F l lv2 ((w6.setCell ⟨dB, 0, none⟩ (.int .i64 room)).setCell ⟨dB, 1, none⟩ lv2) := by
  have ht : Touch (fun b => b = dB) w6 ((w6.setCell ⟨dB, 0, none⟩ (.int .i64 room)).setCell ⟨dB, 1, none⟩ lv2) := ((Touch.refl _ _).set1 _ _).set1 _ _
  exact {
    ar := h.ar.touch ht fun b hb => (h.lo b hb).2
    lo := h.lo
    bl := bl_set (bl_set h.bl h.dlo _) h.dlo _
    st := heap_setCell_same _ _ _ _ _ _ (heap_setCell_same _ _ _ _ _ _ h.st)
    row := h.row.touch ht fun b hb => (h.far b hb).2.2
    far := fun b hb => by
      obtain ⟨x, y, z⟩ := h.far b hb
      exact ⟨by simpa [World.setCell] using x, y, z⟩
    dlo := h.dlo }

theorem acts_keep {w w' : World} {b o : Nat} {x0 x1 x2 x3 x4 x5 x6 x7 : Value} (hw : Below w.heap.size w w') (hb : b < w.heap.size) (c0 : w.cell? ⟨b, o, none⟩ = some x0) (c1 : w.cell? ⟨b, o + 1, none⟩ = some x1) (c2 : w.cell? ⟨b, o + 2, none⟩ = some x2)
    (c3 : w.cell? ⟨b, o + 3, none⟩ = some x3) (c4 : w.cell? ⟨b, o + 4, none⟩ = some x4) (c5 : w.cell? ⟨b, o + 5, none⟩ = some x5) (c6 : w.cell? ⟨b, o + 6, none⟩ = some x6) (c7 : w.cell? ⟨b, o + 7, none⟩ = some x7) :
    w'.cell? ⟨b, o, none⟩ = some x0 ∧ w'.cell? ⟨b, o + 1, none⟩ = some x1 ∧ w'.cell? ⟨b, o + 2, none⟩ = some x2 ∧ w'.cell? ⟨b, o + 3, none⟩ = some x3 ∧ w'.cell? ⟨b, o + 4, none⟩ = some x4 ∧ w'.cell? ⟨b, o + 5, none⟩ = some x5 ∧ w'.cell? ⟨b, o + 6, none⟩ = some x6 ∧ w'.cell? ⟨b, o + 7, none⟩ = some x7 := by
  have k : ∀ j, w'.cell? ⟨b, j, none⟩ = w.cell? ⟨b, j, none⟩ := fun j => hw.cell (p := ⟨b, j, none⟩) hb
  rw [k, k, k, k, k, k, k, k]
  exact ⟨c0, c1, c2, c3, c4, c5, c6, c7⟩
/-- a new arena -/
def NewP (w w' : World) (s : Nat) (room : Int) : Prop := Arena w' (fun b => b = s) s room [] ∧ w.heap.size ≤ s ∧ s < w'.heap.size ∧ Below w.heap.size w w'
theorem new_at (room : Int) (w wi : World) (hb : Below w.heap.size w wi) (h0 : 0 ≤ room) (h : room ≤ 1048576) :
    Calls Try.prog 9 #[.int .i64 room] wi fun e w' => ∃ s, e = .returned (.tuple #[.pointer (some ⟨s, 0, none⟩), .int .i64 0]) ∧ NewP w w' s room :=
  (new_ok room wi h0 h).mono fun _ _ ⟨e, hw⟩ => ⟨_, e, by rw [hw]; exact Arena.new wi room, hb.size, by rw [hw]; simp, by rw [hw]; exact bl_al hb _⟩
theorem Plays.start {w w2 : World} {s : Nat} {room : Int} (h : NewP w w2 s room) (pp : Regrown) : Plays w s (w2.heap.size + pp.os.size) room (fun b => b = s) [] (.slice none 0 0) ((gr w2 pp).alloc (rspO room (.slice none 0 0))) where
  ar := (h.1.below (below_gr w2 pp)).below (bl_al (Below.refl _ _) _)
  lo := fun b hb => by
    have h1 := h.2.1
    have h2 := h.2.2.1
    subst hb
    exact ⟨h1, by omega⟩
  bl := bl_al (bl_gr h.2.2.2 pp) _
  st := by rw [← gr_size]; exact heap_alloc_new _ _
  row := .nil_
  far := fun b hb => by simp [Value.ownBlock] at hb
  dlo := by
    have := h.2.2.2.size
    omega

set_option maxRecDepth 100000 in
set_option maxHeartbeats 4000000 in
theorem spacePlays_any (room : Int) (v : Value) (l : List ActD) (w : World) (h : IsA w v l) (hf : ∀ a ∈ l, a.c.fit) :
    Calls Try.prog 3 #[.int .i64 room, v] w fun e w' => e = .returned (.bool true) ∧ Below w.heap.size w w' := by
  obtain ⟨A, cap, rfl, hca, hm⟩ := h.form
  have H := Lib.hid h
  have HF := Lib.hid hf
  unfold maxLen at hm
  clear h hf
  by_cases hr : room < 0 ∨ 1048576 < room
  · go_enter Try.func3, Try.ntmps3
    go_wp2_with (first
      | (go_at_call 7; refine (few_any _ l _ (H.out.below (by (repeat (with_reducible first | exact Below.refl _ _ | (refine bl_set ?_ (by first | omega | (simp; done) | (simp; omega)) _) | refine bl_gr ?_ _ | refine bl_al ?_ _ | refine below_setRow ?_ (by first | omega | (simp; done) | (simp; omega)) _ | refine bl_drewN ?_ _ | refine Below.drew ?_ | (refine bl_tr ?_ (by assumption))))))).mono ?_; rintro e w1 ⟨⟨b, rfl⟩, hb⟩; obtain ⟨pp, rfl⟩ := gr_of_below hb; clear hb)
      | (go_at_call 8; refine (callGr (goes_any _)).mono ?_; rintro e w' ⟨pp, rfl, rfl⟩)
      | (go_at_call 9; refine (callGr (new_bad room _ hr)).mono ?_; rintro e w' ⟨pp, rfl, rfl⟩)
      | (go_at_call 10; refine (callGr (rnew_bad room _ hr)).mono ?_; rintro e w' ⟨pp, rfl, rfl⟩))
    · go_ret
      exact ⟨rfl, by (repeat (with_reducible first | exact Below.refl _ _ | (refine bl_set ?_ (by first | omega | (simp; done) | (simp; omega)) _) | refine bl_gr ?_ _ | refine bl_al ?_ _ | refine below_setRow ?_ (by first | omega | (simp; done) | (simp; omega)) _ | refine bl_drewN ?_ _ | refine Below.drew ?_ | (refine bl_tr ?_ (by assumption))))⟩
    · go_loopw [9] (fun i wr => i = .int .i64 0 ∧ Below w.heap.size w wr) (fun _ _ => 0)
      case atStart => exact ⟨rfl, by (repeat (with_reducible first | exact Below.refl _ _ | (refine bl_set ?_ (by first | omega | (simp; done) | (simp; omega)) _) | refine bl_gr ?_ _ | refine bl_al ?_ _ | refine below_setRow ?_ (by first | omega | (simp; done) | (simp; omega)) _ | refine bl_drewN ?_ _ | refine Below.drew ?_ | (refine bl_tr ?_ (by assumption))))⟩
      case round =>
        obtain ⟨rfl, hB⟩ := hrel
        have HB := Lib.hid hB
        clear hB
        go_wp2_with ((go_at_call 8; refine (callGr (goes_any _)).mono ?_; rintro e w' ⟨pp, rfl, rfl⟩))
        go_ret
        exact ⟨rfl, bl_gr HB.out _⟩
  · have h0 : 0 ≤ room := by omega
    have h1 : room ≤ 1048576 := by omega
    clear hr
    go_enter Try.func3, Try.ntmps3
    go_wp2_with (first
      | (go_at_call 7; refine (few_any _ l _ (H.out.below (by (repeat (with_reducible first | exact Below.refl _ _ | (refine bl_set ?_ (by first | omega | (simp; done) | (simp; omega)) _) | refine bl_gr ?_ _ | refine bl_al ?_ _ | refine below_setRow ?_ (by first | omega | (simp; done) | (simp; omega)) _ | refine bl_drewN ?_ _ | refine Below.drew ?_ | (refine bl_tr ?_ (by assumption))))))).mono ?_; rintro e w1 ⟨⟨b, rfl⟩, hb⟩; obtain ⟨pp, rfl⟩ := gr_of_below hb; clear hb)
      | (go_at_call 8; refine (callGr (goes_any _)).mono ?_; rintro e w' ⟨pp, rfl, rfl⟩)
      | (go_at_call 9; refine (new_at room w _ (by (repeat (with_reducible first | exact Below.refl _ _ | (refine bl_set ?_ (by first | omega | (simp; done) | (simp; omega)) _) | refine bl_gr ?_ _ | refine bl_al ?_ _ | refine below_setRow ?_ (by first | omega | (simp; done) | (simp; omega)) _ | refine bl_drewN ?_ _ | refine Below.drew ?_ | (refine bl_tr ?_ (by assumption))))) h0 h1).mono ?_; rintro e w2 ⟨s, rfl, hn⟩; have N := Lib.hid hn; clear hn)
      | (go_at_call 10; refine (callGr (rnew_ok room _ h0 h1)).mono ?_; rintro e w' ⟨pn, rfl, rfl⟩))
    · go_ret
      exact ⟨rfl, by (repeat (with_reducible first | exact Below.refl _ _ | (refine bl_set ?_ (by first | omega | (simp; done) | (simp; omega)) _) | refine bl_gr ?_ _ | refine bl_al ?_ _ | refine below_setRow ?_ (by first | omega | (simp; done) | (simp; omega)) _ | refine bl_drewN ?_ _ | refine Below.drew ?_ | (refine bl_tr ?_ (by assumption))))⟩
    · have PS := Lib.hid (Plays.start N.out pn)
      generalize w2.heap.size + pn.os.size = dB at PS ⊢
      generalize (gr w2 pn).alloc _ = w3 at PS ⊢
      go_loopw [9] (fun i wr => ∃ (r : Nat) (F : Nat → Prop) (l' : List CellD) (lv : Value), r ≤ l.length ∧ i = .int .i64 r ∧ l'.length ≤ r ∧ r ≤ 60 ∧ Plays w s dB room F l' lv wr) (fun i _ => l.length - (intOf i).toNat)
      case atStart => exact ⟨0, _, [], _, by omega, rfl, by simp, by omega, PS.out⟩
      case round =>
        obtain ⟨r, F, l', lv, hrl, rfl, hl', hr60, hP⟩ := hrel
        by_cases hlt : r < l.length ∧ r < 60
        · obtain ⟨b, off, cap', e, _, hb, hx⟩ := H.out.at_ (by omega)
          simp only [Value.slice.injEq, true_and] at e
          obtain ⟨rfl, rfl⟩ := e
          obtain ⟨A, ca, B, cb, c0, c1, c2, c3, c4, c5, c6, c7, v1, v2, m1, m2⟩ := hx r _ (List.getElem?_eq_getElem hlt.1)
          have hfit := HF.out _ (List.getElem_mem hlt.1)
          generalize l[r] = a at *
          obtain ⟨D1, n1, rfl, _, _⟩ := hP.row.form
          have HP := Lib.hid hP
          have CC := Lib.hid (fun (w' : World) (hw : Below w.heap.size w w') => acts_keep hw hb c0 c1 c2 c3 c4 c5 c6 c7)
          have VV := Lib.hid (And.intro v1 (And.intro v2 hfit))
          have h2 : (r : Int) < l.length := by omega
          have h3 : (r : Int) < 60 := by omega
          have h4 : ¬ (r : Int) < 0 := by omega
          obtain ⟨c0, c1, c2, c3, c4, c5, c6, c7⟩ := CC.out _ HP.out.bl
          clear hP hx v1 v2 hfit m1 m2
          have HL := Lib.hid (And.intro hl' hr60)
          clear hl' hr60
          go_upto_region 11 with (go_at_call 11; refine (does_any F s room l' a A B ca cb _ HP.out.ar h1 (VV.out.1.below HP.out.bl) (VV.out.2.1.below HP.out.bl) VV.out.2.2).mono ?_; rintro e w4 ⟨rfl, ha, ht⟩; obtain ⟨F2, hA2⟩ := HP.out.does ha ht; have Q := Lib.hid hA2; clear ha ht hA2)
          obtain ⟨d0, d1, _, _⟩ := cells2 Q.out.2.2.2.1
          obtain ⟨c0, c1, c2, c3, c4, c5, c6, c7⟩ := CC.out _ Q.out.2.2.1
          have l4 : dB < w4.heap.size := (Array.getElem?_eq_some_iff.1 Q.out.2.2.2.1).1
          have k4 : b < w4.heap.size := Nat.lt_of_lt_of_le hb Q.out.2.2.1.size
          have n4 : dB ≠ w4.heap.size := Nat.ne_of_lt l4
          have o4 : b ≠ w4.heap.size := Nat.ne_of_lt k4
          go_region_held3 (fun w' : World => w'.cell? ⟨dB, 0, none⟩ = some (.int .i64 room) ∧ w'.cell? ⟨dB, 1, none⟩ = some (.slice D1 l'.length n1) ∧ w'.cell? ⟨b, off + r * 8, none⟩ = some (.int .i64 a.kd) ∧ w'.cell? ⟨b, off + r * 8 + 1, none⟩ = some (.int .i64 a.n) ∧ w'.cell? ⟨b, off + r * 8 + 2, none⟩ = some (.int .i64 a.c.k) ∧ w'.cell? ⟨b, off + r * 8 + 3, none⟩ = some (.int .i64 a.c.sh) ∧ w'.cell? ⟨b, off + r * 8 + 4, none⟩ = some (.int .i64 a.c.fl) ∧ w'.cell? ⟨b, off + r * 8 + 5, none⟩ = some (.int .i64 a.c.ag) ∧ w'.cell? ⟨b, off + r * 8 + 6, none⟩ = some (.slice A a.c.sl.length ca) ∧ w'.cell? ⟨b, off + r * 8 + 7, none⟩ = some (.slice B a.c.mo.length cb)) (first | (and_intros <;> assumption) | (and_intros <;> go_simp)) (first
            | (go_at_call 12; refine (model_any (kone_holds w) room (.slice D1 l'.length n1) l' a A B ca cb _ (Q.out.2.2.2.2.1.below (by (repeat (with_reducible first | exact Below.refl _ _ | (refine bl_set ?_ (by first | omega | (simp; done) | (simp; omega)) _) | refine bl_gr ?_ _ | refine bl_al ?_ _ | refine below_setRow ?_ (by first | omega | (simp; done) | (simp; omega)) _ | refine bl_drewN ?_ _ | refine Below.drew ?_ | (refine bl_tr ?_ (by assumption)))))) (by have := HL.out; omega) h1 ⟨rfl, rfl, rfl, rfl, VV.out.1, VV.out.2.1⟩).mono ?_; rintro e w5 ⟨lv2, rfl, hs, hb5⟩; obtain ⟨D2, n2, rfl, _, _⟩ := hs.1.form; have B5 : Below w.heap.size w w5 := (by first | exact bl_tr Q.out.2.2.1 hb5 | exact bl_tr (Below.drew Q.out.2.2.1) hb5 | exact bl_tr (Below.drew (bl_al Q.out.2.2.1 _)) hb5); obtain ⟨c0, c1, c2, c3, c4, c5, c6, c7⟩ := CC.out _ B5; have st5 := (by first | exact (hb5.block dB l4).trans Q.out.2.2.2.1 | exact (hb5.block dB (by simp; omega)).trans ((heap_alloc_old _ _ l4).trans Q.out.2.2.2.1) : w5.heap[dB]? = some (rspO room (.slice D1 l'.length n1))); (try (have e5 : w5.heap[w4.heap.size]? = some (.cells #[.int .i64 0, .slice none 0 0] 31) := (hb5.block w4.heap.size (by simp)).trans (heap_alloc_new w4 _); obtain ⟨z0, z1, z2, z3⟩ := cells2 e5; have z4 := (Array.getElem?_eq_some_iff.1 e5).1; have E5 := Lib.hid e5; clear e5)); obtain ⟨d0, d1, _, _⟩ := cells2 st5; have l5 := (Array.getElem?_eq_some_iff.1 st5).1; have k5 : b < w5.heap.size := Nat.lt_of_lt_of_le hb B5.size; have n5 : dB ≠ w5.heap.size := Nat.ne_of_lt l5; have o5 : b ≠ w5.heap.size := Nat.ne_of_lt k5; have S := Lib.hid (And.intro hs (And.intro hb5 (And.intro B5 st5))); clear hs hb5 B5 st5))
          all_goals (go_upto_region 12 with fail)
          · have P2 := Lib.hid (Plays2.one Q.out HP.out.dlo S.out)
            generalize w5.heap.size = eB at P2 ⊢
            generalize w5.alloc _ = w6 at P2 ⊢
            (clear l4 k4 n4 o4 l5 k5 n5 o5; obtain ⟨d0, d1, d2, d3⟩ := cells2 P2.out.st; obtain ⟨x0, x1, _, _⟩ := cells2 P2.out.st2; go_upto_region 13 with fail; have P3 := Lib.hid P2.out.done; generalize World.setCell (World.setCell w6 _ _) _ _ = w7 at P3 ⊢; obtain ⟨y0, y1, _, _⟩ := cells2 P3.out.st; obtain ⟨_, y2, _, _, _, _, _, _⟩ := CC.out _ P3.out.bl; have SL := Lib.hid (stepD_len room l' a); have l7 := (Array.getElem?_eq_some_iff.1 P3.out.st).1; have k7 : b < w7.heap.size := Nat.lt_of_lt_of_le hb P3.out.bl.size; clear d0 d1 d2 d3 x0 x1 c0 c1 c2 c3 c4 c5 c6 c7 S Q P2; ((first | (with_reducible refine wp_quiet_gr Try.mixed ?_ ?_) | (with_reducible refine wp_quiet_any Try.mixed ?_ ?_)); (next => kernel_rfl); (repeat (quiet_step ((go_at_call 13; exact callQ (alike_any F2 s room a.n _ _ _ (P3.out.below (below_gr _ _)).ar (by have := SL.out; have := HL.out; omega) ((P3.out.below (below_gr _ _)).row.isC (P3.out.below (below_gr _ _)).bl)))))); refine wpQuiet_nil ?_; intro pq); go_wp2; go_roundw; (case rel => exact ⟨r + 1, F2, _, _, by omega, by go_num, by have := SL.out; have := HL.out; omega, by omega, P3.out.below (below_gr _ _)⟩); (case measure => simp [intOf]; omega))
          · have P2 := Lib.hid (Plays2.two Q.out HP.out.dlo S.out E5.out)
            generalize w4.heap.size = eB at P2 ⊢
            generalize World.setCell _ _ _ = w6 at P2 ⊢
            (clear l4 k4 n4 o4 l5 k5 n5 o5; obtain ⟨d0, d1, d2, d3⟩ := cells2 P2.out.st; obtain ⟨x0, x1, _, _⟩ := cells2 P2.out.st2; go_upto_region 13 with fail; have P3 := Lib.hid P2.out.done; generalize World.setCell (World.setCell w6 _ _) _ _ = w7 at P3 ⊢; obtain ⟨y0, y1, _, _⟩ := cells2 P3.out.st; obtain ⟨_, y2, _, _, _, _, _, _⟩ := CC.out _ P3.out.bl; have SL := Lib.hid (stepD_len room l' a); have l7 := (Array.getElem?_eq_some_iff.1 P3.out.st).1; have k7 : b < w7.heap.size := Nat.lt_of_lt_of_le hb P3.out.bl.size; clear d0 d1 d2 d3 x0 x1 c0 c1 c2 c3 c4 c5 c6 c7 S Q P2; ((first | (with_reducible refine wp_quiet_gr Try.mixed ?_ ?_) | (with_reducible refine wp_quiet_any Try.mixed ?_ ?_)); (next => kernel_rfl); (repeat (quiet_step ((go_at_call 13; exact callQ (alike_any F2 s room a.n _ _ _ (P3.out.below (below_gr _ _)).ar (by have := SL.out; have := HL.out; omega) ((P3.out.below (below_gr _ _)).row.isC (P3.out.below (below_gr _ _)).bl)))))); refine wpQuiet_nil ?_; intro pq); go_wp2; go_roundw; (case rel => exact ⟨r + 1, F2, _, _, by omega, by go_num, by have := SL.out; have := HL.out; omega, by omega, P3.out.below (below_gr _ _)⟩); (case measure => simp [intOf]; omega))
        · have HP := Lib.hid hP
          clear hP
          by_cases h2 : (r : Int) < l.length
          · have h3 : ¬ (r : Int) < 60 := by omega
            go_wp2_with ((go_at_call 8; refine (callGr (goes_any _)).mono ?_; rintro e w' ⟨pp, rfl, rfl⟩))
            go_ret
            exact ⟨rfl, bl_gr HP.out.bl _⟩
          · go_wp2_with ((go_at_call 8; refine (callGr (goes_any _)).mono ?_; rintro e w' ⟨pp, rfl, rfl⟩))
            go_ret
            exact ⟨rfl, bl_gr HP.out.bl _⟩
end Go.Proofs.Ytgajmhklinolmaa
