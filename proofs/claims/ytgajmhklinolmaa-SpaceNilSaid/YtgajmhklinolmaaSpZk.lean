/- Walk of SpaceApart. -/
import Derived.Test.YtgajmhklinolmaaSpZj
namespace Go.Proofs.Ytgajmhklinolmaa
set_option linter.all false
open Go.RowKit Go.Sort Go.Deep

theorem Plays.does2 {w wr w2 : World} {sB dB : Nat} {room : Int} {F F' : Nat → Prop} {l l2 : List CellD} {lv : Value} (h : Plays w sB dB room F l lv wr) (hA : Arena w2 F' sB room l2) (hF' : ∀ b, F' b → F b ∨ wr.heap.size ≤ b) (ht : Touch F wr w2) :
    Arena w2 F' sB room l2 ∧ (∀ b, F' b → w.heap.size ≤ b ∧ b ≠ dB) ∧ Below w.heap.size w w2 ∧ w2.heap[dB]? = some (rspO room lv) ∧ RowK (Holds6 w) w2 lv l ∧ (∀ b, lv.ownBlock = some b → b < w2.heap.size ∧ ¬ F' b ∧ b ≠ dB) := by
  have hd := (Array.getElem?_eq_some_iff.1 h.st).1
  have hz := h.bl.size
  refine ⟨hA, fun b hb => ?_, h.bl.trans (ht.below hz fun k hk => (h.lo k hk).1), (ht.block _ hd fun e => (h.lo _ e).2 rfl).trans h.st, h.row.touch ht fun b hb => (h.far b hb).2.1, fun b hb => ?_⟩
  · rcases hF' b hb with q | q
    · exact h.lo b q
    · exact ⟨by omega, by omega⟩
  · obtain ⟨q1, q2, q3⟩ := h.far b hb
    have := ht.size
    refine ⟨by omega, fun e => ?_, q3⟩
    rcases hF' b e with q | q
    · exact q2 q
    · omega

/-- the other arena, apart from the first -/
structure Oth (w : World) (sb dB : Nat) (room : Int) (F Fb : Nat → Prop) (lb : List CellD) (lv : Value) (wr : World) : Prop where
  ar : Arena wr Fb sb room lb
  lo : ∀ b, Fb b → w.heap.size ≤ b ∧ b ≠ dB ∧ ¬ F b ∧ lv.ownBlock ≠ some b
theorem Oth.below {w wr w2 : World} {sb dB : Nat} {room : Int} {F Fb : Nat → Prop} {lb : List CellD} {lv : Value} (h : Oth w sb dB room F Fb lb lv wr) (hb : Below wr.heap.size wr w2) : Oth w sb dB room F Fb lb lv w2 := ⟨h.ar.below hb, h.lo⟩
theorem Oth.doesA {w wr w2 : World} {sa sb dB : Nat} {room : Int} {F F' Fb : Nat → Prop} {l lb : List CellD} {lv : Value} (h : Oth w sb dB room F Fb lb lv wr) (hp : Plays w sa dB room F l lv wr) (hF' : ∀ b, F' b → F b ∨ wr.heap.size ≤ b) (ht : Touch F wr w2) : Oth w sb dB room F' Fb lb lv w2 :=
  ⟨h.ar.touch ht fun b hb => (h.lo b hb).2.2.1, fun b hb => by
    obtain ⟨a, c, d, e⟩ := h.lo b hb
    refine ⟨a, c, fun q => ?_, e⟩
    rcases hF' b q with q | q
    · exact d q
    · have := h.ar.low b hb
      omega⟩
theorem Oth.model {w w4 w6 : World} {sb dB : Nat} {room : Int} {F Fb : Nat → Prop} {lb : List CellD} {lv lv2 : Value} (h : Oth w sb dB room F Fb lb lv w4) (hb : Below w4.heap.size w4 w6) (hf : ∀ b, lv2.ownBlock = some b → lv.ownBlock = some b ∨ w4.heap.size ≤ b) : Oth w sb dB room F Fb lb lv2 w6 :=
  ⟨h.ar.below hb, fun b hb' => by
    obtain ⟨a, c, d, e⟩ := h.lo b hb'
    refine ⟨a, c, d, fun q => ?_⟩
    rcases hf b q with q | q
    · exact e q
    · have := h.ar.low b hb'
      omega⟩
theorem Oth.one {w w4 w5 : World} {sb dB : Nat} {room : Int} {F Fb : Nat → Prop} {l2 lb : List CellD} {lv lv2 : Value} (h : Oth w sb dB room F Fb lb lv w4)
    (s : RowS (Holds6 w) w4.drew w5 lv lv2 l2 ∧ Below w4.drew.heap.size w4.drew w5 ∧ Below w.heap.size w w5 ∧ w5.heap[dB]? = some (rspO room lv)) : Oth w sb dB room F Fb lb lv2 (w5.alloc (rspO room lv2)) := by
  have hb : Below w4.heap.size w4 w5 := Below.trans (b := w4.drew) (Below.drew (Below.refl _ _)) s.2.1
  refine h.model (bl_al hb _) fun b h => ?_
  rcases s.1.2 b h with e | ⟨e1, e2⟩
  · exact .inl e
  · exact .inr e1
theorem Oth.two {w w4 w5 : World} {sb dB : Nat} {room : Int} {F Fb : Nat → Prop} {l2 lb : List CellD} {lv lv2 : Value} {o : Obj} (h : Oth w sb dB room F Fb lb lv w4)
    (s : RowS (Holds6 w) (w4.alloc o).drew w5 lv lv2 l2 ∧ Below (w4.alloc o).drew.heap.size (w4.alloc o).drew w5 ∧ Below w.heap.size w w5 ∧ w5.heap[dB]? = some (rspO room lv)) (rm : Int) :
    Oth w sb dB room F Fb lb lv2 ((w5.setCell ⟨w4.heap.size, 0, none⟩ (.int .i64 rm)).setCell ⟨w4.heap.size, 1, none⟩ lv2) := by
  have hz : (w4.alloc o).drew.heap.size = w4.heap.size + 1 := by simp
  have hb : Below w4.heap.size w4 w5 := (Below.drew (bl_al (Below.refl _ _) o)).trans (s.2.1.mono (by omega))
  refine h.model (bl_set (bl_set hb (Nat.le_refl _) _) (Nat.le_refl _) _) fun b h => ?_
  rcases s.1.2 b h with e | ⟨e1, e2⟩
  · exact .inl e
  · exact .inr (by omega)
theorem Oth.done {w w6 : World} {sb dB : Nat} {room : Int} {F Fb : Nat → Prop} {lb : List CellD} {lv : Value} (h : Oth w sb dB room F Fb lb lv w6) (rm : Int) : Oth w sb dB room F Fb lb lv ((w6.setCell ⟨dB, 0, none⟩ (.int .i64 rm)).setCell ⟨dB, 1, none⟩ lv) :=
  ⟨h.ar.touch (G := fun b => b = dB) (((Touch.refl _ _).set1 _ _).set1 _ _) fun b hb => (h.lo b hb).2.1, h.lo⟩
/-- an operation on the other arena -/
theorem Oth.doesB {w wr w2 : World} {sa sb dB : Nat} {room : Int} {F Fb Fb' : Nat → Prop} {l lb lb' : List CellD} {lv : Value} (h : Oth w sb dB room F Fb lb lv wr) (hp : Plays w sa dB room F l lv wr) (hA : Arena w2 Fb' sb room lb') (hF' : ∀ b, Fb' b → Fb b ∨ wr.heap.size ≤ b) (ht : Touch Fb wr w2) :
    Plays w sa dB room F l lv w2 ∧ Oth w sb dB room F Fb' lb' lv w2 := by
  have hd := (Array.getElem?_eq_some_iff.1 hp.st).1
  have hz := hp.bl.size
  refine ⟨⟨hp.ar.touch ht fun b hb e => (h.lo b e).2.2.1 hb, hp.lo, hp.bl.trans (ht.below hz fun k hk => (h.lo k hk).1), (ht.block _ hd fun e => (h.lo _ e).2.1 rfl).trans hp.st, hp.row.touch ht fun b hb e => (h.lo b e).2.2.2 hb, fun b hb => ?_, hp.dlo⟩, hA, fun b hb => ?_⟩
  · obtain ⟨a, c, d⟩ := hp.far b hb
    exact ⟨Nat.lt_of_lt_of_le a ht.size, c, d⟩
  · rcases hF' b hb with q | q
    · exact h.lo b q
    · exact ⟨by omega, by omega, fun e => by have := Arena.low hp.ar b e; omega, fun e => by have := (hp.far b e).1; omega⟩
theorem two_start {w w1 w2 w3 : World} {sa sb : Nat} {room : Int} (h1 : Below w.heap.size w w1) (ha : NewP w1 w2 sa room) (hb : NewP w2 w3 sb room) (pp : Regrown) :
    Plays w sa (w3.heap.size + pp.os.size) room (fun b => b = sa) [] (.slice none 0 0) ((gr w3 pp).alloc (rspO room (.slice none 0 0))) ∧ Oth w sb (w3.heap.size + pp.os.size) room (fun b => b = sa) (fun b => b = sb) [] (.slice none 0 0) ((gr w3 pp).alloc (rspO room (.slice none 0 0))) := by
  obtain ⟨a1, a2, a3, a4⟩ := ha
  obtain ⟨b1, b2, b3, b4⟩ := hb
  have z1 := h1.size
  have z2 := a4.size
  have z3 := b4.size
  have hbl : Below w3.heap.size w3 ((gr w3 pp).alloc (rspO room (.slice none 0 0))) := bl_al (bl_gr (Below.refl _ _) pp) _
  refine ⟨⟨(a1.below b4).below hbl, fun b hb => ?_, bl_tr (bl_tr (bl_tr h1 a4) b4) hbl, by rw [← gr_size]; exact heap_alloc_new _ _, .nil_, fun b hb => by simp [Value.ownBlock] at hb, by omega⟩, b1.below hbl, fun b hb => ?_⟩
  · subst hb
    exact ⟨by omega, by omega⟩
  · subst hb
    exact ⟨by omega, by omega, fun e => by omega, by simp [Value.ownBlock]⟩

set_option maxRecDepth 100000 in
set_option maxHeartbeats 4000000 in
theorem spaceApart_any (room : Int) (v : Value) (l : List ActD) (w : World) (h : IsA w v l) (hf : ∀ a ∈ l, a.c.fit) :
    Calls Try.prog 6 #[.int .i64 room, v] w fun e w' => e = .returned (.bool true) ∧ Below w.heap.size w w' := by
  obtain ⟨A, cap, rfl, hca, hm⟩ := h.form
  have H := Lib.hid h
  have HF := Lib.hid hf
  unfold maxLen at hm
  clear h hf
  by_cases hr : room < 0 ∨ 1048576 < room
  · rcases hr with hr | hr
    · go_enter Try.func6, Try.ntmps6
      go_wp2_with (first
        | (go_at_call 7; refine (few_any _ l _ (H.out.below (by (repeat (with_reducible first | exact Below.refl _ _ | (refine bl_set ?_ (by first | omega | (simp; done) | (simp; omega)) _) | refine bl_gr ?_ _ | refine bl_al ?_ _ | refine below_setRow ?_ (by first | omega | (simp; done) | (simp; omega)) _ | refine bl_drewN ?_ _ | refine Below.drew ?_ | (refine bl_tr ?_ (by assumption))))))).mono ?_; rintro e w1 ⟨⟨b, rfl⟩, hb⟩; obtain ⟨pp, rfl⟩ := gr_of_below hb; clear hb)
        | (go_at_call 8; refine (callGr (goes_any _)).mono ?_; rintro e w' ⟨pp, rfl, rfl⟩))
      all_goals go_ret
      all_goals exact ⟨rfl, by (repeat (with_reducible first | exact Below.refl _ _ | (refine bl_set ?_ (by first | omega | (simp; done) | (simp; omega)) _) | refine bl_gr ?_ _ | refine bl_al ?_ _ | refine below_setRow ?_ (by first | omega | (simp; done) | (simp; omega)) _ | refine bl_drewN ?_ _ | refine Below.drew ?_ | (refine bl_tr ?_ (by assumption))))⟩
    · have h0 : ¬ room < 0 := by omega
      go_enter Try.func6, Try.ntmps6
      go_wp2_with (first
        | (go_at_call 7; refine (few_any _ l _ (H.out.below (by (repeat (with_reducible first | exact Below.refl _ _ | (refine bl_set ?_ (by first | omega | (simp; done) | (simp; omega)) _) | refine bl_gr ?_ _ | refine bl_al ?_ _ | refine below_setRow ?_ (by first | omega | (simp; done) | (simp; omega)) _ | refine bl_drewN ?_ _ | refine Below.drew ?_ | (refine bl_tr ?_ (by assumption))))))).mono ?_; rintro e w1 ⟨⟨b, rfl⟩, hb⟩; obtain ⟨pp, rfl⟩ := gr_of_below hb; clear hb)
        | (go_at_call 8; refine (callGr (goes_any _)).mono ?_; rintro e w' ⟨pp, rfl, rfl⟩))
      all_goals go_ret
      all_goals exact ⟨rfl, by (repeat (with_reducible first | exact Below.refl _ _ | (refine bl_set ?_ (by first | omega | (simp; done) | (simp; omega)) _) | refine bl_gr ?_ _ | refine bl_al ?_ _ | refine below_setRow ?_ (by first | omega | (simp; done) | (simp; omega)) _ | refine bl_drewN ?_ _ | refine Below.drew ?_ | (refine bl_tr ?_ (by assumption))))⟩
  · have h0 : 0 ≤ room := by omega
    have h1 : room ≤ 1048576 := by omega
    have h00 : ¬ room < 0 := by omega
    have h11 : ¬ 1048576 < room := by omega
    clear hr
    go_enter Try.func6, Try.ntmps6
    go_wp2_with (first
      | (go_at_call 7; refine (few_any _ l _ (H.out.below (by (repeat (with_reducible first | exact Below.refl _ _ | (refine bl_set ?_ (by first | omega | (simp; done) | (simp; omega)) _) | refine bl_gr ?_ _ | refine bl_al ?_ _ | refine below_setRow ?_ (by first | omega | (simp; done) | (simp; omega)) _ | refine bl_drewN ?_ _ | refine Below.drew ?_ | (refine bl_tr ?_ (by assumption))))))).mono ?_; rintro e w1 ⟨⟨b, rfl⟩, hb⟩; have B1 := Lib.hid hb; clear hb)
      | (go_at_call 8; refine (callGr (goes_any _)).mono ?_; rintro e w' ⟨pp, rfl, rfl⟩)
      | (go_at_call 9; have tok := N1; clear tok; refine (new_at room _ _ (Below.refl _ _) h0 h1).mono ?_; rintro e w3 ⟨sb, rfl, hn⟩; have N2 := Lib.hid hn; clear hn)
      | (go_at_call 9; refine (new_at room _ _ (Below.refl _ _) h0 h1).mono ?_; rintro e w2 ⟨sa, rfl, hn⟩; have N1 := Lib.hid hn; clear hn)
      | (go_at_call 10; refine (callGr (rnew_ok room _ h0 h1)).mono ?_; rintro e w' ⟨pn, rfl, rfl⟩))
    · have TS := Lib.hid (two_start B1.out N1.out N2.out pn)
      generalize w3.heap.size + pn.os.size = dB at TS ⊢
      generalize (gr w3 pn).alloc _ = w4 at TS ⊢
      go_loopw [11] (fun i wr => ∃ (r : Nat) (F : Nat → Prop) (l' : List CellD) (lv : Value) (Fb : Nat → Prop) (lb : List CellD), r ≤ l.length ∧ i = .int .i64 r ∧ l'.length ≤ r ∧ r ≤ 60 ∧ Plays w sa dB room F l' lv wr ∧ Oth w sb dB room F Fb lb lv wr) (fun i _ => l.length - (intOf i).toNat)
      case atStart => exact ⟨0, _, [], _, _, [], by omega, rfl, by simp, by omega, TS.out.1, TS.out.2⟩
      case round =>
        obtain ⟨r, F, l', lv, Fb, lb, hrl, rfl, hl', hr60, hP, hO⟩ := hrel
        have HO := Lib.hid hO
        clear hO
        by_cases hlt : r < l.length ∧ r < 60
        · obtain ⟨b, off, cap', e, _, hb, hx⟩ := H.out.at_ (by omega)
          simp only [Value.slice.injEq, true_and] at e
          obtain ⟨rfl, rfl⟩ := e
          obtain ⟨A, ca, B, cb, c0, c1, c2, c3, c4, c5, c6, c7, v1, v2, m1, m2⟩ := hx r _ (List.getElem?_eq_getElem hlt.1)
          have hfit := HF.out _ (List.getElem_mem hlt.1)
          generalize l[r] = a at *
          obtain ⟨D1, n1, rfl, _, _⟩ := hP.row.form
          have HP := Lib.hid hP
          have CC := Lib.hid (fun (w' : World) (hw : Below w.heap.size w w') => acts_keep hw hb c0 c1 c2 c3 c4 c5 c6 c7)
          have VV := Lib.hid (And.intro v1 (And.intro v2 hfit))
          have h2 : (r : Int) < l.length := by omega
          have h3 : (r : Int) < 60 := by omega
          have h4 : ¬ (r : Int) < 0 := by omega
          obtain ⟨c0, c1, c2, c3, c4, c5, c6, c7⟩ := CC.out _ HP.out.bl
          clear hP hx v1 v2 hfit m1 m2
          have HL := Lib.hid (And.intro hl' hr60)
          clear hl' hr60
          by_cases he : r % 2 = 0
          · have he1 : (((r : Int) % 2 == 0) = true) := by simp; omega
            go_wp2_with (go_at_call 11; refine (does_any Fb sb room lb a A B ca cb _ HO.out.ar h1 (VV.out.1.below HP.out.bl) (VV.out.2.1.below HP.out.bl) VV.out.2.2).mono ?_; rintro e w4 ⟨rfl, ha, ht⟩; obtain ⟨F2, hA2, hF2⟩ := ha; have Q := Lib.hid (HO.out.doesB HP.out hA2 hF2 ht); clear ht hA2 hF2)
            go_roundw
            case rel => exact ⟨r + 1, F, l', _, F2, _, by omega, by go_num, by have := HL.out; omega, by omega, Q.out.1, Q.out.2⟩
            case measure => simp [intOf]; omega
          · have he1 : (((r : Int) % 2 == 0) = false) := by simp; omega
            go_upto_region 14 with (go_at_call 11; refine (does_any F sa room l' a A B ca cb _ HP.out.ar h1 (VV.out.1.below HP.out.bl) (VV.out.2.1.below HP.out.bl) VV.out.2.2).mono ?_; rintro e w4 ⟨rfl, ha, ht⟩; obtain ⟨F2, hA2, hF2⟩ := ha; have Q := Lib.hid (HP.out.does2 hA2 hF2 ht); have OQ := Lib.hid (HO.out.doesA HP.out hF2 ht); clear ht hA2 hF2)
            obtain ⟨d0, d1, _, _⟩ := cells2 Q.out.2.2.2.1
            obtain ⟨c0, c1, c2, c3, c4, c5, c6, c7⟩ := CC.out _ Q.out.2.2.1
            have l4 : dB < w4.heap.size := (Array.getElem?_eq_some_iff.1 Q.out.2.2.2.1).1
            have k4 : b < w4.heap.size := Nat.lt_of_lt_of_le hb Q.out.2.2.1.size
            have n4 : dB ≠ w4.heap.size := Nat.ne_of_lt l4
            have o4 : b ≠ w4.heap.size := Nat.ne_of_lt k4
            go_region_held3 (fun w' : World => w'.cell? ⟨dB, 0, none⟩ = some (.int .i64 room) ∧ w'.cell? ⟨dB, 1, none⟩ = some (.slice D1 l'.length n1) ∧ w'.cell? ⟨b, off + r * 8, none⟩ = some (.int .i64 a.kd) ∧ w'.cell? ⟨b, off + r * 8 + 1, none⟩ = some (.int .i64 a.n) ∧ w'.cell? ⟨b, off + r * 8 + 2, none⟩ = some (.int .i64 a.c.k) ∧ w'.cell? ⟨b, off + r * 8 + 3, none⟩ = some (.int .i64 a.c.sh) ∧ w'.cell? ⟨b, off + r * 8 + 4, none⟩ = some (.int .i64 a.c.fl) ∧ w'.cell? ⟨b, off + r * 8 + 5, none⟩ = some (.int .i64 a.c.ag) ∧ w'.cell? ⟨b, off + r * 8 + 6, none⟩ = some (.slice A a.c.sl.length ca) ∧ w'.cell? ⟨b, off + r * 8 + 7, none⟩ = some (.slice B a.c.mo.length cb)) (first | (and_intros <;> assumption) | (and_intros <;> go_simp)) (first
              | (go_at_call 12; refine (model_any (kone_holds w) room (.slice D1 l'.length n1) l' a A B ca cb _ (Q.out.2.2.2.2.1.below (by (repeat (with_reducible first | exact Below.refl _ _ | (refine bl_set ?_ (by first | omega | (simp; done) | (simp; omega)) _) | refine bl_gr ?_ _ | refine bl_al ?_ _ | refine below_setRow ?_ (by first | omega | (simp; done) | (simp; omega)) _ | refine bl_drewN ?_ _ | refine Below.drew ?_ | (refine bl_tr ?_ (by assumption)))))) (by have := HL.out; omega) h1 ⟨rfl, rfl, rfl, rfl, VV.out.1, VV.out.2.1⟩).mono ?_; rintro e w5 ⟨lv2, rfl, hs, hb5⟩; obtain ⟨D2, n2, rfl, _, _⟩ := hs.1.form; have B5 : Below w.heap.size w w5 := (by first | exact bl_tr Q.out.2.2.1 hb5 | exact bl_tr (Below.drew Q.out.2.2.1) hb5 | exact bl_tr (Below.drew (bl_al Q.out.2.2.1 _)) hb5); obtain ⟨c0, c1, c2, c3, c4, c5, c6, c7⟩ := CC.out _ B5; have st5 := (by first | exact (hb5.block dB l4).trans Q.out.2.2.2.1 | exact (hb5.block dB (by simp; omega)).trans ((heap_alloc_old _ _ l4).trans Q.out.2.2.2.1) : w5.heap[dB]? = some (rspO room (.slice D1 l'.length n1))); (try (have e5 : w5.heap[w4.heap.size]? = some (.cells #[.int .i64 0, .slice none 0 0] 31) := (hb5.block w4.heap.size (by simp)).trans (heap_alloc_new w4 _); obtain ⟨z0, z1, z2, z3⟩ := cells2 e5; have z4 := (Array.getElem?_eq_some_iff.1 e5).1; have E5 := Lib.hid e5; clear e5)); obtain ⟨d0, d1, _, _⟩ := cells2 st5; have l5 := (Array.getElem?_eq_some_iff.1 st5).1; have k5 : b < w5.heap.size := Nat.lt_of_lt_of_le hb B5.size; have n5 : dB ≠ w5.heap.size := Nat.ne_of_lt l5; have o5 : b ≠ w5.heap.size := Nat.ne_of_lt k5; have S := Lib.hid (And.intro hs (And.intro hb5 (And.intro B5 st5))); clear hs hb5 B5 st5))
            all_goals (go_upto_region 15 with fail)
            · have P2 := Lib.hid (Plays2.one Q.out HP.out.dlo S.out)
              have O2 := Lib.hid (OQ.out.one S.out)
              generalize w5.heap.size = eB at P2 O2 ⊢
              generalize w5.alloc _ = w6 at P2 O2 ⊢
              (clear l4 k4 n4 o4 l5 k5 n5 o5; obtain ⟨d0, d1, d2, d3⟩ := cells2 P2.out.st; obtain ⟨x0, x1, _, _⟩ := cells2 P2.out.st2; go_upto_region 16 with fail; have P3 := Lib.hid P2.out.done; have O3 := Lib.hid (O2.out.done room); generalize World.setCell (World.setCell w6 _ _) _ _ = w7 at P3 O3 ⊢; obtain ⟨y0, y1, _, _⟩ := cells2 P3.out.st; obtain ⟨_, y2, _, _, _, _, _, _⟩ := CC.out _ P3.out.bl; have SL := Lib.hid (stepD_len room l' a); have l7 := (Array.getElem?_eq_some_iff.1 P3.out.st).1; have k7 : b < w7.heap.size := Nat.lt_of_lt_of_le hb P3.out.bl.size; clear d0 d1 d2 d3 x0 x1 c0 c1 c2 c3 c4 c5 c6 c7 S Q P2 O2 OQ; ((first | (with_reducible refine wp_quiet_gr Try.mixed ?_ ?_) | (with_reducible refine wp_quiet_any Try.mixed ?_ ?_)); (next => kernel_rfl); (repeat (quiet_step ((go_at_call 13; exact callQ (alike_any F2 sa room a.n _ _ _ (P3.out.below (below_gr _ _)).ar (by have := SL.out; have := HL.out; omega) ((P3.out.below (below_gr _ _)).row.isC (P3.out.below (below_gr _ _)).bl)))))); refine wpQuiet_nil ?_; intro pq); go_wp2; go_roundw; (case rel => exact ⟨r + 1, F2, _, _, _, _, by omega, by go_num, by have := SL.out; have := HL.out; omega, by omega, P3.out.below (below_gr _ _), O3.out.below (below_gr _ _)⟩); (case measure => simp [intOf]; omega))
            · have P2 := Lib.hid (Plays2.two Q.out HP.out.dlo S.out E5.out)
              have O2 := Lib.hid (OQ.out.two S.out room)
              generalize w4.heap.size = eB at P2 O2 ⊢
              generalize World.setCell _ _ _ = w6 at P2 O2 ⊢
              (clear l4 k4 n4 o4 l5 k5 n5 o5; obtain ⟨d0, d1, d2, d3⟩ := cells2 P2.out.st; obtain ⟨x0, x1, _, _⟩ := cells2 P2.out.st2; go_upto_region 16 with fail; have P3 := Lib.hid P2.out.done; have O3 := Lib.hid (O2.out.done room); generalize World.setCell (World.setCell w6 _ _) _ _ = w7 at P3 O3 ⊢; obtain ⟨y0, y1, _, _⟩ := cells2 P3.out.st; obtain ⟨_, y2, _, _, _, _, _, _⟩ := CC.out _ P3.out.bl; have SL := Lib.hid (stepD_len room l' a); have l7 := (Array.getElem?_eq_some_iff.1 P3.out.st).1; have k7 : b < w7.heap.size := Nat.lt_of_lt_of_le hb P3.out.bl.size; clear d0 d1 d2 d3 x0 x1 c0 c1 c2 c3 c4 c5 c6 c7 S Q P2 O2 OQ; ((first | (with_reducible refine wp_quiet_gr Try.mixed ?_ ?_) | (with_reducible refine wp_quiet_any Try.mixed ?_ ?_)); (next => kernel_rfl); (repeat (quiet_step ((go_at_call 13; exact callQ (alike_any F2 sa room a.n _ _ _ (P3.out.below (below_gr _ _)).ar (by have := SL.out; have := HL.out; omega) ((P3.out.below (below_gr _ _)).row.isC (P3.out.below (below_gr _ _)).bl)))))); refine wpQuiet_nil ?_; intro pq); go_wp2; go_roundw; (case rel => exact ⟨r + 1, F2, _, _, _, _, by omega, by go_num, by have := SL.out; have := HL.out; omega, by omega, P3.out.below (below_gr _ _), O3.out.below (below_gr _ _)⟩); (case measure => simp [intOf]; omega))
        · have HP := Lib.hid hP
          clear hP
          obtain ⟨D1, n1, hform, _, _⟩ := HP.out.row.form
          subst hform
          obtain ⟨d0, d1, _, _⟩ := cells2 HP.out.st
          have HL := Lib.hid (And.intro hl' hr60)
          clear hl' hr60
          by_cases h2 : (r : Int) < l.length
          · have h3 : ¬ (r : Int) < 60 := by omega
            go_wp2_with (first | (go_at_call 8; refine (callGr (goes_any _)).mono ?_; rintro e w' ⟨pp, rfl, rfl⟩) | (go_at_call 13; refine (callGr (alike_any F sa room 0 l' _ _ HP.out.ar (by have := HL.out; omega) (HP.out.row.isC HP.out.bl))).mono ?_; rintro e w' ⟨pp, rfl, rfl⟩))
            go_ret
            exact ⟨rfl, bl_gr HP.out.bl _⟩
          · go_wp2_with (first | (go_at_call 8; refine (callGr (goes_any _)).mono ?_; rintro e w' ⟨pp, rfl, rfl⟩) | (go_at_call 13; refine (callGr (alike_any F sa room 0 l' _ _ HP.out.ar (by have := HL.out; omega) (HP.out.row.isC HP.out.bl))).mono ?_; rintro e w' ⟨pp, rfl, rfl⟩))
            go_ret
            exact ⟨rfl, bl_gr HP.out.bl _⟩
    · go_ret
      exact ⟨rfl, bl_gr B1.out _⟩
end Go.Proofs.Ytgajmhklinolmaa
