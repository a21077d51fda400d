/- Walk of the law's alike. -/
import Derived.Test.YtgajmhklinolmaaSpZc
namespace Go.Proofs.Ytgajmhklinolmaa
set_option linter.all false
open Go.RowKit Go.Sort Go.Deep

set_option maxRecDepth 100000 in
set_option maxHeartbeats 2000000 in
theorem alike_any (F : Nat → Prop) (s : Nat) (room i : Int) (l : List CellD) (lv : Value) (w : World) (h : Arena w F s room l) (hl : l.length ≤ 1048576) (h1 : IsC w lv l) :
    Calls Try.prog 13 #[.pointer (some ⟨s, 0, none⟩), spV room lv, .int .i64 i] w fun e w' => e = .returned (.bool true) ∧ Below w.heap.size w w' := by
  obtain ⟨D, cap, rfl, hca, hm⟩ := h1.form
  have H := Lib.hid h
  have HV := Lib.hid h1
  have HL := Lib.hid hl
  have hs : s < w.heap.size := h.low s (by obtain ⟨rs, v, h⟩ := h; exact h.ins)
  clear h h1 hl
  go_enter Try.func13, Try.ntmps13
  go_upto_region 2 with (go_at_call 16; refine (all_any F s room l _ (H.out.below (by (repeat (with_reducible first | exact Below.refl _ _ | (refine bl_set ?_ (by first | omega | (simp; done) | (simp; omega)) _) | refine bl_gr ?_ _ | refine bl_al ?_ _ | refine below_setRow ?_ (by first | omega | (simp; done) | (simp; omega)) _ | refine bl_drewN ?_ _ | refine Below.drew ?_ | (refine bl_tr ?_ (by assumption)))))) HL.out).mono ?_; rintro e w1 ⟨v, rfl, hv, hb⟩; obtain ⟨D1, cap1, rfl, _, _⟩ := hv.isC.form; have b1 : Below w.heap.size w w1 := (by (repeat (with_reducible first | exact Below.refl _ _ | (refine bl_set ?_ (by first | omega | (simp; done) | (simp; omega)) _) | refine bl_gr ?_ _ | refine bl_al ?_ _ | refine below_setRow ?_ (by first | omega | (simp; done) | (simp; omega)) _ | refine bl_drewN ?_ _ | refine Below.drew ?_ | (refine bl_tr ?_ (by assumption))))); have r0 := (cells2 ((hb.block w.heap.size (by simp)).trans (heap_alloc_new w _))).1; have r1 := (cells2 ((hb.block w.heap.size (by simp)).trans (heap_alloc_new w _))).2.1; have b3 : w.heap.size < w1.heap.size := (by have := hb.size; simp at this; omega); have O := Lib.hid (And.intro hv (And.intro b1 ((hb.block w.heap.size (by simp)).trans (heap_alloc_new w _)))); clear hv b1 hb)
  have CL := Lib.hid (cells_any (.slice D1 l.length cap1) (.slice D l.length cap) l l)
  ((first | (with_reducible refine wp_quiet_gr Try.mixed ?_ ?_) | (with_reducible refine wp_quiet_any Try.mixed ?_ ?_)); (next => kernel_rfl); (repeat (quiet_step (first | (go_at_call 20; exact callQ (len_any F s room l _ ((H.out.below O.out.2.1).below (by (repeat (with_reducible first | exact Below.refl _ _ | (refine bl_set ?_ (by first | omega | (simp; done) | (simp; omega)) _) | refine bl_gr ?_ _ | refine bl_al ?_ _ | refine below_setRow ?_ (by first | omega | (simp; done) | (simp; omega)) _ | refine bl_drewN ?_ _ | refine Below.drew ?_ | (refine bl_tr ?_ (by assumption)))))))) | (go_at_call 22; exact callQ (room_any F s room l _ ((H.out.below O.out.2.1).below (by (repeat (with_reducible first | exact Below.refl _ _ | (refine bl_set ?_ (by first | omega | (simp; done) | (simp; omega)) _) | refine bl_gr ?_ _ | refine bl_al ?_ _ | refine below_setRow ?_ (by first | omega | (simp; done) | (simp; omega)) _ | refine bl_drewN ?_ _ | refine Below.drew ?_ | (refine bl_tr ?_ (by assumption)))))))) | (go_at_call 15; exact callQ (CL.out _ (O.out.1.isC.below (by (repeat (with_reducible first | exact Below.refl _ _ | (refine bl_set ?_ (by first | omega | (simp; done) | (simp; omega)) _) | refine bl_gr ?_ _ | refine bl_al ?_ _ | refine below_setRow ?_ (by first | omega | (simp; done) | (simp; omega)) _ | refine bl_drewN ?_ _ | refine Below.drew ?_ | (refine bl_tr ?_ (by assumption)))))) ((HV.out.below O.out.2.1).below (by (repeat (with_reducible first | exact Below.refl _ _ | (refine bl_set ?_ (by first | omega | (simp; done) | (simp; omega)) _) | refine bl_gr ?_ _ | refine bl_al ?_ _ | refine below_setRow ?_ (by first | omega | (simp; done) | (simp; omega)) _ | refine bl_drewN ?_ _ | refine Below.drew ?_ | (refine bl_tr ?_ (by assumption))))))))))); refine wpQuiet_nil ?_; intro pq)
  go_wp2
  go_loopw [39] (fun j wr => ∃ r : Nat, r ≤ l.length ∧ j = .int .i64 r ∧ RowT wr (w.heap.size + 1) (.slice D1 l.length cap1) l ∧ Below w.heap.size w wr ∧ wr.heap[w.heap.size]? = some (.cells #[.int .i64 room, .slice D l.length cap] 31)) (fun j _ => l.length - (intOf j).toNat)
  case atStart => exact ⟨0, by omega, rfl, (by have q := (O.out.1.below (below_gr w1 pq)).rowT; simpa using q), bl_gr O.out.2.1 pq, ((below_gr w1 pq).block _ b3).trans O.out.2.2⟩
  case round =>
    obtain ⟨r, hr, rfl, ht, hB, hbx⟩ := hrel
    by_cases hlt : r < l.length
    · have TT := Lib.hid ht
      obtain ⟨g, o, cp, k, sh, fl, ag, A, ca, B, cb, n, m, e, ho, hg, hm2, c0, c1, c2, c3, c4, c5, on1, on2, far⟩ := ht.at_ hlt
      simp only [Value.slice.injEq, true_and] at e
      obtain ⟨rfl, rfl⟩ := e
      have ON := Lib.hid (And.intro on1 (And.intro on2 far))
      have HB := Lib.hid (And.intro hB hbx)
      have h0 : ¬ (r : Int) < 0 := by omega
      have h1 : (r : Int) < l.length := by omega
      unfold maxLen at hm2
      clear on1 on2 far hB hbx ht ho r0 r1
      go_wp2_with (go_at_call 24; refine (touched_two _ _ _ _ _ _ n m _ ON.out.1 ON.out.2.1).mono ?_; rintro e w3 ⟨rfl, ht3, hk⟩; have T3 := Lib.hid (And.intro ht3 hk); clear ht3 hk)
      go_roundw
      case rel =>
        have q1 := HB.out.1.size
        have q2 := (Array.getElem?_eq_some_iff.1 HB.out.2).1
        exact ⟨r + 1, by omega, by go_num, TT.out.touch T3.out.2 T3.out.1 (fun b hb h => (ON.out.2.2 b h).2 hb), HB.out.1.trans (T3.out.1.below q1 fun k hk => by have := (ON.out.2.2 k hk).1; omega), (T3.out.1.block w.heap.size q2 fun e => by have := (ON.out.2.2 _ e).1; omega).trans HB.out.2⟩
      case measure => simp [intOf]; omega
    · have h1 : ¬ (r : Int) < l.length := by omega
      clear r0 r1
      obtain ⟨r0, r1, _, _⟩ := cells2 hbx
      have HB := Lib.hid (And.intro hB hbx)
      clear hB hbx ht
      have at9 := Lib.hid (at_any F s room l i)
      have rt9 := Lib.hid (rat_new w room (.slice D l.length cap) l i)
      generalize atD l i = d at at9 rt9
      go_upto_region 10 with (go_at_call 18; refine (at9.out _ (H.out.below HB.out.1)).mono ?_; rintro e w2 ⟨sv, mv, rfl, o1, o2, hb⟩; obtain ⟨A1, n1, rfl⟩ := o1.form; obtain ⟨A2, n2, rfl⟩ := o2.form; have q0 := (hb.block w.heap.size (Array.getElem?_eq_some_iff.1 HB.out.2).1).trans HB.out.2; obtain ⟨s0, s1, _, _⟩ := cells2 q0; have l2 := (Array.getElem?_eq_some_iff.1 q0).1; have n4 : w.heap.size ≠ w2.heap.size := (by omega); have O2 := Lib.hid (And.intro o1 (And.intro o2 (And.intro (HB.out.1.trans (hb.mono HB.out.1.size)) q0))); clear o1 o2 hb q0)
      clear r0 r1
      go_upto_region 11 with (go_at_call 28; refine (rt9.out _ (bl_al O2.out.2.2.1 _) HV.out).mono ?_; rintro e w4 ⟨sv2, mv2, rfl, v1, v2, hb⟩; obtain ⟨A3, n3, rfl, _, _⟩ := v1.form; obtain ⟨A4, n4', rfl, _, _⟩ := v2.form; obtain ⟨⟨a0, a1, a2, a3, a4, a5⟩, _⟩ := cells6 ((hb.block w2.heap.size (by simp)).trans (heap_alloc_new w2 _)); have l4 : w2.heap.size < w4.heap.size := (by have := hb.size; simp at this; omega); have n5 : w2.heap.size ≠ w4.heap.size := (by omega); have O4 := Lib.hid (And.intro v1 (And.intro v2 (And.intro (bl_tr (bl_al O2.out.2.2.1 _) hb) (And.intro (ownsRow_below (ownsRow_below O2.out.1 (bl_al (Below.refl _ _) _)) hb) (ownsRow_below (ownsRow_below O2.out.2.1 (bl_al (Below.refl _ _) _)) hb))))); clear v1 v2 hb)
      go_upto_region 13 with (go_at_call 19; refine (callGr (cell_any _ _ _ _ d.1 d.1 _ (OwnV.isV (ownsRow_below O4.out.2.2.2.1 (by (repeat (with_reducible first | exact Below.refl _ _ | (refine bl_set ?_ (by first | omega | (simp; done) | (simp; omega)) _) | refine bl_gr ?_ _ | refine bl_al ?_ _ | refine below_setRow ?_ (by first | omega | (simp; done) | (simp; omega)) _ | refine bl_drewN ?_ _ | refine Below.drew ?_ | (refine bl_tr ?_ (by assumption))))))) (OwnV.isV (ownsRow_below O4.out.2.2.2.2 (by (repeat (with_reducible first | exact Below.refl _ _ | (refine bl_set ?_ (by first | omega | (simp; done) | (simp; omega)) _) | refine bl_gr ?_ _ | refine bl_al ?_ _ | refine below_setRow ?_ (by first | omega | (simp; done) | (simp; omega)) _ | refine bl_drewN ?_ _ | refine Below.drew ?_ | (refine bl_tr ?_ (by assumption))))))) ((O4.out.1.below O4.out.2.2.1).below (by (repeat (with_reducible first | exact Below.refl _ _ | (refine bl_set ?_ (by first | omega | (simp; done) | (simp; omega)) _) | refine bl_gr ?_ _ | refine bl_al ?_ _ | refine below_setRow ?_ (by first | omega | (simp; done) | (simp; omega)) _ | refine bl_drewN ?_ _ | refine Below.drew ?_ | (refine bl_tr ?_ (by assumption)))))) ((O4.out.2.1.below O4.out.2.2.1).below (by (repeat (with_reducible first | exact Below.refl _ _ | (refine bl_set ?_ (by first | omega | (simp; done) | (simp; omega)) _) | refine bl_gr ?_ _ | refine bl_al ?_ _ | refine below_setRow ?_ (by first | omega | (simp; done) | (simp; omega)) _ | refine bl_drewN ?_ _ | refine Below.drew ?_ | (refine bl_tr ?_ (by assumption)))))))).mono ?_; rintro e w' ⟨pp, rfl, rfl⟩)
      clear s0 s1
      go_upto_region 14 with (go_at_call 24; refine (touched_any _ _ _ _ _ _ _ _ _ (OwnN.of (ownsRow_below O4.out.2.2.2.1 (by (repeat (with_reducible first | exact Below.refl _ _ | (refine bl_set ?_ (by first | omega | (simp; done) | (simp; omega)) _) | refine bl_gr ?_ _ | refine bl_al ?_ _ | refine below_setRow ?_ (by first | omega | (simp; done) | (simp; omega)) _ | refine bl_drewN ?_ _ | refine Below.drew ?_ | (refine bl_tr ?_ (by assumption))))))) (OwnN.of (ownsRow_below O4.out.2.2.2.2 (by (repeat (with_reducible first | exact Below.refl _ _ | (refine bl_set ?_ (by first | omega | (simp; done) | (simp; omega)) _) | refine bl_gr ?_ _ | refine bl_al ?_ _ | refine below_setRow ?_ (by first | omega | (simp; done) | (simp; omega)) _ | refine bl_drewN ?_ _ | refine Below.drew ?_ | (refine bl_tr ?_ (by assumption)))))))).mono ?_; rintro e w6 ⟨rfl, ht⟩; have z1 := O4.out.2.2.2.1.lt; have z2 := O4.out.2.2.2.2.lt; have T6 := Lib.hid (And.intro ht (And.intro z1 z2)); clear ht z1 z2)
      have q1 := HB.out.1.size
      have far : ∀ k, ((Value.slice A1 d.1.sl.length n1).ownBlock = some k ∨ (Value.slice A2 d.1.mo.length n2).ownBlock = some k) → w.heap.size ≤ k ∧ k < w4.heap.size := fun k hk => by
        rcases hk with hk | hk
        · have := T6.out.2.1 k hk
          omega
        · have := T6.out.2.2 k hk
          omega
      have B5 := bl_gr (bl_al O4.out.2.2.1 (cellO d.1.k d.1.sh d.1.fl d.1.ag (.slice A3 d.1.sl.length n3) (.slice A4 d.1.mo.length n4'))) pp
      have b6 : Below w.heap.size w w6 := B5.trans (T6.out.1.below B5.size fun k hk => (far k hk).1)
      have h6 := (T6.out.1.block w4.heap.size (by rw [gr_size]; simp; omega) (fun e => by have := (far _ e).2; omega)).trans (((below_gr (w4.alloc (cellO d.1.k d.1.sh d.1.fl d.1.ag (.slice A3 d.1.sl.length n3) (.slice A4 d.1.mo.length n4'))) pp).block w4.heap.size (by simp)).trans (heap_alloc_new w4 _))
      obtain ⟨⟨x0, x1, x2, x3, x4, x5⟩, _⟩ := cells6 h6
      have l6 := (Array.getElem?_eq_some_iff.1 h6).1
      have Z6 := Lib.hid (And.intro b6 h6)
      clear a0 a1 a2 a3 a4 a5 far B5 b6 h6 x0 x1 x2 x3 x4 x5
      go_wp2_with (first
        | (go_at_call 18; refine (at9.out _ (H.out.below Z6.out.1)).mono ?_; rintro e w8 ⟨sv, mv, rfl, o1, o2, hb⟩; obtain ⟨A5, n5', rfl⟩ := o1.form; obtain ⟨A6, n6', rfl⟩ := o2.form; obtain ⟨⟨x0, x1, x2, x3, x4, x5⟩, _⟩ := cells6 ((hb.block w4.heap.size l6).trans Z6.out.2); have l8 : w4.heap.size < w8.heap.size := (by have := hb.size; omega); have n8 : w4.heap.size ≠ w8.heap.size := (by omega); have O8 := Lib.hid (And.intro o1 (And.intro o2 (Z6.out.1.trans (hb.mono Z6.out.1.size)))); clear o1 o2 hb)
        | (go_at_call 19; refine (callGr (cell_any _ _ _ _ d.1 d.1 _ (OwnV.isV (ownsRow_below O8.out.1 (by (repeat (with_reducible first | exact Below.refl _ _ | (refine bl_set ?_ (by first | omega | (simp; done) | (simp; omega)) _) | refine bl_gr ?_ _ | refine bl_al ?_ _ | refine below_setRow ?_ (by first | omega | (simp; done) | (simp; omega)) _ | refine bl_drewN ?_ _ | refine Below.drew ?_ | (refine bl_tr ?_ (by assumption))))))) (OwnV.isV (ownsRow_below O8.out.2.1 (by (repeat (with_reducible first | exact Below.refl _ _ | (refine bl_set ?_ (by first | omega | (simp; done) | (simp; omega)) _) | refine bl_gr ?_ _ | refine bl_al ?_ _ | refine below_setRow ?_ (by first | omega | (simp; done) | (simp; omega)) _ | refine bl_drewN ?_ _ | refine Below.drew ?_ | (refine bl_tr ?_ (by assumption))))))) ((O4.out.1.below O8.out.2.2).below (by (repeat (with_reducible first | exact Below.refl _ _ | (refine bl_set ?_ (by first | omega | (simp; done) | (simp; omega)) _) | refine bl_gr ?_ _ | refine bl_al ?_ _ | refine below_setRow ?_ (by first | omega | (simp; done) | (simp; omega)) _ | refine bl_drewN ?_ _ | refine Below.drew ?_ | (refine bl_tr ?_ (by assumption)))))) ((O4.out.2.1.below O8.out.2.2).below (by (repeat (with_reducible first | exact Below.refl _ _ | (refine bl_set ?_ (by first | omega | (simp; done) | (simp; omega)) _) | refine bl_gr ?_ _ | refine bl_al ?_ _ | refine below_setRow ?_ (by first | omega | (simp; done) | (simp; omega)) _ | refine bl_drewN ?_ _ | refine Below.drew ?_ | (refine bl_tr ?_ (by assumption)))))))).mono ?_; rintro e w' ⟨pp, rfl, rfl⟩))
      go_ret
      exact ⟨by simp, bl_gr (bl_al O8.out.2.2 _) _⟩
end Go.Proofs.Ytgajmhklinolmaa
