/- Walk of SpaceList. -/
import Derived.Test.YtgajmhklinolmaaSpZk
namespace Go.Proofs.Ytgajmhklinolmaa
set_option linter.all false
open Go.RowKit Go.Sort Go.Deep

theorem gput (w wi : World) (s : Nat) (room : Int) (l : List CellD) (c : CellD) (k : Nat) (hk : l.length = k) (A B : Option Addr) (ca cb : Nat) (h : Held w wi s room l) (hl : l.length < room) (hr : room ≤ 1048576) (h1 : IsV wi (.slice A c.sl.length ca) c.sl) (h2 : IsV wi (.slice B c.mo.length cb) c.mo) (hf : c.fit) :
    Calls Try.prog 14 #[.pointer (some ⟨s, 0, none⟩), cellV c.k c.sh c.fl c.ag (.slice A c.sl.length ca) (.slice B c.mo.length cb)] wi fun e w' => e = .returned (.tuple #[.int .i64 k, .int .i64 0]) ∧ Held w w' s room (l ++ [c]) := by
  obtain ⟨F, hA, hF, hB⟩ := h
  subst hk
  exact (put_ok F s room l c A B ca cb wi hA hl hr h1 h2 hf).mono fun _ _ ⟨a, b, c⟩ => ⟨a, Held.step hF hB b c⟩
theorem gput_full (w wi : World) (s : Nat) (room : Int) (l : List CellD) (k sh fl ag : Int) (A B : Option Addr) (n ca m cb : Nat) (h : Held w wi s room l) (hl : room ≤ l.length) :
    Calls Try.prog 14 #[.pointer (some ⟨s, 0, none⟩), cellV k sh fl ag (.slice A n ca) (.slice B m cb)] wi fun e w' => e = .returned (.tuple #[.int .i64 0, .int .i64 5]) ∧ Held w w' s room l := by
  have H := h
  obtain ⟨F, hA, hF, hB⟩ := h
  exact (put_full F s room l k sh fl ag A B n ca m cb wi hA hl).mono fun _ _ ⟨a, b⟩ => ⟨a, H.below b⟩
theorem gset_out (w wi : World) (s : Nat) (room : Int) (l : List CellD) (i k sh fl ag : Int) (A B : Option Addr) (n ca m cb : Nat) (h : Held w wi s room l) (hl : i < 0 ∨ l.length ≤ i) :
    Calls Try.prog 17 #[.pointer (some ⟨s, 0, none⟩), .int .i64 i, cellV k sh fl ag (.slice A n ca) (.slice B m cb)] wi fun e w' => e = .returned (.int .i64 3) ∧ Held w w' s room l := by
  have H := h
  obtain ⟨F, hA, hF, hB⟩ := h
  exact (set_out F s room l i k sh fl ag A B n ca m cb wi hA hl).mono fun _ _ ⟨a, b⟩ => ⟨a, H.below b⟩
theorem gset_in (w wi : World) (s : Nat) (room : Int) (l : List CellD) (i : Nat) (c : CellD) (A B : Option Addr) (ca cb : Nat) (h : Held w wi s room l) (hi : i < l.length) (h1 : IsV wi (.slice A c.sl.length ca) c.sl) (h2 : IsV wi (.slice B c.mo.length cb) c.mo) (hf : c.fit) :
    Calls Try.prog 17 #[.pointer (some ⟨s, 0, none⟩), .int .i64 i, cellV c.k c.sh c.fl c.ag (.slice A c.sl.length ca) (.slice B c.mo.length cb)] wi fun e w' => e = .returned (.int .i64 0) ∧ Held w w' s room (l.set i c) := by
  obtain ⟨F, hA, hF, hB⟩ := h
  exact (set_in F s room l i c A B ca cb wi hA hi h1 h2 hf).mono fun _ _ ⟨a, b, c⟩ => ⟨a, Held.step hF hB b c⟩
theorem gall (w wi : World) (s : Nat) (room : Int) (l : List CellD) (h : Held w wi s room l) (hl : l.length ≤ 1048576) :
    Calls Try.prog 16 #[.pointer (some ⟨s, 0, none⟩)] wi fun e w' => ∃ v, e = .returned v ∧ IsC w' v l ∧ Held w w' s room l := by
  have H := h
  obtain ⟨F, hA, hF, hB⟩ := h
  exact (all_any F s room l wi hA hl).mono fun _ _ ⟨v, a, b, c⟩ => ⟨v, a, b.isC, H.below c⟩
theorem gat (w wi : World) (s : Nat) (room : Int) (l : List CellD) (i : Nat) (c : CellD) (h : Held w wi s room l) (hi : l[i]? = some c) :
    Calls Try.prog 18 #[.pointer (some ⟨s, 0, none⟩), .int .i64 i] wi fun e w' => ∃ sv mv, e = .returned (.tuple #[cellV c.k c.sh c.fl c.ag sv mv, .bool true]) ∧ IsV w' sv c.sl ∧ IsV w' mv c.mo ∧ Held w w' s room l := by
  have H := h
  obtain ⟨F, hA, hF, hB⟩ := h
  exact (at_in F s room l i c wi hA hi).mono fun _ _ ⟨sv, mv, a, b, c, _, d⟩ => ⟨sv, mv, a, OwnV.isV b, OwnV.isV c, H.below d⟩
theorem Held.bl {w wi : World} {s : Nat} {room : Int} {l : List CellD} (h : Held w wi s room l) : Below w.heap.size w wi := by
  obtain ⟨F, hA, hF, hB⟩ := h
  exact hB
theorem Held.start {w wr w2 : World} {s : Nat} {room : Int} (hb : Below w.heap.size w wr) (h : NewP wr w2 s room) : Held w w2 s room [] := by
  obtain ⟨a, b, c, d⟩ := h
  exact ⟨_, a, fun k hk => by have := hb.size; omega, bl_tr hb d⟩

theorem cell_self (sv mv tv nv : Value) (c : CellD) (w : World) (h1 : IsV w sv c.sl) (h2 : IsV w mv c.mo) (h3 : IsV w tv c.sl) (h4 : IsV w nv c.mo) :
    Calls Try.prog 19 #[cellV c.k c.sh c.fl c.ag sv mv, cellV c.k c.sh c.fl c.ag tv nv] w fun e w' => e = .returned (.bool true) ∧ Below w.heap.size w w' :=
  (cell_any sv mv tv nv c c w h1 h2 h3 h4).mono fun _ _ ⟨a, b⟩ => ⟨by rw [a]; simp, b⟩
theorem uint_mod (i : Int) (n : Nat) (h0 : 0 < n) (h : n ≤ 100) : ∃ k : Nat, k < n ∧ wrap64 ((IntKind.u64.wrap i).tmod n) = (k : Int) := by
  have e : IntKind.u64.wrap i = i % 18446744073709551616 := by rfl
  have h1 : 0 ≤ i % 18446744073709551616 := Int.emod_nonneg _ (by omega)
  rw [e, Int.tmod_eq_emod_of_nonneg h1]
  have h2 : 0 ≤ (i % 18446744073709551616) % (n : Int) := Int.emod_nonneg _ (by omega)
  have h3 : (i % 18446744073709551616) % (n : Int) < n := Int.emod_lt_of_pos _ (by omega)
  generalize (i % 18446744073709551616) % (n : Int) = j at h2 h3
  refine ⟨j.toNat, by omega, ?_⟩
  rw [IntWalk.wrap64_in _ (by omega)]
  omega
theorem cells_keep {w w' : World} {b o : Nat} {x0 x1 x2 x3 x4 x5 : Value} (hw : Below w.heap.size w w') (hb : b < w.heap.size) (c0 : w.cell? ⟨b, o, none⟩ = some x0) (c1 : w.cell? ⟨b, o + 1, none⟩ = some x1) (c2 : w.cell? ⟨b, o + 2, none⟩ = some x2)
    (c3 : w.cell? ⟨b, o + 3, none⟩ = some x3) (c4 : w.cell? ⟨b, o + 4, none⟩ = some x4) (c5 : w.cell? ⟨b, o + 5, none⟩ = some x5) :
    w'.cell? ⟨b, o, none⟩ = some x0 ∧ w'.cell? ⟨b, o + 1, none⟩ = some x1 ∧ w'.cell? ⟨b, o + 2, none⟩ = some x2 ∧ w'.cell? ⟨b, o + 3, none⟩ = some x3 ∧ w'.cell? ⟨b, o + 4, none⟩ = some x4 ∧ w'.cell? ⟨b, o + 5, none⟩ = some x5 := by
  have k : ∀ j, w'.cell? ⟨b, j, none⟩ = w.cell? ⟨b, j, none⟩ := fun j => hw.cell (p := ⟨b, j, none⟩) hb
  rw [k, k, k, k, k, k]
  exact ⟨c0, c1, c2, c3, c4, c5⟩

set_option maxRecDepth 100000 in
set_option maxHeartbeats 4000000 in
theorem spaceList_any (v : Value) (l : List CellD) (at' : Int) (c : CellD) (sv mv : Value) (w : World) (h : IsC w v l) (hf : ∀ c ∈ l, c.fit) (h1 : IsV w sv c.sl) (h2 : IsV w mv c.mo) (hc : c.fit) :
    Calls Try.prog 4 #[v, .int .i64 at', cellV c.k c.sh c.fl c.ag sv mv] w fun e w' => e = .returned (.bool true) ∧ Below w.heap.size w w' := by
  obtain ⟨A, cap, rfl, hca, hm⟩ := h.form
  obtain ⟨A1, n1, rfl, _, hm1⟩ := h1.form
  obtain ⟨A2, n2, rfl, _, hm2⟩ := h2.form
  have H := Lib.hid h
  have HF := Lib.hid hf
  have HC := Lib.hid (And.intro h1 (And.intro h2 hc))
  unfold maxLen at hm hm1 hm2
  clear h hf h1 h2 hc
  go_enter Try.func4, Try.ntmps4
  go_upto_region 1 with fail
  have hl0 := heap_alloc_new w (cellO c.k c.sh c.fl c.ag (.slice A1 c.sl.length n1) (.slice A2 c.mo.length n2))
  have hb0 := bl_al (Below.refl w.heap.size w) (cellO c.k c.sh c.fl c.ag (.slice A1 c.sl.length n1) (.slice A2 c.mo.length n2))
  have X := Lib.hid (And.intro hl0 (And.intro hb0 (And.intro (H.out.below hb0) (And.intro (HC.out.1.below hb0) (And.intro (HC.out.2.1.below hb0) HC.out.2.2)))))
  clear hl0 hb0 H HC
  generalize w.alloc _ = w1 at X ⊢
  obtain ⟨B0, hB0⟩ : ∃ B0, B0 = w.heap.size := ⟨_, rfl⟩
  rw [← hB0] at X ⊢
  have hend : ∀ w', Below w1.heap.size w1 w' → Below w.heap.size w w' := fun w' h => by rw [hB0] at X; exact bl_tr X.out.2.1 h
  have EN := Lib.hid hend
  clear hend hB0
  obtain ⟨⟨b0, b1, b2, b3, b4, b5⟩, _⟩ := cells6 X.out.1
  have bl1 := (Array.getElem?_eq_some_iff.1 X.out.1).1
  go_wp2
  clear b0 b1 b2 b3 b4 b5
  go_loopw [7, 29] (fun n j wr => ∃ (r : Nat) (m : Int), r ≤ l.length ∧ j = .int .i64 r ∧ n = .int .i64 m ∧ Below w1.heap.size w1 wr) (fun _ j _ => l.length - (intOf j).toNat)
  case atStart => exact ⟨0, _, by omega, rfl, rfl, Below.refl _ _⟩
  case round =>
    obtain ⟨r, m, hr, rfl, rfl, hB⟩ := hrel
    by_cases hlt : r < l.length
    · obtain ⟨b, off, cap', e, _, hb, hx⟩ := X.out.2.2.1.at_ (by omega)
      simp only [Value.slice.injEq, true_and] at e
      obtain ⟨rfl, rfl⟩ := e
      obtain ⟨sv, mv, c0, c1, c2, c3, c4, c5, v1, v2⟩ := hx r _ (List.getElem?_eq_getElem hlt)
      obtain ⟨A3, n3, rfl, _, m1⟩ := v1.form
      obtain ⟨A4, n4, rfl, _, m2⟩ := v2.form
      generalize l[r] = a at *
      have h0 : ¬ (r : Int) < 0 := by omega
      have h1 : (r : Int) < l.length := by omega
      have HB := Lib.hid hB
      have hbr : b < wr.heap.size := Nat.lt_of_lt_of_le hb hB.size
      rw [← hB.cell (p := ⟨b, _, none⟩) hb] at c4 c5
      unfold maxLen at m1 m2
      clear c0 c1 c2 c3 v1 v2 hx hB
      go_upto_region 5 with fail
      ((first | (with_reducible refine wp_quiet_gr Try.mixed ?_ ?_) | (with_reducible refine wp_quiet_any Try.mixed ?_ ?_)); (next => kernel_rfl); (repeat (with_reducible refine wpQuiet_step (fun K hK => ?_); go_simp; first | (refine hK _ ?_; clear hK K) | (apply Exists.intro; refine ⟨fun _ => ?_, hK _ ?_⟩; (fail); clear hK K))); refine wpQuiet_nil ?_; intro pq)
      go_wp2
      go_roundw
      case rel => exact ⟨r + 1, _, by omega, by go_num, rfl, bl_gr HB.out _⟩
      case measure => simp [intOf]; omega
    · have HB := Lib.hid hB
      clear hB
      have hle : ¬ (r : Int) < l.length := by omega
      by_cases h100 : l.length ≤ 100
      · go_wp2_with (first
          | (go_at_call 8; refine (callGr (goes_any _)).mono ?_; rintro e w' ⟨pp, rfl, rfl⟩)
          | (go_at_call 9; refine (new_at l.length _ _ (Below.refl _ _) (by omega) (by omega)).mono ?_; rintro e w2 ⟨s, rfl, hn⟩; have N := Lib.hid hn; clear hn))
        · go_ret
          exact ⟨rfl, EN.out _ (bl_gr HB.out _)⟩
        · have hs := Lib.hid (Held.start HB.out N.out)
          clear N HB
          go_loopw [72] (fun j wr => ∃ q : Nat, q ≤ l.length ∧ j = .int .i64 q ∧ Held w1 wr s l.length (l.take q)) (fun j _ => l.length - (intOf j).toNat)
          case atStart => exact ⟨0, by omega, rfl, hs.out⟩
          case round =>
            clear hs
            obtain ⟨q, hq, rfl, hH⟩ := hrel
            have HH := Lib.hid hH
            have hB := hH.bl
            clear hH
            by_cases hlt : q < l.length
            · obtain ⟨b, off, cap', e, _, hb, hx⟩ := X.out.2.2.1.at_ (by omega)
              simp only [Value.slice.injEq, true_and] at e
              obtain ⟨rfl, rfl⟩ := e
              obtain ⟨sv, mv, c0, c1, c2, c3, c4, c5, v1, v2⟩ := hx q _ (List.getElem?_eq_getElem hlt)
              obtain ⟨A3, n3, rfl, _, m1⟩ := v1.form
              obtain ⟨A4, n4, rfl, _, m2⟩ := v2.form
              have TK := Lib.hid (List.take_succ_eq_append_getElem hlt)
              have hfit := HF.out _ (List.getElem_mem hlt)
              generalize l[q] = a at *
              have V := Lib.hid (And.intro v1 (And.intro v2 hfit))
              have h0 : ¬ (q : Int) < 0 := by omega
              have h1 : (q : Int) < l.length := by omega
              have HB := Lib.hid hB
              rw [← hB.cell (p := ⟨b, _, none⟩) hb] at c0 c1 c2 c3 c4 c5
              unfold maxLen at m1 m2
              have LT := Lib.hid (List.length_take_of_le (Nat.le_of_lt hlt))
              clear v1 v2 hfit hx hB
              go_wp2_with (go_at_call 14; refine (gput w1 _ s l.length _ a q LT.out _ _ _ _ HH.out (by rw [LT.out]; omega) (by omega) (V.out.1.below HB.out) (V.out.2.1.below HB.out) V.out.2.2).mono ?_; rintro e w3 ⟨rfl, h⟩; have H3 := Lib.hid h; clear h)
              go_roundw
              case rel => exact ⟨q + 1, by omega, by go_num, by rw [TK.out]; exact H3.out⟩
              case measure => simp [intOf]; omega
            · have h1 : ¬ (q : Int) < l.length := by omega
              have EQ : l.take q = l := List.take_of_length_le (by omega)
              rw [EQ] at HH
              have l1 : B0 < wr.heap.size := Nat.lt_of_lt_of_le bl1 hB.size
              obtain ⟨⟨b0, b1, b2, b3, b4, b5⟩, _⟩ := cells6 ((hB.block B0 bl1).trans X.out.1)
              have HB := Lib.hid hB
              clear hB EQ
              have h100' : l.length ≤ 1048576 := by omega
              by_cases hz : l.length = 0
              · have hz1 : ((l.length : Int) == 0) = true := by simp [hz]
                have HZ := Lib.hid hz
                clear hz
                go_wp2_with (first
                  | (go_at_call 14; refine (gput_full w1 _ s _ l _ _ _ _ _ _ _ _ _ _ HH.out (Int.le_refl _)).mono ?_; rintro e w3 ⟨rfl, h⟩; obtain ⟨⟨b0, b1, b2, b3, b4, b5⟩, _⟩ := cells6 ((h.bl.block B0 bl1).trans X.out.1); have l3 : B0 < w3.heap.size := Nat.lt_of_lt_of_le bl1 h.bl.size; have H3 := Lib.hid h; clear h)
                  | (go_at_call 16; refine (gall w1 _ s _ l H3.out h100').mono ?_; rintro e w4 ⟨v, rfl, hv, h⟩; obtain ⟨D, cd, rfl, _, _⟩ := hv.form; obtain ⟨⟨b0, b1, b2, b3, b4, b5⟩, _⟩ := cells6 ((h.bl.block B0 bl1).trans X.out.1); have l3 : B0 < w4.heap.size := Nat.lt_of_lt_of_le bl1 h.bl.size; have H4 := Lib.hid (And.intro hv h); clear h hv)
                  | (go_at_call 15; refine (callGr (cells_any _ _ l l _ (H4.out.1.below (by (repeat (with_reducible first | exact Below.refl _ _ | (refine bl_set ?_ (by first | omega | (simp; done) | (simp; omega)) _) | refine bl_gr ?_ _ | refine bl_al ?_ _ | refine below_setRow ?_ (by first | omega | (simp; done) | (simp; omega)) _ | refine bl_drewN ?_ _ | refine Below.drew ?_ | (refine bl_tr ?_ (by assumption)))))) (X.out.2.2.1.below (bl_tr H4.out.2.bl (by (repeat (with_reducible first | exact Below.refl _ _ | (refine bl_set ?_ (by first | omega | (simp; done) | (simp; omega)) _) | refine bl_gr ?_ _ | refine bl_al ?_ _ | refine below_setRow ?_ (by first | omega | (simp; done) | (simp; omega)) _ | refine bl_drewN ?_ _ | refine Below.drew ?_ | (refine bl_tr ?_ (by assumption))))))))).mono ?_; rintro e w' ⟨pp, rfl, rfl⟩)
                  | (go_at_call 17; refine (gset_out w1 _ s _ l at' _ _ _ _ _ _ _ _ _ _ (H4.out.2.below (by (repeat (with_reducible first | exact Below.refl _ _ | (refine bl_set ?_ (by first | omega | (simp; done) | (simp; omega)) _) | refine bl_gr ?_ _ | refine bl_al ?_ _ | refine below_setRow ?_ (by first | omega | (simp; done) | (simp; omega)) _ | refine bl_drewN ?_ _ | refine Below.drew ?_ | (refine bl_tr ?_ (by assumption)))))) (by have := HZ.out; omega)).mono ?_; rintro e w5 ⟨rfl, h⟩; have H5 := Lib.hid h; clear h)
                  | (go_at_call 8; refine (callGr (goes_any _)).mono ?_; rintro e w' ⟨pp, rfl, rfl⟩))
                go_ret
                exact ⟨rfl, EN.out _ (bl_gr H5.out.bl _)⟩
              · have hz1 : ((l.length : Int) == 0) = false := beq_eq_false_iff_ne.2 (by omega)
                go_upto_region 25 with (first
                  | (go_at_call 14; refine (gput_full w1 _ s _ l _ _ _ _ _ _ _ _ _ _ HH.out (Int.le_refl _)).mono ?_; rintro e w3 ⟨rfl, h⟩; obtain ⟨⟨b0, b1, b2, b3, b4, b5⟩, _⟩ := cells6 ((h.bl.block B0 bl1).trans X.out.1); have l3 : B0 < w3.heap.size := Nat.lt_of_lt_of_le bl1 h.bl.size; have H3 := Lib.hid h; clear h)
                  | (go_at_call 16; refine (gall w1 _ s _ l H3.out h100').mono ?_; rintro e w4 ⟨v, rfl, hv, h⟩; obtain ⟨D, cd, rfl, _, _⟩ := hv.form; obtain ⟨⟨b0, b1, b2, b3, b4, b5⟩, _⟩ := cells6 ((h.bl.block B0 bl1).trans X.out.1); have l3 : B0 < w4.heap.size := Nat.lt_of_lt_of_le bl1 h.bl.size; have H4 := Lib.hid (And.intro hv h); clear h hv)
                  | (go_at_call 15; refine (callGr (cells_any _ _ l l _ (H4.out.1.below (by (repeat (with_reducible first | exact Below.refl _ _ | (refine bl_set ?_ (by first | omega | (simp; done) | (simp; omega)) _) | refine bl_gr ?_ _ | refine bl_al ?_ _ | refine below_setRow ?_ (by first | omega | (simp; done) | (simp; omega)) _ | refine bl_drewN ?_ _ | refine Below.drew ?_ | (refine bl_tr ?_ (by assumption)))))) (X.out.2.2.1.below (bl_tr H4.out.2.bl (by (repeat (with_reducible first | exact Below.refl _ _ | (refine bl_set ?_ (by first | omega | (simp; done) | (simp; omega)) _) | refine bl_gr ?_ _ | refine bl_al ?_ _ | refine below_setRow ?_ (by first | omega | (simp; done) | (simp; omega)) _ | refine bl_drewN ?_ _ | refine Below.drew ?_ | (refine bl_tr ?_ (by assumption))))))))).mono ?_; rintro e w' ⟨pp, rfl, rfl⟩))
                obtain ⟨k, hk, ek⟩ := uint_mod at' l.length (by omega) (by omega)
                rw [ek]
                have KK := Lib.hid ek
                clear ek
                go_upto_region 27 with (go_at_call 17; refine (gset_in w1 _ s _ l k c _ _ _ _ (H4.out.2.below (by (repeat (with_reducible first | exact Below.refl _ _ | (refine bl_set ?_ (by first | omega | (simp; done) | (simp; omega)) _) | refine bl_gr ?_ _ | refine bl_al ?_ _ | refine below_setRow ?_ (by first | omega | (simp; done) | (simp; omega)) _ | refine bl_drewN ?_ _ | refine Below.drew ?_ | (refine bl_tr ?_ (by assumption)))))) hk (X.out.2.2.2.1.below (bl_tr H4.out.2.bl (by (repeat (with_reducible first | exact Below.refl _ _ | (refine bl_set ?_ (by first | omega | (simp; done) | (simp; omega)) _) | refine bl_gr ?_ _ | refine bl_al ?_ _ | refine below_setRow ?_ (by first | omega | (simp; done) | (simp; omega)) _ | refine bl_drewN ?_ _ | refine Below.drew ?_ | (refine bl_tr ?_ (by assumption))))))) (X.out.2.2.2.2.1.below (bl_tr H4.out.2.bl (by (repeat (with_reducible first | exact Below.refl _ _ | (refine bl_set ?_ (by first | omega | (simp; done) | (simp; omega)) _) | refine bl_gr ?_ _ | refine bl_al ?_ _ | refine below_setRow ?_ (by first | omega | (simp; done) | (simp; omega)) _ | refine bl_drewN ?_ _ | refine Below.drew ?_ | (refine bl_tr ?_ (by assumption))))))) X.out.2.2.2.2.2).mono ?_; rintro e w5 ⟨rfl, h⟩; obtain ⟨⟨b0, b1, b2, b3, b4, b5⟩, _⟩ := cells6 ((h.bl.block B0 bl1).trans X.out.1); have l5 : B0 < w5.heap.size := Nat.lt_of_lt_of_le bl1 h.bl.size; have H5 := Lib.hid h; clear h)
                clear l1 l3 HH HB H3 H4
                go_wp2
                clear b0 b1 b2 b3 b4 b5
                go_loopw [132] (fun j wr => ∃ q : Nat, q ≤ l.length ∧ j = .int .i64 q ∧ Held w1 wr s l.length (l.set k c)) (fun j _ => l.length - (intOf j).toNat)
                case atStart => exact ⟨0, by omega, rfl, H5.out⟩
                case round =>
                  clear H5 l5
                  obtain ⟨q, hq, rfl, hH⟩ := hrel
                  have HH := Lib.hid hH
                  have hB := hH.bl
                  clear hH
                  by_cases hlt : q < l.length
                  · obtain ⟨b, off, cap', e, _, hb, hx⟩ := X.out.2.2.1.at_ (by omega)
                    simp only [Value.slice.injEq, true_and] at e
                    obtain ⟨rfl, rfl⟩ := e
                    obtain ⟨sv, mv, c0, c1, c2, c3, c4, c5, v1, v2⟩ := hx q _ (List.getElem?_eq_getElem hlt)
                    obtain ⟨A3, n3, rfl, _, m1⟩ := v1.form
                    obtain ⟨A4, n4, rfl, _, m2⟩ := v2.form
                    have h0 : ¬ (q : Int) < 0 := by omega
                    have h1 : (q : Int) < l.length := by omega
                    have EL := Lib.hid (List.getElem?_eq_getElem hlt)
                    generalize l[q] = a at *
                    have CC := Lib.hid (fun (w' : World) (hw : Below w1.heap.size w1 w') => cells_keep hw hb c0 c1 c2 c3 c4 c5)
                    have V := Lib.hid (And.intro v1 v2)
                    clear v1 v2 hx hB c0 c1 c2 c3 c4 c5
                    by_cases hqk : q = k
                    · have G := Lib.hid (show (l.set k c)[q]? = some c by rw [hqk, List.getElem?_set_self (by omega)])
                      have q1 : ((q : Int) != (k : Int)) = false := by rw [hqk]; simp
                      have q2 : ((q : Int) == (k : Int)) = true := by rw [hqk]; simp
                      have HQ := Lib.hid hqk
                      clear hqk
                      (go_upto_region 31 with (go_at_call 18; refine (gat w1 _ s _ (l.set k c) q c HH.out G.out).mono ?_; rintro e w6 ⟨sv, mv, rfl, o1, o2, h⟩; obtain ⟨A5, n5, rfl, _, _⟩ := o1.form; obtain ⟨A6, n6, rfl, _, _⟩ := o2.form; have H6 := Lib.hid (And.intro o1 (And.intro o2 h)); clear o1 o2 h); have hb6 := bl_al (Below.refl w6.heap.size w6) (cellO c.k c.sh c.fl c.ag (.slice A5 c.sl.length n5) (.slice A6 c.mo.length n6)); have Y := Lib.hid (And.intro (heap_alloc_new w6 (cellO c.k c.sh c.fl c.ag (.slice A5 c.sl.length n5) (.slice A6 c.mo.length n6))) (And.intro (H6.out.1.below hb6) (And.intro (H6.out.2.1.below hb6) (H6.out.2.2.below hb6)))); clear hb6 H6; generalize w6.heap.size = eB at Y ⊢; generalize w6.alloc _ = w7 at Y ⊢; obtain ⟨⟨x0, x1, x2, x3, x4, x5⟩, _⟩ := cells6 Y.out.1; have l7 := (Array.getElem?_eq_some_iff.1 Y.out.1).1; have hB7 := Y.out.2.2.2.bl; obtain ⟨⟨b0, b1, b2, b3, b4, b5⟩, _⟩ := cells6 ((hB7.block B0 bl1).trans X.out.1); have l8 : B0 < w7.heap.size := Nat.lt_of_lt_of_le bl1 hB7.size; obtain ⟨c0, c1, c2, c3, c4, c5⟩ := CC.out _ hB7; have l9 : b < w7.heap.size := Nat.lt_of_lt_of_le hb hB7.size; have HB7 := Lib.hid hB7; clear hB7; ((first | (with_reducible refine wp_quiet_gr Try.mixed ?_ ?_) | (with_reducible refine wp_quiet_any Try.mixed ?_ ?_)); (next => kernel_rfl); (repeat (with_reducible refine wpQuiet_step (fun K hK => ?_); go_simp; first | (refine hK _ ?_; clear hK K) | (apply Exists.intro; refine ⟨fun _ => ?_, hK _ ?_⟩; ((go_at_call 19; exact callQ (cell_self _ _ (.slice A1 c.sl.length n1) (.slice A2 c.mo.length n2) c _ (Y.out.2.1.gr _) (Y.out.2.2.1.gr _) (X.out.2.2.2.1.below (bl_gr HB7.out _)) (X.out.2.2.2.2.1.below (bl_gr HB7.out _))))); clear hK K))); refine wpQuiet_nil ?_; intro pq); go_wp2; go_roundw; (case rel => exact ⟨q + 1, by omega, by go_num, Y.out.2.2.2.below (below_gr _ _)⟩); (case measure => simp [intOf]; omega))
                    · have G := Lib.hid (show (l.set k c)[q]? = some a by rw [List.getElem?_set_ne (fun e => hqk e.symm)]; exact EL.out)
                      have q1 : ((q : Int) != (k : Int)) = true := bne_iff_ne.2 (by omega)
                      have q2 : ((q : Int) == (k : Int)) = false := beq_eq_false_iff_ne.2 (by omega)
                      have HQ := Lib.hid hqk
                      clear hqk
                      (go_upto_region 31 with (go_at_call 18; refine (gat w1 _ s _ (l.set k c) q a HH.out G.out).mono ?_; rintro e w6 ⟨sv, mv, rfl, o1, o2, h⟩; obtain ⟨A5, n5, rfl, _, _⟩ := o1.form; obtain ⟨A6, n6, rfl, _, _⟩ := o2.form; have H6 := Lib.hid (And.intro o1 (And.intro o2 h)); clear o1 o2 h); have hb6 := bl_al (Below.refl w6.heap.size w6) (cellO a.k a.sh a.fl a.ag (.slice A5 a.sl.length n5) (.slice A6 a.mo.length n6)); have Y := Lib.hid (And.intro (heap_alloc_new w6 (cellO a.k a.sh a.fl a.ag (.slice A5 a.sl.length n5) (.slice A6 a.mo.length n6))) (And.intro (H6.out.1.below hb6) (And.intro (H6.out.2.1.below hb6) (H6.out.2.2.below hb6)))); clear hb6 H6; generalize w6.heap.size = eB at Y ⊢; generalize w6.alloc _ = w7 at Y ⊢; obtain ⟨⟨x0, x1, x2, x3, x4, x5⟩, _⟩ := cells6 Y.out.1; have l7 := (Array.getElem?_eq_some_iff.1 Y.out.1).1; have hB7 := Y.out.2.2.2.bl; obtain ⟨⟨b0, b1, b2, b3, b4, b5⟩, _⟩ := cells6 ((hB7.block B0 bl1).trans X.out.1); have l8 : B0 < w7.heap.size := Nat.lt_of_lt_of_le bl1 hB7.size; obtain ⟨c0, c1, c2, c3, c4, c5⟩ := CC.out _ hB7; have l9 : b < w7.heap.size := Nat.lt_of_lt_of_le hb hB7.size; have HB7 := Lib.hid hB7; clear hB7; ((first | (with_reducible refine wp_quiet_gr Try.mixed ?_ ?_) | (with_reducible refine wp_quiet_any Try.mixed ?_ ?_)); (next => kernel_rfl); (repeat (with_reducible refine wpQuiet_step (fun K hK => ?_); go_simp; first | (refine hK _ ?_; clear hK K) | (apply Exists.intro; refine ⟨fun _ => ?_, hK _ ?_⟩; ((go_at_call 19; exact callQ (cell_self _ _ (.slice A3 a.sl.length n3) (.slice A4 a.mo.length n4) a _ (Y.out.2.1.gr _) (Y.out.2.2.1.gr _) (V.out.1.below (bl_gr HB7.out _)) (V.out.2.below (bl_gr HB7.out _))))); clear hK K))); refine wpQuiet_nil ?_; intro pq); go_wp2; go_roundw; (case rel => exact ⟨q + 1, by omega, by go_num, Y.out.2.2.2.below (below_gr _ _)⟩); (case measure => simp [intOf]; omega))
                  · have h1 : ¬ (q : Int) < l.length := by omega
                    have HB := Lib.hid hB
                    have LS := Lib.hid (show (l.set k c).length = l.length by rw [List.length_set])
                    clear hB
                    go_wp2_with (first
                      | (go_at_call 20; refine (hlen w1 _ s _ (l.set k c) HH.out).mono ?_; rw [LS.out]; rintro e w8 ⟨rfl, h⟩; have H8 := Lib.hid h; clear h)
                      | (go_at_call 8; refine (callGr (goes_any _)).mono ?_; rintro e w' ⟨pp, rfl, rfl⟩))
                    go_ret
                    exact ⟨rfl, EN.out _ (bl_gr H8.out.bl _)⟩
      · go_wp2_with ((go_at_call 8; refine (callGr (goes_any _)).mono ?_; rintro e w' ⟨pp, rfl, rfl⟩))
        go_ret
        exact ⟨rfl, EN.out _ (bl_gr HB.out _)⟩
end Go.Proofs.Ytgajmhklinolmaa
