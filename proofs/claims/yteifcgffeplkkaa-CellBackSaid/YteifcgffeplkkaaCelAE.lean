/- Cells: Moved, walked. -/
import Derived.Test.YteifcgffeplkkaaCelAD
import Derived.Deep.RegionWith
namespace Go.Proofs.Yteifcgffeplkkaa
set_option linter.all false
open Go.RowKit Go.Sort Go.Deep

theorem upd_same {f : Int → Option Int} {x t : Int} (h : f x = none) (a : Int) : upd f x t a = (f a).or (if x == a then some t else none) := by
  unfold upd
  by_cases e : a = x
  · subst e; simp [h]
  · have : (x == a) = false := by simp; exact fun h => e h.symm
    simp [e, this]
theorem upd_two (f : Int → Option Int) (x s t : Int) (a : Int) : upd (upd f x s) x t a = upd f x t a := by
  unfold upd; by_cases e : a = x <;> simp [e]
theorem wp_world {P : Program} {c : Code} {Q : Exit → Act → World → Prop} {a : Act} {w : World} (C : World → Prop) (hC : C w) (h : ∀ w', C w' → c.wp P Q a w') : c.wp P Q a w := h w hC
theorem kept_some {f : Int → Option Int} {x t y : Int} (h : f x = some y) (a : Int) : f a = (f a).or (if x == a then some t else none) := by
  by_cases e : x = a
  · subst e; simp [h]
  · have : (x == a) = false := by simpa using e
    simp [this]

set_option maxRecDepth 100000 in
set_option maxHeartbeats 8000000 in
theorem moved_any (sv mv fv tv : Value) (c : CellD) (fr tl : List Int) (hc : c.ok) (hfr : ∀ x ∈ fr, i64ok x) (htl : ∀ x ∈ tl, i64ok x) (hf : c.fit) (hlen : fr.length ≤ 100000) (w : World) (h1 : IsV w sv c.sl) (h2 : IsV w mv c.mo) (h3 : IsI w fv fr) (h4 : IsI w tv tl) :
    Calls Try.prog 23 #[cellV c.k c.sh c.fl c.ag sv mv, fv, tv] w fun e w' => ∃ s m, e = .returned (cellV c.k c.sh c.fl c.ag s m) ∧ IsV w' s (c.sl.map (movV (pairsM fr tl))) ∧ IsV w' m (c.mo.map (movV (pairsM fr tl))) ∧ Below w.heap.size w w' := by
  have H1 := Lib.hid h1
  have H2 := Lib.hid h2
  have H3 := Lib.hid h3
  have H4 := Lib.hid h4
  have F := Lib.hid hf
  have OK1 := Lib.hid hc.2.2.2.2.1
  have OK2 := Lib.hid hc.2.2.2.2.2
  have OF := Lib.hid hfr
  have OT := Lib.hid htl
  obtain ⟨A3, n3, rfl, _, hm3⟩ := h3.form
  obtain ⟨A4, n4, rfl, _, hm4⟩ := h4.form
  have fl1 := hf.1.le
  have fl2 := hf.2.le
  unfold maxLen at hm3 hm4
  clear h1 h2 h3 h4 hf hc hfr htl
  have hmk := run_makeMapI
  go_enter Try.func23, Try.ntmps23
  go_upto_region 2 with fail
  clear hmk
  have p1 : (((w.alloc (cellO c.k c.sh c.fl c.ag sv mv)).alloc (cellO 0 0 0 0 (.slice none 0 0) (.slice none 0 0))).alloc (.map #[] 0)).heap[w.heap.size]? = _ := hq_0 _ _ _ _
  have p2 : (((w.alloc (cellO c.k c.sh c.fl c.ag sv mv)).alloc (cellO 0 0 0 0 (.slice none 0 0) (.slice none 0 0))).alloc (.map #[] 0)).heap[w.heap.size + 1]? = _ := hq_1 _ _ _ _
  have p3 : MapI (((w.alloc (cellO c.k c.sh c.fl c.ag sv mv)).alloc (cellO 0 0 0 0 (.slice none 0 0) (.slice none 0 0))).alloc (.map #[] 0)) (w.heap.size + 1 + 1) 0 (fun _ => none) := by
    have := MapI.made ((w.alloc (cellO c.k c.sh c.fl c.ag sv mv)).alloc (cellO 0 0 0 0 (.slice none 0 0) (.slice none 0 0)))
    simpa using this
  have pb : Below w.heap.size w (((w.alloc (cellO c.k c.sh c.fl c.ag sv mv)).alloc (cellO 0 0 0 0 (.slice none 0 0) (.slice none 0 0))).alloc (.map #[] 0)) := by (repeat (with_reducible first | exact Below.refl _ _ | (refine bl_set ?_ (by first | omega | (simp; done) | (simp; omega)) _) | refine bl_gr ?_ _ | refine bl_al ?_ _ | refine below_setRow ?_ (by first | omega | (simp; done) | (simp; omega)) _ | refine bl_drewN ?_ _ | refine Below.drew ?_ | (refine bl_tr ?_ (by assumption))))
  generalize hW : ((w.alloc _).alloc _).alloc _ = w1 at p1 p2 p3 pb ⊢
  clear hW
  have P1 := Lib.hid p1
  have P2 := Lib.hid p2
  have P3 := Lib.hid p3
  have PB := Lib.hid pb
  have SS := Lib.hid p3.lt
  clear p1 p2 p3 pb
  generalize hBB : w.heap.size + 1 + 1 = BB at *
  have ZB := Lib.hid hBB
  clear hBB
  go_wp2
  go_loopw [23] (fun i wr => ∃ (k N : Nat), k ≤ fr.length ∧ i = .int .i64 k ∧ N ≤ 2 * k ∧ MapI wr BB N (lookP ((pairsM fr tl).take k)) ∧ Touch (fun b => b = BB) w1 wr) (fun i _ => fr.length - (intOf i).toNat)
  case atStart => exact ⟨0, 0, by omega, rfl, by omega, P3.out, Touch.refl _ _⟩
  case round =>
    obtain ⟨k, N, hk, rfl, hN, hM, hT⟩ := hrel
    have hB : Below w.heap.size w wr := (PB.out).trans (hT.below PB.out.size (fun i e => by have := ZB.out; omega))
    have M0 := Lib.hid hM
    have T0 := Lib.hid hT
    by_cases hlt : k < fr.length
    · obtain ⟨b1', o1, _, e1, _, hb1, hx⟩ := (H3.out.below hB).at_ (by omega)
      simp only [Value.slice.injEq] at e1
      obtain ⟨rfl, _, rfl⟩ := e1
      obtain ⟨x, ex⟩ : ∃ x, fr[k]? = some x := ⟨_, List.getElem?_eq_getElem hlt⟩
      have cx0 : wr.cell? ⟨b1', o1 + k, none⟩ = some (.int .i64 x) := by have := hx k x ex 0 _ rfl; simpa using this
      have XO := Lib.hid (OF.out x (List.mem_of_getElem? ex))
      have LS := Lib.hid (lookP_step (pairsM_at (tl := tl) ex))
      have q1 : (k : Int) < fr.length := by omega
      cases hl : lookP ((pairsM fr tl).take k) x with
      | some y =>
        have HL := Lib.hid hl
        clear hx ex hM hT hB hl
        go_wp2_with (at_lookup; refine wpList_lookI rfl _ _ rfl rfl rfl M0.out XO.out HL.out ?_)
        go_roundw
        case rel => exact ⟨k + 1, N, by omega, by go_num, by omega, M0.out.congr (fun a => by rw [LS.out]; exact kept_some HL.out a), T0.out⟩
        case measure => simp [intOf]; omega
      | none =>
        have HL := Lib.hid hl
        by_cases hlt2 : k < tl.length
        · obtain ⟨b2', o2, _, e2, _, hb2, hy⟩ := H4.out.at_ (by omega)
          simp only [Value.slice.injEq] at e2
          obtain ⟨rfl, _, rfl⟩ := e2
          obtain ⟨y, ey⟩ : ∃ y, tl[k]? = some y := ⟨_, List.getElem?_eq_getElem hlt2⟩
          have cy : w.cell? ⟨b2', o2 + k, none⟩ = some (.int .i64 y) := by have := hy k y ey 0 _ rfl; simpa using this
          have YO := Lib.hid (OT.out y (List.mem_of_getElem? ey))
          have q2 : (k : Int) < tl.length := by omega
          have CY := Lib.hid (fun (W : World) (h : Below w.heap.size w W) => (h.cell (p := ⟨b2', o2 + k, none⟩) hb2).trans cy)
          have EY := Lib.hid (show (tl[k]?).getD x = y by rw [ey]; rfl)
          have HB := Lib.hid hB
          clear hx ex hM hT hB hl hy ey cy
          go_wp2_with (first
            | (at_lookup; refine wpList_lookI rfl _ _ rfl rfl rfl M0.out XO.out HL.out ?_)
            | (at_mapUpdate; refine wpList_setI rfl _ _ _ rfl rfl rfl rfl M5.out (by unfold maxLen; omega) XO.out YO.out ?_; intro w6 h6 g6; have M6 := Lib.hid h6; have G6 := Lib.hid g6; clear h6 g6)
            | (at_mapUpdate; refine wpList_setI rfl _ _ _ rfl rfl rfl rfl M0.out (by unfold maxLen; omega) XO.out XO.out ?_; intro w5 h5 g5; have M5 := Lib.hid h5; have G5 := Lib.hid g5; have cy5 := CY.out w5 (HB.out.trans (grownBy_below g5 (by have := ZB.out; omega) HB.out.size)); clear h5 g5))
          go_roundw
          case rel =>
            refine ⟨k + 1, N + 1 + 1, by omega, by go_num, by omega, M6.out.congr (fun a => ?_), ?_⟩
            · rw [upd_two, LS.out, EY.out]; exact upd_same HL.out a
            · exact (T0.out.trans ⟨G5.out.os, G5.out.tape, G5.out.output, G5.out.size, fun k hk hn => G5.out.block k hk (by simpa using hn)⟩ (fun _ _ h => h)).trans ⟨G6.out.os, G6.out.tape, G6.out.output, G6.out.size, fun k hk hn => G6.out.block k hk (by simpa using hn)⟩ (fun _ _ h => h)
          case measure => simp [intOf]; omega
        · have q2 : ¬ (k : Int) < tl.length := by omega
          have EY := Lib.hid (show (tl[k]?).getD x = x by rw [List.getElem?_eq_none (by omega)]; rfl)
          clear hx ex hM hT hB hl
          go_wp2_with (first
            | (at_lookup; refine wpList_lookI rfl _ _ rfl rfl rfl M0.out XO.out HL.out ?_)
            | (at_mapUpdate; refine wpList_setI rfl _ _ _ rfl rfl rfl rfl M0.out (by unfold maxLen; omega) XO.out XO.out ?_; intro w5 h5 g5; have M5 := Lib.hid h5; have G5 := Lib.hid g5; clear h5 g5))
          go_roundw
          case rel =>
            refine ⟨k + 1, N + 1, by omega, by go_num, by omega, M5.out.congr (fun a => ?_), ?_⟩
            · rw [LS.out, EY.out]; exact upd_same HL.out a
            · exact T0.out.trans ⟨G5.out.os, G5.out.tape, G5.out.output, G5.out.size, fun k hk hn => G5.out.block k hk (by simpa using hn)⟩ (fun _ _ h => h)
          case measure => simp [intOf]; omega
    · have q1 : ¬ (k : Int) < fr.length := by omega
      have sz := hT.size
      have k1 : wr.heap[w.heap.size]? = some (cellO c.k c.sh c.fl c.ag sv mv) := (hT.block _ (by have := SS.out; have := ZB.out; omega) (by have := ZB.out; omega)).trans P1.out
      have k2 : wr.heap[w.heap.size + 1]? = some (cellO 0 0 0 0 (.slice none 0 0) (.slice none 0 0)) := (hT.block _ (by have := SS.out; have := ZB.out; omega) (by have := ZB.out; omega)).trans P2.out
      have MM := Lib.hid (hM.congr (fun a => lookP_all (by rw [pairsM_len]; omega) a))
      have lB : w.heap.size < wr.heap.size := (Array.getElem?_eq_some_iff.1 k1).1
      have lB1 : w.heap.size + 1 < wr.heap.size := (Array.getElem?_eq_some_iff.1 k2).1
      have J1 := Lib.hid (H1.out.below hB)
      have J2 := Lib.hid (H2.out.below hB)
      have HB := Lib.hid hB
      obtain ⟨⟨a0, a1, a2, a3, a4, a5⟩, _⟩ := cells6 k1
      have K1 := Lib.hid (And.intro k1 k2)
      clear hM hT hB k1 k2 M0 T0 H1 H2 H3 H4 P1 P2 P3
      go_upto_region 12 with (go_at_call 21; refine (copy_any sv mv c _ J1.out J2.out F.out).mono ?_; rintro e w3 ⟨A5, n5, A6, n6, rfl, o1, o2, od, hb⟩; obtain ⟨⟨d0, d1, d2, d3, d4, d5⟩, g0, g1, g2, g3, g4, g5⟩ := cells6 ((hb.block _ lB).trans K1.out.1); have OO := Lib.hid (And.intro o1 (And.intro o2 (And.intro od hb))); clear o1 o2 od hb)
      obtain ⟨w5, hw5⟩ : ∃ w5, w5 = ((((((w3.setCell ⟨w.heap.size, 0, none⟩ (.int .i64 c.k)).setCell ⟨w.heap.size, 1, none⟩ (.int .i64 c.sh)).setCell ⟨w.heap.size, 2, none⟩ (.int .i64 c.fl)).setCell ⟨w.heap.size, 3, none⟩ (.int .i64 c.ag)).setCell ⟨w.heap.size, 4, none⟩ (.slice A5 c.sl.length n5)).setCell ⟨w.heap.size, 5, none⟩ (.slice A6 c.mo.length n6)) := ⟨_, rfl⟩
      rw [← hw5]
      have jt : Touch (fun b => b = w.heap.size) w3 w5 := by
        rw [hw5]
        exact (((((((Touch.refl _ _).set1 _ _).set1 _ _).set1 _ _).set1 _ _).set1 _ _).set1 _ _)
      have hb := OO.out.2.2.2
      have s3 := hb.size
      have j1 : w5.heap[w.heap.size]? = some (cellO c.k c.sh c.fl c.ag (.slice A5 c.sl.length n5) (.slice A6 c.mo.length n6)) := by
        rw [hw5]
        exact heap_setCell_same _ _ _ _ _ _ (heap_setCell_same _ _ _ _ _ _ (heap_setCell_same _ _ _ _ _ _ (heap_setCell_same _ _ _ _ _ _ (heap_setCell_same _ _ _ _ _ _ (heap_setCell_same _ _ _ _ _ _ ((hb.block _ lB).trans K1.out.1))))))
      have j2 : w5.heap[w.heap.size + 1]? = some (cellO 0 0 0 0 (.slice none 0 0) (.slice none 0 0)) := (jt.block _ (by omega) (by omega)).trans ((hb.block _ lB1).trans K1.out.2)
      have j3 : OwnV w5 wr.heap.size (.slice A5 c.sl.length n5) c.sl := ownsRow_touch OO.out.1 jt (fun g hg e => by have := (OO.out.1.lt _ hg).1; omega)
      have j4 : OwnV w5 wr.heap.size (.slice A6 c.mo.length n6) c.mo := ownsRow_touch OO.out.2.1 jt (fun g hg e => by have := (OO.out.2.1.lt _ hg).1; omega)
      have lBB := MM.out.lt
      have j5 : MapI w5 BB N (lookP (pairsM fr tl)) := (MM.out.below hb).block (jt.block BB (by omega) (by have := ZB.out; omega))
      have j6 : Below w.heap.size w w5 := (HB.out.trans (hb.mono HB.out.size)).trans (jt.below (Nat.le_trans HB.out.size s3) (fun k e => by omega))
      have s5 := jt.size
      clear a0 a1 a2 a3 a4 a5 d0 d1 d2 d3 d4 d5 g0 g1 g2 g3 g4 g5 hw5 jt hb J1 J2 HB MM K1 q1 hlt hk sz
      obtain ⟨⟨a0, a1, a2, a3, a4, a5⟩, _⟩ := cells6 j1
      have F0 := Lib.hid (And.intro j1 (And.intro j2 (And.intro j3 (And.intro j4 (And.intro j5 j6)))))
      have OD := Lib.hid OO.out.2.2.1
      have SZ := Lib.hid (And.intro lB (And.intro lB1 (And.intro lBB (And.intro s3 s5))))
      clear j1 j2 j3 j4 j5 j6 OO lB lB1 lBB s3 s5
      generalize hlo : wr.heap.size = lo at *
      clear hlo
      go_wp2
      clear a0 a1 a2 a3 a4 a5
      have l6 := heap_alloc_new w5 (.cells #[(.slice A5 c.sl.length n5), (.slice A6 c.mo.length n6)] 22)
      have b6 := bl_al (Below.refl w5.heap.size w5) (.cells #[(.slice A5 c.sl.length n5), (.slice A6 c.mo.length n6)] 22)
      generalize hw6 : w5.alloc _ = w6 at l6 b6 ⊢
      clear hw6
      generalize hLB : w5.heap.size = LB at *
      have ZL := Lib.hid hLB
      have L6 := Lib.hid l6
      have B6 := Lib.hid b6
      have s6 : LB < w6.heap.size := (Array.getElem?_eq_some_iff.1 l6).1
      have S6 := Lib.hid s6
      obtain ⟨l0, l1, _, _⟩ := cells2 l6
      clear l6 hLB b6 s6
      have B6h : Below w5.heap.size w5 w6 := by rw [ZL.out]; exact B6.out
      have M6h : MapI w6 BB N (lookP (pairsM fr tl)) := F0.out.2.2.2.2.1.below B6h
      refine wp_loop_rounds 3 ?_
      rw [rounds_succ]
      go_wp2
      go_loopw [63] (fun i wr => ∃ k : Nat, k ≤ c.sl.length ∧ i = .int .i64 k ∧ OwnV wr lo (.slice A5 c.sl.length n5) (stepL (movV (pairsM fr tl)) k c.sl) ∧ Touch (fun b => Value.ownBlock (.slice A5 c.sl.length n5) = some b) w6 wr) (fun i _ => c.sl.length - (intOf i).toNat)
      case atStart => exact ⟨0, by omega, rfl, by rw [stepL_zero]; exact (ownsRow_below F0.out.2.2.1 B6h), Touch.refl _ _⟩
      case round =>
        obtain ⟨k, hk, rfl, ho, hT⟩ := hrel
        have O0 := Lib.hid ho
        have T0 := Lib.hid hT
        have sq := hT.size
        have MQ := Lib.hid (M6h.block (hT.block BB (M6h.lt) (fun e => by have := (ho.lt _ e).1; have := SZ.out.2.2.1; omega)))
        by_cases hlt : k < c.sl.length
        · have ev : c.sl[k]? = some (vAt c.sl k) := by unfold vAt; rw [List.getElem?_eq_getElem hlt]; rfl
          have VO := Lib.hid (OK1.out _ (List.mem_of_getElem? ev)).2.1
          generalize vAt c.sl k = v at *
          obtain ⟨g, rfl, hlg, hg, c00, c01, c02, fz⟩ := own_at ho (stepL_at (movV (pairsM fr tl)) ev)
          have EV := Lib.hid ev
          have q1 : (k : Int) < c.sl.length := by omega
          have q0 : ¬ (k : Int) < 0 := by omega
          have ng : g ≠ wr.heap.size := Nat.ne_of_lt hg
          clear ho hT ev sq
          cases hr : lookP (pairsM fr tl) v.n with
          | none =>
            have HR := Lib.hid hr
            have HF := Lib.hid (show movV (pairsM fr tl) v = v by unfold movV; rw [hr]; simp)
            clear hr
            go_wp2_with (at_lookup; refine wpList_lookI rfl _ _ rfl rfl rfl (MQ.out.below (by (repeat (with_reducible first | exact Below.refl _ _ | (refine bl_set ?_ (by first | omega | (simp; done) | (simp; omega)) _) | refine bl_gr ?_ _ | refine bl_al ?_ _ | refine below_setRow ?_ (by first | omega | (simp; done) | (simp; omega)) _ | refine bl_drewN ?_ _ | refine Below.drew ?_ | (refine bl_tr ?_ (by assumption)))))) VO.out HR.out ?_)
            go_roundw
            case rel => exact ⟨k + 1, by omega, by go_num, by rw [stepL_same _ EV.out HF.out]; exact ownsRow_below O0.out (by (repeat (with_reducible first | exact Below.refl _ _ | (refine bl_set ?_ (by first | omega | (simp; done) | (simp; omega)) _) | refine bl_gr ?_ _ | refine bl_al ?_ _ | refine below_setRow ?_ (by first | omega | (simp; done) | (simp; omega)) _ | refine bl_drewN ?_ _ | refine Below.drew ?_ | (refine bl_tr ?_ (by assumption))))), T0.out.trans (Touch.of_below (by (repeat (with_reducible first | exact Below.refl _ _ | (refine bl_set ?_ (by first | omega | (simp; done) | (simp; omega)) _) | refine bl_gr ?_ _ | refine bl_al ?_ _ | refine below_setRow ?_ (by first | omega | (simp; done) | (simp; omega)) _ | refine bl_drewN ?_ _ | refine Below.drew ?_ | (refine bl_tr ?_ (by assumption)))))) (fun _ _ h => h)⟩
            case measure => simp [intOf]; omega
          | some y =>
            have HR := Lib.hid hr
            cases hle : leadsB v
            · have LB9 := Lib.hid (fun (W : World) => by have := leads_any v W; rw [hle] at this; exact this : ∀ W : World, Calls Try.prog 38 #[v.agg] W fun e w' => e = .returned (.bool false) ∧ Below W.heap.size W w')
              have HF := Lib.hid (show movV (pairsM fr tl) v = v from movV_no hle)
              clear hr hle
              go_wp2_with (first
                | (at_lookup; refine wpList_lookI rfl _ _ rfl rfl rfl (MQ.out.below (by (repeat (with_reducible first | exact Below.refl _ _ | (refine bl_set ?_ (by first | omega | (simp; done) | (simp; omega)) _) | refine bl_gr ?_ _ | refine bl_al ?_ _ | refine below_setRow ?_ (by first | omega | (simp; done) | (simp; omega)) _ | refine bl_drewN ?_ _ | refine Below.drew ?_ | (refine bl_tr ?_ (by assumption)))))) VO.out HR.out ?_)
                | (go_at_call 38; refine (callGr (LB9.out _)).mono ?_; rintro e w' ⟨pp, rfl, rfl⟩))
              go_roundw
              case rel => exact ⟨k + 1, by omega, by go_num, by rw [stepL_same _ EV.out HF.out]; exact ownsRow_below O0.out (by (repeat (with_reducible first | exact Below.refl _ _ | (refine bl_set ?_ (by first | omega | (simp; done) | (simp; omega)) _) | refine bl_gr ?_ _ | refine bl_al ?_ _ | refine below_setRow ?_ (by first | omega | (simp; done) | (simp; omega)) _ | refine bl_drewN ?_ _ | refine Below.drew ?_ | (refine bl_tr ?_ (by assumption))))), T0.out.trans (Touch.of_below (by (repeat (with_reducible first | exact Below.refl _ _ | (refine bl_set ?_ (by first | omega | (simp; done) | (simp; omega)) _) | refine bl_gr ?_ _ | refine bl_al ?_ _ | refine below_setRow ?_ (by first | omega | (simp; done) | (simp; omega)) _ | refine bl_drewN ?_ _ | refine Below.drew ?_ | (refine bl_tr ?_ (by assumption)))))) (fun _ _ h => h)⟩
              case measure => simp [intOf]; omega
            · have LB9 := Lib.hid (fun (W : World) => by have := leads_any v W; rw [hle] at this; exact this : ∀ W : World, Calls Try.prog 38 #[v.agg] W fun e w' => e = .returned (.bool true) ∧ Below W.heap.size W w')
              have HF := Lib.hid (show movV (pairsM fr tl) v = ⟨v.k, y, v.s⟩ by rw [movV_yes hle, hr]; rfl)
              clear hr hle
              go_upto_region 20 with (first
                | (at_lookup; refine wpList_lookI rfl _ _ rfl rfl rfl (MQ.out.below (by (repeat (with_reducible first | exact Below.refl _ _ | (refine bl_set ?_ (by first | omega | (simp; done) | (simp; omega)) _) | refine bl_gr ?_ _ | refine bl_al ?_ _ | refine below_setRow ?_ (by first | omega | (simp; done) | (simp; omega)) _ | refine bl_drewN ?_ _ | refine Below.drew ?_ | (refine bl_tr ?_ (by assumption)))))) VO.out HR.out ?_)
                | (go_at_call 38; refine (callGr (LB9.out _)).mono ?_; rintro e w' ⟨pp, rfl, rfl⟩))
              refine wp_world (fun W => Below wr.heap.size wr W) (by (repeat (with_reducible first | exact Below.refl _ _ | (refine bl_set ?_ (by first | omega | (simp; done) | (simp; omega)) _) | refine bl_gr ?_ _ | refine bl_al ?_ _ | refine below_setRow ?_ (by first | omega | (simp; done) | (simp; omega)) _ | refine bl_drewN ?_ _ | refine Below.drew ?_ | (refine bl_tr ?_ (by assumption))))) ?_
              intro wz hz
              have c9 := (hz.cell (p := ⟨g, k * 3 + 1, none⟩) hg).trans c01
              have f9 := (hz.frozen (p := ⟨g, k * 3 + 1, none⟩) hg).trans fz
              have HZ := Lib.hid hz
              clear hz c00 c01 c02 fz
              go_wp2
              go_roundw
              case rel =>
                refine ⟨k + 1, by omega, by go_num, ?_, (T0.out.trans (Touch.of_below HZ.out) (fun _ _ h => h)).set (p := ⟨g, k * 3 + 1, none⟩) (.inl rfl) _⟩
                rw [← stepL_set _ EV.out, HF.out]
                exact own_setN (ownsRow_below O0.out HZ.out) (stepL_at _ EV.out)
              case measure => simp [intOf]; omega
        · have q1 : ¬ (k : Int) < c.sl.length := by omega
          have o9 := O0.out
          rw [stepL_all _ _ (by omega)] at o9
          have oL : ∀ b, Value.ownBlock (.slice A5 c.sl.length n5) = some b → lo ≤ b ∧ b < LB := fun b e => by have := F0.out.2.2.1.lt _ e; have := ZL.out; omega
          have k0 : wr.heap[LB]? = some (.cells #[.slice A5 c.sl.length n5, .slice A6 c.mo.length n6] 22) := (hT.block LB S6.out (fun e => by have := oL _ e; omega)).trans L6.out
          have k1 : wr.heap[w.heap.size]? = some (cellO c.k c.sh c.fl c.ag (.slice A5 c.sl.length n5) (.slice A6 c.mo.length n6)) := (hT.block _ (by have := SZ.out; have := S6.out; omega) (fun e => by have := oL _ e; have := SZ.out; omega)).trans ((B6.out.block _ (by have := SZ.out; omega)).trans F0.out.1)
          have k2 : wr.heap[w.heap.size + 1]? = some (cellO 0 0 0 0 (.slice none 0 0) (.slice none 0 0)) := (hT.block _ (by have := SZ.out; have := S6.out; omega) (fun e => by have := oL _ e; have := SZ.out; omega)).trans ((B6.out.block _ (by have := SZ.out; omega)).trans F0.out.2.1)
          have p4 : OwnV wr lo (.slice A6 c.mo.length n6) c.mo := ownsRow_touch (ownsRow_below F0.out.2.2.2.1 B6h) hT (fun g hg e => OD.out _ e hg)
          have p6 : Below w.heap.size w wr := ((F0.out.2.2.2.2.2).trans (B6.out.mono (by have := F0.out.2.2.2.2.2.size; have := ZL.out; omega))).trans (hT.below (by have := SZ.out; have := S6.out; omega) (fun b e => by have := oL _ e; have := SZ.out; omega))
          obtain ⟨wo, hwo⟩ : ∃ wo : World, wo = wr := ⟨_, rfl⟩
          have V1 := Lib.hid (show IsV wo (.slice A5 c.sl.length n5) (c.sl.map (movV (pairsM fr tl))) by rw [hwo]; exact ownsRow_slOf cs_len (by have := o9; unfold OwnV at this; rw [List.length_map] at this ⊢; exact this))
          have E0 := Lib.hid (show wo.heap[LB]? = some (.cells #[.slice A5 c.sl.length n5, .slice A6 c.mo.length n6] 22) ∧ wo.heap[w.heap.size]? = some (cellO c.k c.sh c.fl c.ag (.slice A5 c.sl.length n5) (.slice A6 c.mo.length n6)) ∧ wo.heap[w.heap.size + 1]? = some (cellO 0 0 0 0 (.slice none 0 0) (.slice none 0 0)) ∧ OwnV wo lo (.slice A6 c.mo.length n6) c.mo ∧ Below w.heap.size w wo by rw [hwo]; exact ⟨k0, k1, k2, p4, p6⟩)
          have MO := show MapI wo BB N (lookP (pairsM fr tl)) by rw [hwo]; exact MQ.out
          have sw : LB < wo.heap.size := by rw [hwo]; exact Nat.lt_of_lt_of_le S6.out sq
          have SW := Lib.hid sw
          obtain ⟨l0, l1, _, _⟩ := cells2 k0
          clear ho hT o9 oL k0 k1 k2 p4 p6 O0 T0 MQ sq sw
          go_wp2
          rw [rounds_succ]
          go_wp2
          clear q1 hlt hk
          subst hwo
          go_loopw [63] (fun i wr => ∃ k : Nat, k ≤ c.mo.length ∧ i = .int .i64 k ∧ OwnV wr lo (.slice A6 c.mo.length n6) (stepL (movV (pairsM fr tl)) k c.mo) ∧ Touch (fun b => Value.ownBlock (.slice A6 c.mo.length n6) = some b) wo wr) (fun i _ => c.mo.length - (intOf i).toNat)
          case atStart => exact ⟨0, by omega, rfl, by rw [stepL_zero]; exact E0.out.2.2.2.1, Touch.refl _ _⟩
          case round =>
            obtain ⟨k, hk, rfl, ho, hT⟩ := hrel
            have O0 := Lib.hid ho
            have T0 := Lib.hid hT
            have sq := hT.size
            have MQ := Lib.hid (MO.block (hT.block BB (MO.lt) (fun e => by have := (ho.lt _ e).1; have := SZ.out.2.2.1; omega)))
            by_cases hlt : k < c.mo.length
            · have ev : c.mo[k]? = some (vAt c.mo k) := by unfold vAt; rw [List.getElem?_eq_getElem hlt]; rfl
              have VO := Lib.hid (OK2.out _ (List.mem_of_getElem? ev)).2.1
              generalize vAt c.mo k = v at *
              obtain ⟨g, rfl, hlg, hg, c00, c01, c02, fz⟩ := own_at ho (stepL_at (movV (pairsM fr tl)) ev)
              have EV := Lib.hid ev
              have q1 : (k : Int) < c.mo.length := by omega
              have q0 : ¬ (k : Int) < 0 := by omega
              have ng : g ≠ wr.heap.size := Nat.ne_of_lt hg
              clear ho hT ev sq
              cases hr : lookP (pairsM fr tl) v.n with
              | none =>
                have HR := Lib.hid hr
                have HF := Lib.hid (show movV (pairsM fr tl) v = v by unfold movV; rw [hr]; simp)
                clear hr
                go_wp2_with (at_lookup; refine wpList_lookI rfl _ _ rfl rfl rfl (MQ.out.below (by (repeat (with_reducible first | exact Below.refl _ _ | (refine bl_set ?_ (by first | omega | (simp; done) | (simp; omega)) _) | refine bl_gr ?_ _ | refine bl_al ?_ _ | refine below_setRow ?_ (by first | omega | (simp; done) | (simp; omega)) _ | refine bl_drewN ?_ _ | refine Below.drew ?_ | (refine bl_tr ?_ (by assumption)))))) VO.out HR.out ?_)
                go_roundw
                case rel => exact ⟨k + 1, by omega, by go_num, by rw [stepL_same _ EV.out HF.out]; exact ownsRow_below O0.out (by (repeat (with_reducible first | exact Below.refl _ _ | (refine bl_set ?_ (by first | omega | (simp; done) | (simp; omega)) _) | refine bl_gr ?_ _ | refine bl_al ?_ _ | refine below_setRow ?_ (by first | omega | (simp; done) | (simp; omega)) _ | refine bl_drewN ?_ _ | refine Below.drew ?_ | (refine bl_tr ?_ (by assumption))))), T0.out.trans (Touch.of_below (by (repeat (with_reducible first | exact Below.refl _ _ | (refine bl_set ?_ (by first | omega | (simp; done) | (simp; omega)) _) | refine bl_gr ?_ _ | refine bl_al ?_ _ | refine below_setRow ?_ (by first | omega | (simp; done) | (simp; omega)) _ | refine bl_drewN ?_ _ | refine Below.drew ?_ | (refine bl_tr ?_ (by assumption)))))) (fun _ _ h => h)⟩
                case measure => simp [intOf]; omega
              | some y =>
                have HR := Lib.hid hr
                cases hle : leadsB v
                · have LB9 := Lib.hid (fun (W : World) => by have := leads_any v W; rw [hle] at this; exact this : ∀ W : World, Calls Try.prog 38 #[v.agg] W fun e w' => e = .returned (.bool false) ∧ Below W.heap.size W w')
                  have HF := Lib.hid (show movV (pairsM fr tl) v = v from movV_no hle)
                  clear hr hle
                  go_wp2_with (first
                    | (at_lookup; refine wpList_lookI rfl _ _ rfl rfl rfl (MQ.out.below (by (repeat (with_reducible first | exact Below.refl _ _ | (refine bl_set ?_ (by first | omega | (simp; done) | (simp; omega)) _) | refine bl_gr ?_ _ | refine bl_al ?_ _ | refine below_setRow ?_ (by first | omega | (simp; done) | (simp; omega)) _ | refine bl_drewN ?_ _ | refine Below.drew ?_ | (refine bl_tr ?_ (by assumption)))))) VO.out HR.out ?_)
                    | (go_at_call 38; refine (callGr (LB9.out _)).mono ?_; rintro e w' ⟨pp, rfl, rfl⟩))
                  go_roundw
                  case rel => exact ⟨k + 1, by omega, by go_num, by rw [stepL_same _ EV.out HF.out]; exact ownsRow_below O0.out (by (repeat (with_reducible first | exact Below.refl _ _ | (refine bl_set ?_ (by first | omega | (simp; done) | (simp; omega)) _) | refine bl_gr ?_ _ | refine bl_al ?_ _ | refine below_setRow ?_ (by first | omega | (simp; done) | (simp; omega)) _ | refine bl_drewN ?_ _ | refine Below.drew ?_ | (refine bl_tr ?_ (by assumption))))), T0.out.trans (Touch.of_below (by (repeat (with_reducible first | exact Below.refl _ _ | (refine bl_set ?_ (by first | omega | (simp; done) | (simp; omega)) _) | refine bl_gr ?_ _ | refine bl_al ?_ _ | refine below_setRow ?_ (by first | omega | (simp; done) | (simp; omega)) _ | refine bl_drewN ?_ _ | refine Below.drew ?_ | (refine bl_tr ?_ (by assumption)))))) (fun _ _ h => h)⟩
                  case measure => simp [intOf]; omega
                · have LB9 := Lib.hid (fun (W : World) => by have := leads_any v W; rw [hle] at this; exact this : ∀ W : World, Calls Try.prog 38 #[v.agg] W fun e w' => e = .returned (.bool true) ∧ Below W.heap.size W w')
                  have HF := Lib.hid (show movV (pairsM fr tl) v = ⟨v.k, y, v.s⟩ by rw [movV_yes hle, hr]; rfl)
                  clear hr hle
                  go_upto_region 20 with (first
                    | (at_lookup; refine wpList_lookI rfl _ _ rfl rfl rfl (MQ.out.below (by (repeat (with_reducible first | exact Below.refl _ _ | (refine bl_set ?_ (by first | omega | (simp; done) | (simp; omega)) _) | refine bl_gr ?_ _ | refine bl_al ?_ _ | refine below_setRow ?_ (by first | omega | (simp; done) | (simp; omega)) _ | refine bl_drewN ?_ _ | refine Below.drew ?_ | (refine bl_tr ?_ (by assumption)))))) VO.out HR.out ?_)
                    | (go_at_call 38; refine (callGr (LB9.out _)).mono ?_; rintro e w' ⟨pp, rfl, rfl⟩))
                  refine wp_world (fun W => Below wr.heap.size wr W) (by (repeat (with_reducible first | exact Below.refl _ _ | (refine bl_set ?_ (by first | omega | (simp; done) | (simp; omega)) _) | refine bl_gr ?_ _ | refine bl_al ?_ _ | refine below_setRow ?_ (by first | omega | (simp; done) | (simp; omega)) _ | refine bl_drewN ?_ _ | refine Below.drew ?_ | (refine bl_tr ?_ (by assumption))))) ?_
                  intro wz hz
                  have c9 := (hz.cell (p := ⟨g, k * 3 + 1, none⟩) hg).trans c01
                  have f9 := (hz.frozen (p := ⟨g, k * 3 + 1, none⟩) hg).trans fz
                  have HZ := Lib.hid hz
                  clear hz c00 c01 c02 fz
                  go_wp2
                  go_roundw
                  case rel =>
                    refine ⟨k + 1, by omega, by go_num, ?_, (T0.out.trans (Touch.of_below HZ.out) (fun _ _ h => h)).set (p := ⟨g, k * 3 + 1, none⟩) (.inl rfl) _⟩
                    rw [← stepL_set _ EV.out, HF.out]
                    exact own_setN (ownsRow_below O0.out HZ.out) (stepL_at _ EV.out)
                  case measure => simp [intOf]; omega
            · have q1 : ¬ (k : Int) < c.mo.length := by omega
              have o9 := O0.out
              rw [stepL_all _ _ (by omega)] at o9
              have oL : ∀ b, Value.ownBlock (.slice A6 c.mo.length n6) = some b → lo ≤ b ∧ b < LB := fun b e => by have := F0.out.2.2.2.1.lt _ e; have := ZL.out; omega
              have k1 : wr.heap[w.heap.size]? = some (cellO c.k c.sh c.fl c.ag (.slice A5 c.sl.length n5) (.slice A6 c.mo.length n6)) := (hT.block _ (by have := SZ.out; have := SW.out; omega) (fun e => by have := oL _ e; have := SZ.out; omega)).trans E0.out.2.1
              have k2 : wr.heap[w.heap.size + 1]? = some (cellO 0 0 0 0 (.slice none 0 0) (.slice none 0 0)) := (hT.block _ (by have := SZ.out; have := SW.out; omega) (fun e => by have := oL _ e; have := SZ.out; omega)).trans E0.out.2.2.1
              have V1w : IsV wr (.slice A5 c.sl.length n5) (c.sl.map (movV (pairsM fr tl))) := V1.out.touch hT (fun b off cap e _ e2 => OD.out b (by rw [e]; rfl) e2)
              have V2w : IsV wr (.slice A6 c.mo.length n6) (c.mo.map (movV (pairsM fr tl))) := ownsRow_slOf cs_len (by have := o9; unfold OwnV at this; rw [List.length_map] at this ⊢; exact this)
              have p6 : Below w.heap.size w wr := (E0.out.2.2.2.2).trans (hT.below (by have := SZ.out; have := SW.out; omega) (fun b e => by have := oL _ e; have := SZ.out; omega))
              have kl : wr.heap[LB]? = some (.cells #[.slice A5 c.sl.length n5, .slice A6 c.mo.length n6] 22) := (hT.block LB SW.out (fun e => by have := oL _ e; omega)).trans E0.out.1
              obtain ⟨⟨a0, a1, a2, a3, a4, a5⟩, _⟩ := cells6 k1
              obtain ⟨⟨x0, x1, x2, x3, x4, x5⟩, y0, y1, y2, y3, y4, y5⟩ := cells6 k2
              obtain ⟨l0, l1, _, _⟩ := cells2 kl
              have K4 := Lib.hid k2
              have HB := Lib.hid p6
              have V1h := Lib.hid V1w
              have V2h := Lib.hid V2w
              have OA := Lib.hid (show (∀ b, Value.ownBlock (.slice A5 c.sl.length n5) = some b → w.heap.size + 1 < b) ∧ (∀ b, Value.ownBlock (.slice A6 c.mo.length n6) = some b → w.heap.size + 1 < b) from ⟨fun b e => by have := F0.out.2.2.1.lt _ e; have := SZ.out; omega, fun b e => by have := oL _ e; have := SZ.out; omega⟩)
              have l9 : w.heap.size + 1 < wr.heap.size := (Array.getElem?_eq_some_iff.1 k2).1
              have l8 : w.heap.size < wr.heap.size := (Array.getElem?_eq_some_iff.1 k1).1
              clear ho hT o9 oL k1 k2 V1w V2w p6 kl V1 E0 MO MQ O0 T0 M6h B6h
              go_wp2
              rw [rounds_succ]
              go_wp2
              obtain ⟨w5, hw5⟩ : ∃ w5, w5 = ((((((wr.setCell ⟨w.heap.size + 1, 0, none⟩ (.int .i64 c.k)).setCell ⟨w.heap.size + 1, 1, none⟩ (.int .i64 c.sh)).setCell ⟨w.heap.size + 1, 2, none⟩ (.int .i64 c.fl)).setCell ⟨w.heap.size + 1, 3, none⟩ (.int .i64 c.ag)).setCell ⟨w.heap.size + 1, 4, none⟩ (.slice A5 c.sl.length n5)).setCell ⟨w.heap.size + 1, 5, none⟩ (.slice A6 c.mo.length n6)) := ⟨_, rfl⟩
              rw [← hw5]
              have jt : Touch (fun b => b = w.heap.size + 1) wr w5 := by
                rw [hw5]
                exact (((((((Touch.refl _ _).set1 _ _).set1 _ _).set1 _ _).set1 _ _).set1 _ _).set1 _ _)
              have j1 : IsV w5 (.slice A5 c.sl.length n5) (c.sl.map (movV (pairsM fr tl))) := V1h.out.touch jt (fun b off cap e _ e2 => by have := OA.out.1 b (by rw [e]; rfl); omega)
              have j2 : IsV w5 (.slice A6 c.mo.length n6) (c.mo.map (movV (pairsM fr tl))) := V2h.out.touch jt (fun b off cap e _ e2 => by have := OA.out.2 b (by rw [e]; rfl); omega)
              have j3 : w5.heap[w.heap.size + 1]? = some (cellO c.k c.sh c.fl c.ag (.slice A5 c.sl.length n5) (.slice A6 c.mo.length n6)) := by
                rw [hw5]
                exact heap_setCell_same _ _ _ _ _ _ (heap_setCell_same _ _ _ _ _ _ (heap_setCell_same _ _ _ _ _ _ (heap_setCell_same _ _ _ _ _ _ (heap_setCell_same _ _ _ _ _ _ (heap_setCell_same _ _ _ _ _ _ K4.out)))))
              have jb : Below w.heap.size w w5 := by
                rw [hw5]
                iterate 6 refine bl_set ?_ (Nat.le_succ _) _
                exact HB.out
              clear hw5 a0 a1 a2 a3 a4 a5 x0 x1 x2 x3 x4 x5 y0 y1 y2 y3 y4 y5 l0 l1 K4 HB jt
              obtain ⟨⟨a0, a1, a2, a3, a4, a5⟩, _⟩ := cells6 j3
              refine bodyPost_ret (v := cellV c.k c.sh c.fl c.ag (.slice A5 c.sl.length n5) (.slice A6 c.mo.length n6)) (by clear j1 j2 j3 jb; simp [results, Try.results23, go_sem, *]) rfl ⟨_, _, rfl, j1, j2, jb⟩
end Go.Proofs.Yteifcgffeplkkaa
