/- The law VerifyWays, walked. -/
import Derived.Test.YtcmpgohpncnagaaVfB
import Derived.Test.YtcmpgohpncnagaaVfD
import Derived.Test.YtcmpgohpncnagaaVfG
namespace Go.Proofs.Ytcmpgohpncnagaa
set_option linter.all false
open Go.ChangeShapes Go.WideShapes Go.ChangeAt Go.RowKit Go.Sort Go.Deep Go.Shelf

theorem at_B {w : World} {v : Value} {l : List Bool} (h : IsB w v l) {q : Nat} {x : Bool} (hq : l[q]? = some x) : ∃ b off cap, v = .slice (some ⟨b, off, none⟩) l.length cap ∧ b < w.heap.size ∧ w.cell? ⟨b, off + q, none⟩ = some (.bool x) := by
  have hl := (List.getElem?_eq_some_iff.1 hq).1
  obtain ⟨b, off, cap, rfl, hc, hb, hx⟩ := h.at_ (by omega)
  refine ⟨b, off, cap, rfl, hb, ?_⟩
  have := hx q x hq 0 _ rfl
  simpa using this
set_option maxRecDepth 100000 in
set_option maxHeartbeats 8000000 in
theorem ways_w (c : CodeD) (i p k g : Value) (hc : c.ok) (w : World) (h : Cd4 w i p k g c) :
    Calls Try.prog 3 #[codeV c.nm c.kd c.ln c.rg i p k g] w fun e w' => e = .returned (.bool true) ∧ Below w.heap.size w w' := by
  obtain ⟨A1, c1, A2, c2, A3, c3, A4, c4, rfl, rfl, rfl, rfl⟩ := h.forms
  have LV := Lib.hid (fun W => livesc_any W)
  have SM := Lib.hid (fun W (hW : Below w.heap.size w W) => smallc_any c _ _ _ _ hc W (h.below hW))
  have RA := Lib.hid (fun W (hW : Below w.heap.size w W) => reaches_any c _ _ _ _ hc W (h.below hW))
  have RB := Lib.hid (fun W (hW : Below w.heap.size w W) => rreaches_any c _ _ _ _ hc W (h.below hW))
  have DA := Lib.hid (fun W (hW : Below w.heap.size w W) => deep_any c _ _ _ _ hc W (h.below hW))
  have DB := Lib.hid (fun W (hW : Below w.heap.size w W) => rdeep_any c _ _ _ _ hc W (h.below hW))
  have SI := Lib.hid (fun u v W h1 h2 => (by have := sameInts_any u v (depV c) (depV c) W h1 h2; rwa [show decide (depV c = depV c) = true by simp] at this : Calls Try.prog 14 #[u, v] W fun e w' => e = .returned (.bool true) ∧ Below W.heap.size W w'))
  unfold RetB at RA RB
  unfold RetD at DA DB
  generalize reachC c = L at *
  generalize depE c = de at *
  generalize depV c = D at *
  have T0 := Lib.hid (show _ ∧ Below w.heap.size w (w.alloc (codeO c.nm c.kd c.ln c.rg (.slice A1 c.ins.length c1) (.slice A2 c.pl.length c2) (.slice A3 c.ks.length c3) (.slice A4 c.gs.length c4))) from ⟨heap_alloc_new w (codeO c.nm c.kd c.ln c.rg (.slice A1 c.ins.length c1) (.slice A2 c.pl.length c2) (.slice A3 c.ks.length c3) (.slice A4 c.gs.length c4)), by (repeat (with_reducible first | exact Below.refl _ _ | (refine bl_set ?_ (by first | omega | (simp; done) | (simp; omega)) _) | refine bl_gr ?_ _ | refine bl_al ?_ _ | refine below_setRow ?_ (by first | omega | (simp; done) | (simp; omega)) _ | refine bl_drewN ?_ _ | refine Below.drew ?_ | (refine bl_tr ?_ (by assumption))))⟩)
  clear h hc
  go_enter Try.func3, Try.ntmps3
  go_upto_region 3 with (first
    | (go_at_call 8; go_loud (refine (SM.out _ (by (repeat (with_reducible first | exact Below.refl _ _ | (refine bl_set ?_ (by first | omega | (simp; done) | (simp; omega)) _) | refine bl_gr ?_ _ | refine bl_al ?_ _ | refine below_setRow ?_ (by first | omega | (simp; done) | (simp; omega)) _ | refine bl_drewN ?_ _ | refine Below.drew ?_ | (refine bl_tr ?_ (by assumption)))))).mono ?_; rintro e w3 ⟨v, rfl, ⟨r, rfl, -⟩, hb⟩; obtain ⟨p9, rfl⟩ := gr_of_below hb; clear hb; cases r))
    | (go_at_call 9; refine (callGr (LV.out _)).mono ?_; rintro e w' ⟨pp, rfl, rfl⟩))
  · go_ret
    exact ⟨rfl, by (repeat (with_reducible first | exact Below.refl _ _ | (refine bl_set ?_ (by first | omega | (simp; done) | (simp; omega)) _) | refine bl_gr ?_ _ | refine bl_al ?_ _ | refine below_setRow ?_ (by first | omega | (simp; done) | (simp; omega)) _ | refine bl_drewN ?_ _ | refine Below.drew ?_ | (refine bl_tr ?_ (by assumption))))⟩
  refine wpc_world (fun X => OneB w X (codeO c.nm c.kd c.ln c.rg (.slice A1 c.ins.length c1) (.slice A2 c.pl.length c2) (.slice A3 c.ks.length c3) (.slice A4 c.gs.length c4))) ((OneB.start w _).step (below_gr _ _)) ?_
  intro X hX
  have BX := Lib.hid hX
  have K8 := Lib.hid (fun Z (hZ : Below X.heap.size X Z) => cells8 (hX.step hZ).1)
  clear hX
  (refine wp_region_held_drew (S := (fun Z : World => Below X.heap.size X Z)) Try.mixed (by (repeat (with_reducible first | exact Below.refl _ _ | (refine bl_set ?_ (by first | omega | (simp; done) | (simp; omega)) _) | refine bl_gr ?_ _ | refine bl_al ?_ _ | refine below_setRow ?_ (by first | omega | (simp; done) | (simp; omega)) _ | refine bl_drewN ?_ _ | refine Below.drew ?_ | (refine bl_tr ?_ (by assumption))))) (fun hS => ?_); (refine wpAnyH_take (i := 0) (v := ?_) rfl (by kernel_rfl) (by kernel_rfl) (by kernel_rfl) (fun _ _ _ h => h) ?_ (by assumption) ?_; rotate_left; (next => (refine Or.inl ⟨by kernel_rfl, ?_⟩; ((intro w hSw; (try dsimp only at hSw); (obtain ⟨⟨a0, a1, a2, a3, a4, a5, a6, a7⟩, _⟩ := K8.out _ hSw); go_simp) <;> with_reducible rfl))); (try simp only [Act.put, List.getElem_toArray, List.getElem_cons_zero, List.getElem_cons_succ, List.setIfInBounds_toArray, List.set_cons_zero, List.set_cons_succ])); (refine wpAnyH_take (i := 2) (v := ?_) rfl (by kernel_rfl) (by kernel_rfl) (by kernel_rfl) (fun _ _ _ h => h) ?_ (by assumption) ?_; rotate_left; (next => (refine Or.inl ⟨by kernel_rfl, ?_⟩; ((intro w hSw; (try dsimp only at hSw); (obtain ⟨⟨a0, a1, a2, a3, a4, a5, a6, a7⟩, _⟩ := K8.out _ hSw); go_simp) <;> with_reducible rfl))); (try simp only [Act.put, List.getElem_toArray, List.getElem_cons_zero, List.getElem_cons_succ, List.setIfInBounds_toArray, List.set_cons_zero, List.set_cons_succ])); refine wpAnyH_ready (rs := [1]) (by kernel_rfl) (by simp) ?_; refine AllReadyH.cons rfl (fun K hK => ?_) AllReadyH.nil; go_simp; (((try simp only [gr_gr, gr_drew, drew_gr] at hS); first | (go_at_call 10; refine (RA.out _ (bl_tr BX.out.2 hS)).mono ?_; rintro e w3 ⟨v3, rfl, hv, hb⟩; obtain ⟨A5, c5, rfl, _, hm⟩ := hv.form; have V3 := Lib.hid hv; have HM := Lib.hid hm; have B3 := Lib.hid (bl_tr hS hb); clear hv hb hm) | (go_at_call 11; refine (RB.out _ (bl_tr BX.out.2 hS)).mono ?_; rintro e w4 ⟨v4, rfl, hv, hb⟩; obtain ⟨A6, c6, rfl, -⟩ := hv.form; have V4 := Lib.hid hv; have B34 := Lib.hid (show Below w3.heap.size w3 w4 from bl_tr (by (repeat (with_reducible first | exact Below.refl _ _ | (refine bl_set ?_ (by first | omega | (simp; done) | (simp; omega)) _) | refine bl_gr ?_ _ | refine bl_al ?_ _ | refine below_setRow ?_ (by first | omega | (simp; done) | (simp; omega)) _ | refine bl_drewN ?_ _ | refine Below.drew ?_ | (refine bl_tr ?_ (by assumption))))) hb); have B4 := Lib.hid (bl_tr hS hb); clear hv hb))); refine hK.out _ _ (by exact B3.out) (fun hS => ?_); clear hK K; (try simp only [Act.put, List.getElem_toArray, List.getElem_cons_zero, List.getElem_cons_succ, List.setIfInBounds_toArray, List.set_cons_zero, List.set_cons_succ]); refine wpAnyH_ready (rs := [3]) (by kernel_rfl) (by simp) ?_; refine AllReadyH.cons rfl (fun K hK => ?_) AllReadyH.nil; go_simp; (((try simp only [gr_gr, gr_drew, drew_gr] at hS); first | (go_at_call 10; refine (RA.out _ (bl_tr BX.out.2 hS)).mono ?_; rintro e w3 ⟨v3, rfl, hv, hb⟩; obtain ⟨A5, c5, rfl, _, hm⟩ := hv.form; have V3 := Lib.hid hv; have HM := Lib.hid hm; have B3 := Lib.hid (bl_tr hS hb); clear hv hb hm) | (go_at_call 11; refine (RB.out _ (bl_tr BX.out.2 hS)).mono ?_; rintro e w4 ⟨v4, rfl, hv, hb⟩; obtain ⟨A6, c6, rfl, -⟩ := hv.form; have V4 := Lib.hid hv; have B34 := Lib.hid (show Below w3.heap.size w3 w4 from bl_tr (by (repeat (with_reducible first | exact Below.refl _ _ | (refine bl_set ?_ (by first | omega | (simp; done) | (simp; omega)) _) | refine bl_gr ?_ _ | refine bl_al ?_ _ | refine below_setRow ?_ (by first | omega | (simp; done) | (simp; omega)) _ | refine bl_drewN ?_ _ | refine Below.drew ?_ | (refine bl_tr ?_ (by assumption))))) hb); have B4 := Lib.hid (bl_tr hS hb); clear hv hb))); refine hK.out _ _ (by exact B4.out) (fun hS => ?_); clear hK K; (try simp only [Act.put, List.getElem_toArray, List.getElem_cons_zero, List.getElem_cons_succ, List.setIfInBounds_toArray, List.set_cons_zero, List.set_cons_succ]); (refine wpAnyH_take (i := 4) (v := ?_) rfl (by kernel_rfl) (by kernel_rfl) (by kernel_rfl) (fun _ _ _ h => h) ?_ (by assumption) ?_; rotate_left; (next => (refine Or.inl ⟨by kernel_rfl, ?_⟩; ((intro w hSw; (try dsimp only at hSw); go_simp) <;> with_reducible rfl))); (try simp only [Act.put, List.getElem_toArray, List.getElem_cons_zero, List.getElem_cons_succ, List.setIfInBounds_toArray, List.set_cons_zero, List.set_cons_succ])); (refine wpAnyH_take (i := 5) (v := ?_) rfl (by kernel_rfl) (by kernel_rfl) (by kernel_rfl) (fun _ _ _ h => h) ?_ (by assumption) ?_; rotate_left; (next => (refine Or.inl ⟨by kernel_rfl, ?_⟩; ((intro w hSw; (try dsimp only at hSw); go_simp) <;> with_reducible rfl))); (try simp only [Act.put, List.getElem_toArray, List.getElem_cons_zero, List.getElem_cons_succ, List.setIfInBounds_toArray, List.set_cons_zero, List.set_cons_succ])); refine wpAnyH_done (by kernel_rfl) ?_ _)
  go_simp
  go_upto_region 4 with fail
  refine wpc_world (fun Y => Below w4.heap.size w4 Y) (by (repeat (with_reducible first | exact Below.refl _ _ | (refine bl_set ?_ (by first | omega | (simp; done) | (simp; omega)) _) | refine bl_gr ?_ _ | refine bl_al ?_ _ | refine below_setRow ?_ (by first | omega | (simp; done) | (simp; omega)) _ | refine bl_drewN ?_ _ | refine Below.drew ?_ | (refine bl_tr ?_ (by assumption))))) ?_
  intro Y hY
  have VA := Lib.hid (V3.out.below (bl_tr B34.out hY))
  have VB := Lib.hid (V4.out.below hY)
  have BY := Lib.hid (BX.out.step (bl_tr B4.out hY))
  clear hY V3 V4 B34 B4 B3 BX K8
  go_wp2
  go_loopw [5] (fun i Z => ∃ q : Nat, i = .int .i64 q ∧ Hid (q ≤ L.length) ∧ Below Y.heap.size Y Z) (fun i _ => L.length - (intOf i).toNat)
  case atStart => exact ⟨0, rfl, Lib.hid (Nat.zero_le _), by (repeat (with_reducible first | exact Below.refl _ _ | (refine bl_set ?_ (by first | omega | (simp; done) | (simp; omega)) _) | refine bl_gr ?_ _ | refine bl_al ?_ _ | refine below_setRow ?_ (by first | omega | (simp; done) | (simp; omega)) _ | refine bl_drewN ?_ _ | refine Below.drew ?_ | (refine bl_tr ?_ (by assumption))))⟩
  case round =>
    obtain ⟨q, rfl, HQ, jb⟩ := hrel
    have JB := Lib.hid jb
    by_cases hlt : q < L.length
    · have q2 : (q : Int) < (L.length : Int) := by omega
      have q3 : ¬ (q : Int) < 0 := by omega
      obtain ⟨x, hx⟩ : ∃ x, L[q]? = some x := ⟨_, List.getElem?_eq_getElem hlt⟩
      obtain ⟨b1, o1, _, e1, lb1, hc1⟩ := at_B (VA.out.below jb) hx
      obtain ⟨b2, o2, _, e2, lb2, hc2⟩ := at_B (VB.out.below jb) hx
      simp only [Value.slice.injEq] at e1 e2
      obtain ⟨rfl, _, rfl⟩ := e1
      obtain ⟨rfl, _, rfl⟩ := e2
      have LQ := Lib.hid hlt
      obtain ⟨kp, hkp, ek1⟩ : ∃ kp : Nat, kp = q + 1 ∧ wrap64 ((q : Int) + 1) = (kp : Int) := ⟨q + 1, rfl, w64c rfl (by have := HM.out; unfold maxLen at this; omega)⟩
      have KP := Lib.hid hkp
      clear hkp hlt hx jb
      go_wp2
      ((first | (with_reducible refine wp_quiet_gr Try.mixed ?_ ?_) | (with_reducible refine wp_quiet_any Try.mixed ?_ ?_)); (next => kernel_rfl); (repeat (with_reducible refine wpQuiet_step (fun K hK => ?_); go_simp; first | (refine hK _ ?_; clear hK K) | (apply Exists.intro; refine ⟨fun _ => ?_, hK _ ?_⟩; (fail); clear hK K))); refine wpQuiet_nil ?_; intro pq)
      go_simp
      go_wp2
      go_roundw
      case rel => exact ⟨kp, by first | with_reducible rfl | (rw [ek1]; done), Lib.hid (by rw [KP.out]; exact LQ.out), bl_tr JB.out (by (repeat (with_reducible first | exact Below.refl _ _ | (refine bl_set ?_ (by first | omega | (simp; done) | (simp; omega)) _) | refine bl_gr ?_ _ | refine bl_al ?_ _ | refine below_setRow ?_ (by first | omega | (simp; done) | (simp; omega)) _ | refine bl_drewN ?_ _ | refine Below.drew ?_ | (refine bl_tr ?_ (by assumption)))))⟩
      case measure => (first | ((try rw [ek1]); exact meas_c KP.out LQ.out) | (clear ek1; have := LQ.out; simp only [intOf]; omega))
    · have q2 : ¬ (q : Int) < (L.length : Int) := by omega
      have BW := Lib.hid (BY.out.step jb)
      obtain ⟨⟨a0, a1, a2, a3, a4, a5, a6, a7⟩, _⟩ := cells8 BW.out.1
      have l0 := BW.out.lt
      clear hlt jb
      trace_state
      go_wp2_with (first
        | (go_at_call 12; go_loud (refine (DA.out _ (bl_tr BW.out.2 (by (repeat (with_reducible first | exact Below.refl _ _ | (refine bl_set ?_ (by first | omega | (simp; done) | (simp; omega)) _) | refine bl_gr ?_ _ | refine bl_al ?_ _ | refine below_setRow ?_ (by first | omega | (simp; done) | (simp; omega)) _ | refine bl_drewN ?_ _ | refine Below.drew ?_ | (refine bl_tr ?_ (by assumption))))))).mono ?_; rintro e w5 ⟨v5, rfl, hv, hb⟩; obtain ⟨A7, c7, rfl, -⟩ := hv.form; have V5 := Lib.hid hv; have B5 := Lib.hid (show Below wr.heap.size wr w5 from bl_tr (by (repeat (with_reducible first | exact Below.refl _ _ | (refine bl_set ?_ (by first | omega | (simp; done) | (simp; omega)) _) | refine bl_gr ?_ _ | refine bl_al ?_ _ | refine below_setRow ?_ (by first | omega | (simp; done) | (simp; omega)) _ | refine bl_drewN ?_ _ | refine Below.drew ?_ | (refine bl_tr ?_ (by assumption))))) hb); clear hv hb a0 a1 a2 a3 a4 a5 a6 a7; obtain ⟨⟨a0, a1, a2, a3, a4, a5, a6, a7⟩, _⟩ := cells8 (BW.out.step B5.out).1; have l5 := (BW.out.step B5.out).lt))
        | (go_at_call 13; go_loud (refine (DB.out _ (bl_tr BW.out.2 (bl_tr B5.out (by (repeat (with_reducible first | exact Below.refl _ _ | (refine bl_set ?_ (by first | omega | (simp; done) | (simp; omega)) _) | refine bl_gr ?_ _ | refine bl_al ?_ _ | refine below_setRow ?_ (by first | omega | (simp; done) | (simp; omega)) _ | refine bl_drewN ?_ _ | refine Below.drew ?_ | (refine bl_tr ?_ (by assumption)))))))).mono ?_; rintro e w6 ⟨v6, rfl, hv, hb⟩; obtain ⟨A8, c8, rfl, -⟩ := hv.form; have V6 := Lib.hid hv; have B6 := Lib.hid (show Below w5.heap.size w5 w6 from bl_tr (by (repeat (with_reducible first | exact Below.refl _ _ | (refine bl_set ?_ (by first | omega | (simp; done) | (simp; omega)) _) | refine bl_gr ?_ _ | refine bl_al ?_ _ | refine below_setRow ?_ (by first | omega | (simp; done) | (simp; omega)) _ | refine bl_drewN ?_ _ | refine Below.drew ?_ | (refine bl_tr ?_ (by assumption))))) hb); clear hv hb))
        | (go_at_call 14; refine (callGr (SI.out _ _ _ (V5.out.below (bl_tr B6.out (by (repeat (with_reducible first | exact Below.refl _ _ | (refine bl_set ?_ (by first | omega | (simp; done) | (simp; omega)) _) | refine bl_gr ?_ _ | refine bl_al ?_ _ | refine below_setRow ?_ (by first | omega | (simp; done) | (simp; omega)) _ | refine bl_drewN ?_ _ | refine Below.drew ?_ | (refine bl_tr ?_ (by assumption))))))) (V6.out.below (by (repeat (with_reducible first | exact Below.refl _ _ | (refine bl_set ?_ (by first | omega | (simp; done) | (simp; omega)) _) | refine bl_gr ?_ _ | refine bl_al ?_ _ | refine below_setRow ?_ (by first | omega | (simp; done) | (simp; omega)) _ | refine bl_drewN ?_ _ | refine Below.drew ?_ | (refine bl_tr ?_ (by assumption)))))))).mono ?_; rintro e w' ⟨pp, rfl, rfl⟩)
        | (go_at_call 9; refine (callGr (LV.out _)).mono ?_; rintro e w' ⟨pp, rfl, rfl⟩))
      go_ret
      exact ⟨by simp, bl_tr BW.out.2 (bl_tr B5.out (bl_tr B6.out (by (repeat (with_reducible first | exact Below.refl _ _ | (refine bl_set ?_ (by first | omega | (simp; done) | (simp; omega)) _) | refine bl_gr ?_ _ | refine bl_al ?_ _ | refine below_setRow ?_ (by first | omega | (simp; done) | (simp; omega)) _ | refine bl_drewN ?_ _ | refine Below.drew ?_ | (refine bl_tr ?_ (by assumption)))))))⟩
end Go.Proofs.Ytcmpgohpncnagaa
