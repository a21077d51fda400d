/- Walks of the reference: Right. -/
import Derived.Test.YtippimonpdeioaaDescE
import Derived.Deep.DeepCutAuto
namespace Go.Proofs.Ytippimonpdeioaa
set_option linter.all false
open Go.RowKit Go.Sort

abbrev dbox (d : Dsc) (w : World) : World := w.alloc (.cells #[.int .i64 d.h, .int .i64 d.a, .int .i64 d.v.k, .int .i64 d.v.n, .string d.v.s, .int .i64 d.g.k, .int .i64 d.g.n, .string d.g.s, .int .i64 d.t.k, .int .i64 d.t.n, .string d.t.s] 27)
theorem dbox_gr {d : Dsc} {w w' : World} (h : Below (dbox d w).heap.size (dbox d w) w') : ∃ p : Regrown, w' = gr (dbox d w) p := gr_of_below h

set_option maxRecDepth 100000 in
set_option maxHeartbeats 8000000 in
theorem rright_any (d : Dsc) (w : World) (hn : i64ok d.h) (ha : i64ok d.a) :
    Calls Try.prog 11 #[d.agg] w fun e w' => e = .returned (.bool (rightR d)) ∧ Below w.heap.size w w' := by
  cases hh : halfR d.g (bt d.h 4)
  all_goals
    go_enter Try.func11, Try.ntmps11
    go_upto_region 1 with fail
    go_cut [28] (fun s w' => s = .bool (rr1 d) ∧ Below (dbox d w).heap.size (dbox d w) w')
    case first =>
      go_wp2_with (first | (go_at_call 34; refine (callGr (racc_any d _ hn)).mono ?_; rintro e w' ⟨pp, rfl, rfl⟩) | (go_at_call 33; refine (callGr (rdata_any d _ hn)).mono ?_; rintro e w' ⟨pp, rfl, rfl⟩))
      all_goals go_meet
      all_goals go_tidy
      all_goals exact ⟨by simp [rr1, *], by (repeat (with_reducible first | exact Below.refl _ _ | (refine bl_set ?_ (by first | omega | (simp; done) | (simp; omega)) _) | refine bl_gr ?_ _ | refine bl_al ?_ _ | refine below_setRow ?_ (by first | omega | (simp; done) | (simp; omega)) _ | refine bl_drewN ?_ _ | refine Below.drew ?_ | (refine bl_tr ?_ (by assumption))))⟩
    case rest =>
      obtain ⟨rfl, hb⟩ := hcut
      obtain ⟨pp, rfl⟩ := dbox_gr hb
      clear hb
      cases h1 : rr1 d
      case true =>
        go_wp2
        go_ret
        exact ⟨by simp [rightR, h1], by (repeat (with_reducible first | exact Below.refl _ _ | (refine bl_set ?_ (by first | omega | (simp; done) | (simp; omega)) _) | refine bl_gr ?_ _ | refine bl_al ?_ _ | refine below_setRow ?_ (by first | omega | (simp; done) | (simp; omega)) _ | refine bl_drewN ?_ _ | refine Below.drew ?_ | (refine bl_tr ?_ (by assumption))))⟩
      case false =>
      go_upto_region 3 with fail
      go_cut [56] (fun s w' => s = .bool (rr2 d) ∧ Below (dbox d w).heap.size (dbox d w) w')
      case first =>
        go_wp2_with (first | (go_at_call 36; refine (callGr (rsays_any d _ _ (by omega) (by omega) hn)).mono ?_; rintro e w' ⟨pp, rfl, rfl⟩) | (go_at_call 35; refine (bit_any _ _ _ (by omega) (by omega) ha).mono ?_; rintro e w' ⟨rfl, rfl⟩))
        all_goals go_meet
        all_goals go_tidy
        all_goals exact ⟨by simp [rr2, *], by (repeat (with_reducible first | exact Below.refl _ _ | (refine bl_set ?_ (by first | omega | (simp; done) | (simp; omega)) _) | refine bl_gr ?_ _ | refine bl_al ?_ _ | refine below_setRow ?_ (by first | omega | (simp; done) | (simp; omega)) _ | refine bl_drewN ?_ _ | refine Below.drew ?_ | (refine bl_tr ?_ (by assumption))))⟩
      case rest =>
        obtain ⟨rfl, hb⟩ := hcut
        obtain ⟨pp, rfl⟩ := dbox_gr hb
        clear hb
        cases h2 : rr2 d
        case true =>
          go_wp2
          go_ret
          exact ⟨by simp [rightR, h1, h2], by (repeat (with_reducible first | exact Below.refl _ _ | (refine bl_set ?_ (by first | omega | (simp; done) | (simp; omega)) _) | refine bl_gr ?_ _ | refine bl_al ?_ _ | refine below_setRow ?_ (by first | omega | (simp; done) | (simp; omega)) _ | refine bl_drewN ?_ _ | refine Below.drew ?_ | (refine bl_tr ?_ (by assumption))))⟩
        case false =>
        go_upto_region 5 with fail
        go_cut [77] (fun s w' => s = .bool (rr3 d) ∧ Below (dbox d w).heap.size (dbox d w) w')
        case first =>
          go_wp2_with (first | (go_at_call 36; refine (callGr (rsays_any d _ _ (by omega) (by omega) hn)).mono ?_; rintro e w' ⟨pp, rfl, rfl⟩) | (go_at_call 35; refine (bit_any _ _ _ (by omega) (by omega) ha).mono ?_; rintro e w' ⟨rfl, rfl⟩))
          all_goals go_meet
          all_goals go_tidy
          all_goals exact ⟨by simp [rr3, Val.eq, *], by (repeat (with_reducible first | exact Below.refl _ _ | (refine bl_set ?_ (by first | omega | (simp; done) | (simp; omega)) _) | refine bl_gr ?_ _ | refine bl_al ?_ _ | refine below_setRow ?_ (by first | omega | (simp; done) | (simp; omega)) _ | refine bl_drewN ?_ _ | refine Below.drew ?_ | (refine bl_tr ?_ (by assumption))))⟩
        case rest =>
          obtain ⟨rfl, hb⟩ := hcut
          obtain ⟨pp, rfl⟩ := dbox_gr hb
          clear hb
          cases h3 : rr3 d
          case true =>
            go_wp2
            go_ret
            exact ⟨by simp [rightR, h1, h2, h3], by (repeat (with_reducible first | exact Below.refl _ _ | (refine bl_set ?_ (by first | omega | (simp; done) | (simp; omega)) _) | refine bl_gr ?_ _ | refine bl_al ?_ _ | refine below_setRow ?_ (by first | omega | (simp; done) | (simp; omega)) _ | refine bl_drewN ?_ _ | refine Below.drew ?_ | (refine bl_tr ?_ (by assumption))))⟩
          case false =>
          go_wp2
          ((first | (with_reducible refine wp_quiet_gr Try.mixed ?_ ?_) | (with_reducible refine wp_quiet_any Try.mixed ?_ ?_)); (next => kernel_rfl); (repeat (with_reducible refine wpQuiet_step (fun K hK => ?_); go_simp; first | (refine hK _ ?_; clear hK K) | (apply Exists.intro; refine ⟨fun _ => ?_, hK _ ?_⟩; (first | (go_at_call 36; exact callQ (rsays_any d _ _ (by omega) (by omega) hn)) | (go_at_call 37; exact callQ (rhalf_any _ _ _))); clear hK K))); refine wpQuiet_nil ?_; intro pq)
          go_wp2
          go_ret
          exact ⟨by simp [rightR, *], by (repeat (with_reducible first | exact Below.refl _ _ | (refine bl_set ?_ (by first | omega | (simp; done) | (simp; omega)) _) | refine bl_gr ?_ _ | refine bl_al ?_ _ | refine below_setRow ?_ (by first | omega | (simp; done) | (simp; omega)) _ | refine bl_drewN ?_ _ | refine Below.drew ?_ | (refine bl_tr ?_ (by assumption))))⟩
end Go.Proofs.Ytippimonpdeioaa
