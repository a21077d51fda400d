/- Walks of the law's model (printed by genx.py). -/
import Derived.Test.YtgajmhklinolmaaSpXa
namespace Go.Proofs.Ytgajmhklinolmaa
set_option linter.all false
open Go.RowKit Go.Sort Go.Deep

set_option maxRecDepth 100000 in
set_option maxHeartbeats 2000000 in
theorem model_none {K : KC} (hK : KOne K) (room : Int) (lv : Value) (l : List CellD) (kd n : Int) (c : CellD) (A B : Option Addr) (ca cb : Nat) (w : World) (h : RowK K w lv l) (h1 : K ⟨c.k, c.sh, c.fl, c.ag, .slice A c.sl.length ca, .slice B c.mo.length cb⟩ c) (k0 : (kd == 0) = false) (k1 : (kd == 1) = false) (k2 : (kd == 2) = false) :
    Calls Try.prog 12 #[spV room lv, actV kd n c.k c.sh c.fl c.ag (.slice A c.sl.length ca) (.slice B c.mo.length cb)] w fun e w' => e = .returned (.tuple #[spV room lv, .int .i64 0, .int .i64 0]) ∧ Below w.heap.size w w' := by
  obtain ⟨D, cap, rfl, hca, hm⟩ := h.form
  have H := Lib.hid h
  have HV := Lib.hid h1
  clear h h1
  go_enter Try.func12, Try.ntmps12
  go_wp2_with (fail)
  refine bodyPost_ret (v := .tuple #[spV room (.slice D l.length cap), .int .i64 0, .int .i64 0]) (by simp [results, Try.results12, go_sem, gr_size]) rfl ⟨rfl, by (repeat (with_reducible first | exact Below.refl _ _ | (refine bl_set ?_ (by first | omega | (simp; done) | (simp; omega)) _) | refine bl_gr ?_ _ | refine bl_al ?_ _ | refine below_setRow ?_ (by first | omega | (simp; done) | (simp; omega)) _ | refine bl_drewN ?_ _ | refine Below.drew ?_ | (refine bl_tr ?_ (by assumption))))⟩

set_option maxRecDepth 100000 in
set_option maxHeartbeats 2000000 in
theorem model_full {K : KC} (hK : KOne K) (room : Int) (lv : Value) (l : List CellD) (kd n : Int) (c : CellD) (A B : Option Addr) (ca cb : Nat) (w : World) (h : RowK K w lv l) (h1 : K ⟨c.k, c.sh, c.fl, c.ag, .slice A c.sl.length ca, .slice B c.mo.length cb⟩ c) (hr : room ≤ l.length) :
    Calls Try.prog 12 #[spV room lv, actV 0 n c.k c.sh c.fl c.ag (.slice A c.sl.length ca) (.slice B c.mo.length cb)] w fun e w' => e = .returned (.tuple #[spV room lv, .int .i64 0, .int .i64 5]) ∧ Below w.heap.size w w' := by
  obtain ⟨D, cap, rfl, hca, hm⟩ := h.form
  have H := Lib.hid h
  have HV := Lib.hid h1
  clear h h1
  go_enter Try.func12, Try.ntmps12
  go_wp2_with (go_at_call 25; refine (callGr (rput_fullK room _ _ _ _ _ _ _ l _ (H.out.below (by (repeat (with_reducible first | exact Below.refl _ _ | (refine bl_set ?_ (by first | omega | (simp; done) | (simp; omega)) _) | refine bl_gr ?_ _ | refine bl_al ?_ _ | refine below_setRow ?_ (by first | omega | (simp; done) | (simp; omega)) _ | refine bl_drewN ?_ _ | refine Below.drew ?_ | (refine bl_tr ?_ (by assumption)))))) hr)).mono ?_; rintro e w' ⟨pp, rfl, rfl⟩)
  refine bodyPost_ret (v := .tuple #[spV room (.slice D l.length cap), .int .i64 0, .int .i64 5]) (by simp [results, Try.results12, go_sem, gr_size]) rfl ⟨rfl, by (repeat (with_reducible first | exact Below.refl _ _ | (refine bl_set ?_ (by first | omega | (simp; done) | (simp; omega)) _) | refine bl_gr ?_ _ | refine bl_al ?_ _ | refine below_setRow ?_ (by first | omega | (simp; done) | (simp; omega)) _ | refine bl_drewN ?_ _ | refine Below.drew ?_ | (refine bl_tr ?_ (by assumption))))⟩

set_option maxRecDepth 100000 in
set_option maxHeartbeats 2000000 in
theorem model_put {K : KC} (hK : KOne K) (room : Int) (lv : Value) (l : List CellD) (kd n : Int) (c : CellD) (A B : Option Addr) (ca cb : Nat) (w : World) (h : RowK K w lv l) (h1 : K ⟨c.k, c.sh, c.fl, c.ag, .slice A c.sl.length ca, .slice B c.mo.length cb⟩ c) (hl : l.length < room) (hr : room ≤ 1048576) :
    Calls Try.prog 12 #[spV room lv, actV 0 n c.k c.sh c.fl c.ag (.slice A c.sl.length ca) (.slice B c.mo.length cb)] w fun e w' => ∃ lv', e = .returned (.tuple #[spV room lv', .int .i64 l.length, .int .i64 0]) ∧ RowN K w w' lv' (l ++ [c]) ∧ Below w.heap.size w w' := by
  obtain ⟨D, cap, rfl, hca, hm⟩ := h.form
  have H := Lib.hid h
  have HV := Lib.hid h1
  clear h h1
  go_enter Try.func12, Try.ntmps12
  go_wp2_with (go_at_call 25; refine (rput_new hK room _ _ _ _ _ c l _ (H.out.below (by (repeat (with_reducible first | exact Below.refl _ _ | (refine bl_set ?_ (by first | omega | (simp; done) | (simp; omega)) _) | refine bl_gr ?_ _ | refine bl_al ?_ _ | refine below_setRow ?_ (by first | omega | (simp; done) | (simp; omega)) _ | refine bl_drewN ?_ _ | refine Below.drew ?_ | (refine bl_tr ?_ (by assumption)))))) hl hr HV.out).mono ?_; rintro e w1 ⟨lv', rfl, hc, hb⟩; obtain ⟨D1, cap1, rfl⟩ := hc.form; obtain ⟨pp, rfl⟩ := gr_of_below hb; have HC := Lib.hid hc; clear hc hb)
  refine bodyPost_ret (v := .tuple #[spV room (.slice D1 (l ++ [c]).length cap1), .int .i64 l.length, .int .i64 0]) (by simp [results, Try.results12, go_sem, gr_size]) rfl ⟨_, rfl, ?_, ?_⟩
  · first | exact HC.out.carry (Nat.le_refl _) (by simp) (by simp <;> omega) | exact RowN.belo (HC.out.carry (Nat.le_refl _) (by simp) (by simp <;> omega)) (bl_al (Below.refl _ _) _)
  · (repeat (with_reducible first | exact Below.refl _ _ | (refine bl_set ?_ (by first | omega | (simp; done) | (simp; omega)) _) | refine bl_gr ?_ _ | refine bl_al ?_ _ | refine below_setRow ?_ (by first | omega | (simp; done) | (simp; omega)) _ | refine bl_drewN ?_ _ | refine Below.drew ?_ | (refine bl_tr ?_ (by assumption))))

set_option maxRecDepth 100000 in
set_option maxHeartbeats 2000000 in
theorem model_sout {K : KC} (hK : KOne K) (room : Int) (lv : Value) (l : List CellD) (kd n : Int) (c : CellD) (A B : Option Addr) (ca cb : Nat) (w : World) (h : RowK K w lv l) (h1 : K ⟨c.k, c.sh, c.fl, c.ag, .slice A c.sl.length ca, .slice B c.mo.length cb⟩ c) (hi : n < 0 ∨ l.length ≤ n) :
    Calls Try.prog 12 #[spV room lv, actV 1 n c.k c.sh c.fl c.ag (.slice A c.sl.length ca) (.slice B c.mo.length cb)] w fun e w' => e = .returned (.tuple #[spV room lv, .int .i64 0, .int .i64 3]) ∧ Below w.heap.size w w' := by
  obtain ⟨D, cap, rfl, hca, hm⟩ := h.form
  have H := Lib.hid h
  have HV := Lib.hid h1
  clear h h1
  go_enter Try.func12, Try.ntmps12
  go_wp2_with (go_at_call 26; refine (callGr (rset_outK room _ _ _ _ _ _ _ n l _ (H.out.below (by (repeat (with_reducible first | exact Below.refl _ _ | (refine bl_set ?_ (by first | omega | (simp; done) | (simp; omega)) _) | refine bl_gr ?_ _ | refine bl_al ?_ _ | refine below_setRow ?_ (by first | omega | (simp; done) | (simp; omega)) _ | refine bl_drewN ?_ _ | refine Below.drew ?_ | (refine bl_tr ?_ (by assumption)))))) hi)).mono ?_; rintro e w' ⟨pp, rfl, rfl⟩)
  refine bodyPost_ret (v := .tuple #[spV room (.slice D l.length cap), .int .i64 0, .int .i64 3]) (by simp [results, Try.results12, go_sem, gr_size]) rfl ⟨rfl, by (repeat (with_reducible first | exact Below.refl _ _ | (refine bl_set ?_ (by first | omega | (simp; done) | (simp; omega)) _) | refine bl_gr ?_ _ | refine bl_al ?_ _ | refine below_setRow ?_ (by first | omega | (simp; done) | (simp; omega)) _ | refine bl_drewN ?_ _ | refine Below.drew ?_ | (refine bl_tr ?_ (by assumption))))⟩

set_option maxRecDepth 100000 in
set_option maxHeartbeats 2000000 in
theorem model_set {K : KC} (hK : KOne K) (room : Int) (lv : Value) (l : List CellD) (kd n : Int) (c : CellD) (A B : Option Addr) (ca cb : Nat) (w : World) (h : RowK K w lv l) (h1 : K ⟨c.k, c.sh, c.fl, c.ag, .slice A c.sl.length ca, .slice B c.mo.length cb⟩ c) (i : Nat) (hn : n = i) (hi : i < l.length) (hr : l.length ≤ 1048576) :
    Calls Try.prog 12 #[spV room lv, actV 1 n c.k c.sh c.fl c.ag (.slice A c.sl.length ca) (.slice B c.mo.length cb)] w fun e w' => ∃ lv', e = .returned (.tuple #[spV room lv', .int .i64 0, .int .i64 0]) ∧ RowN K w w' lv' (l.set i c) ∧ Below w.heap.size w w' := by
  obtain ⟨D, cap, rfl, hca, hm⟩ := h.form
  have H := Lib.hid h
  have HV := Lib.hid h1
  clear h h1
  subst hn
  go_enter Try.func12, Try.ntmps12
  go_wp2_with (go_at_call 26; refine (rset_new hK room _ _ _ _ _ c i l _ (H.out.below (by (repeat (with_reducible first | exact Below.refl _ _ | (refine bl_set ?_ (by first | omega | (simp; done) | (simp; omega)) _) | refine bl_gr ?_ _ | refine bl_al ?_ _ | refine below_setRow ?_ (by first | omega | (simp; done) | (simp; omega)) _ | refine bl_drewN ?_ _ | refine Below.drew ?_ | (refine bl_tr ?_ (by assumption)))))) hi hr HV.out).mono ?_; rintro e w1 ⟨lv', rfl, hc, hb⟩; obtain ⟨D1, cap1, rfl⟩ := hc.form; obtain ⟨pp, rfl⟩ := gr_of_below hb; have HC := Lib.hid hc; clear hc hb)
  refine bodyPost_ret (v := .tuple #[spV room (.slice D1 (l.set i c).length cap1), .int .i64 0, .int .i64 0]) (by simp [results, Try.results12, go_sem, gr_size]) rfl ⟨_, rfl, ?_, ?_⟩
  · first | exact HC.out.carry (Nat.le_refl _) (by simp) (by simp <;> omega) | exact RowN.belo (HC.out.carry (Nat.le_refl _) (by simp) (by simp <;> omega)) (bl_al (Below.refl _ _) _)
  · (repeat (with_reducible first | exact Below.refl _ _ | (refine bl_set ?_ (by first | omega | (simp; done) | (simp; omega)) _) | refine bl_gr ?_ _ | refine bl_al ?_ _ | refine below_setRow ?_ (by first | omega | (simp; done) | (simp; omega)) _ | refine bl_drewN ?_ _ | refine Below.drew ?_ | (refine bl_tr ?_ (by assumption))))

set_option maxRecDepth 100000 in
set_option maxHeartbeats 2000000 in
theorem model_clear {K : KC} (hK : KOne K) (room : Int) (lv : Value) (l : List CellD) (kd n : Int) (c : CellD) (A B : Option Addr) (ca cb : Nat) (w : World) (h : RowK K w lv l) (h1 : K ⟨c.k, c.sh, c.fl, c.ag, .slice A c.sl.length ca, .slice B c.mo.length cb⟩ c) :
    Calls Try.prog 12 #[spV room lv, actV 2 n c.k c.sh c.fl c.ag (.slice A c.sl.length ca) (.slice B c.mo.length cb)] w fun e w' => e = .returned (.tuple #[spV room (.slice none 0 0), .int .i64 0, .int .i64 0]) ∧ Below w.heap.size w w' := by
  obtain ⟨D, cap, rfl, hca, hm⟩ := h.form
  have H := Lib.hid h
  have HV := Lib.hid h1
  clear h h1
  go_enter Try.func12, Try.ntmps12
  go_wp2_with (go_at_call 27; refine (callGr (rclear_any room _ _)).mono ?_; rintro e w' ⟨pp, rfl, rfl⟩)
  refine bodyPost_ret (v := .tuple #[spV room ((.slice none 0 0)), .int .i64 0, .int .i64 0]) (by simp [results, Try.results12, go_sem, gr_size]) rfl ⟨rfl, by (repeat (with_reducible first | exact Below.refl _ _ | (refine bl_set ?_ (by first | omega | (simp; done) | (simp; omega)) _) | refine bl_gr ?_ _ | refine bl_al ?_ _ | refine below_setRow ?_ (by first | omega | (simp; done) | (simp; omega)) _ | refine bl_drewN ?_ _ | refine Below.drew ?_ | (refine bl_tr ?_ (by assumption))))⟩
end Go.Proofs.Ytgajmhklinolmaa
