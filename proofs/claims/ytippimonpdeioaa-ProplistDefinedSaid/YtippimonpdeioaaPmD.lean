/- Property lists: right, and the reference's one. Property lists: sets of keys kept as a map; Right. Property lists: the reference's Right. -/
import Derived.Test.YtippimonpdeioaaPmA
import Derived.Test.YtippimonpdeioaaSrI
import Derived.Test.YtippimonpdeioaaPmB
import Derived.Maps.Own
import Derived.Maps.Views
import Derived.Maps.OwnOps
import Derived.DeepKeys4
namespace Go.Proofs.Ytippimonpdeioaa
set_option linter.all false
open Go.ChangeShapes Go.WideShapes Go.ChangeAt Go.RowKit Go.Sort Go.Deep

/-- is a property valid -/
def rgtM (p : Prp) : Bool := keyM p.k && !decide (p.a < 0) && !decide (15 < p.a) &&
  (if bits .and .i64 p.a 8 == 0 then p.g.eq .zero && p.t.eq .zero else bits .and .i64 p.a 1 == 0 && p.v.eq .zero && halfM p.g && halfM p.t)
set_option maxRecDepth 100000 in
set_option maxHeartbeats 4000000 in
theorem half_any (v : Val) (w : World) : Calls Try.prog 59 #[v.agg] w fun e w' => e = .returned (.bool (halfM v)) ∧ Below w.heap.size w w' := by
  cases h0 : v.k == 0 <;> cases h7 : v.k == 7
  all_goals as_aux_lemma =>
    go_enter Try.func59, Try.ntmps59
    go_wp2
    go_ret
    exact ⟨by simp [halfM, h0, h7], by (repeat (with_reducible first | exact Below.refl _ _ | (refine bl_set ?_ (by first | omega | (simp; done) | (simp; omega)) _) | refine bl_gr ?_ _ | refine bl_al ?_ _ | refine below_setRow ?_ (by first | omega | (simp; done) | (simp; omega)) _ | refine bl_drewN ?_ _ | refine Below.drew ?_ | (refine bl_tr ?_ (by assumption))))⟩
set_option maxRecDepth 100000 in
set_option maxHeartbeats 4000000 in
theorem rhalfP_any (v : Val) (w : World) : Calls Try.prog 50 #[v.agg] w fun e w' => e = .returned (.bool (halfM v)) ∧ Below w.heap.size w w' := by
  cases h0 : v.k == 0 <;> cases h7 : v.k == 7
  all_goals as_aux_lemma =>
    go_enter Try.func50, Try.ntmps50
    go_wp2
    go_ret
    exact ⟨by simp [halfM, h0, h7], by (repeat (with_reducible first | exact Below.refl _ _ | (refine bl_set ?_ (by first | omega | (simp; done) | (simp; omega)) _) | refine bl_gr ?_ _ | refine bl_al ?_ _ | refine below_setRow ?_ (by first | omega | (simp; done) | (simp; omega)) _ | refine bl_drewN ?_ _ | refine Below.drew ?_ | (refine bl_tr ?_ (by assumption))))⟩
abbrev CallB (f : FuncId) (args : Array Value) (b : Bool) : Prop := ∀ W, Calls Try.prog f args W fun e w' => e = .returned (.bool b) ∧ Below W.heap.size W w'

set_option maxRecDepth 100000 in
set_option maxHeartbeats 8000000 in
theorem rgt_any (p : Prp) (hs : p.k.s.size ≤ maxLen) (w : World) : Calls Try.prog 45 #[p.agg] w fun e w' => e = .returned (.bool (rgtM p)) ∧ Below w.heap.size w w' := by
  have KR := Lib.hid (show CallB 56 #[p.k.agg] (keyM p.k) from fun W => kright_any p.k hs W)
  have HG := Lib.hid (show CallB 59 #[p.g.agg] (halfM p.g) from fun W => half_any p.g W)
  have HT := Lib.hid (show CallB 59 #[p.t.agg] (halfM p.t) from fun W => half_any p.t W)
  have RS := Lib.hid (show rgtM p = (keyM p.k && !decide (p.a < 0) && !decide (15 < p.a) &&
    (if bits .and .i64 p.a 8 == 0 then (Val.mk p.g.k p.g.n p.g.s).eq .zero && (Val.mk p.t.k p.t.n p.t.s).eq .zero else bits .and .i64 p.a 1 == 0 && (Val.mk p.v.k p.v.n p.v.s).eq .zero && halfM p.g && halfM p.t)) from rfl)
  clear hs
  rw [RS.out]
  cases hk : keyM p.k
  · rw [hk] at KR
    go_enter Try.func45, Try.ntmps45
    go_wp2_with (go_at_call 56; refine (callGr (KR.out _)).mono ?_; rintro e w' ⟨pp, rfl, rfl⟩)
    all_goals go_ret
    all_goals exact ⟨rfl, by (repeat (with_reducible first | exact Below.refl _ _ | (refine bl_set ?_ (by first | omega | (simp; done) | (simp; omega)) _) | refine bl_gr ?_ _ | refine bl_al ?_ _ | refine below_setRow ?_ (by first | omega | (simp; done) | (simp; omega)) _ | refine bl_drewN ?_ _ | refine Below.drew ?_ | (refine bl_tr ?_ (by assumption))))⟩
  rw [hk] at KR
  by_cases h0 : p.a < 0
  · go_enter Try.func45, Try.ntmps45
    go_wp2_with (go_at_call 56; refine (callGr (KR.out _)).mono ?_; rintro e w' ⟨pp, rfl, rfl⟩)
    all_goals go_ret
    all_goals exact ⟨by simp [h0], by (repeat (with_reducible first | exact Below.refl _ _ | (refine bl_set ?_ (by first | omega | (simp; done) | (simp; omega)) _) | refine bl_gr ?_ _ | refine bl_al ?_ _ | refine below_setRow ?_ (by first | omega | (simp; done) | (simp; omega)) _ | refine bl_drewN ?_ _ | refine Below.drew ?_ | (refine bl_tr ?_ (by assumption))))⟩
  by_cases h15 : 15 < p.a
  · go_enter Try.func45, Try.ntmps45
    go_wp2_with (go_at_call 56; refine (callGr (KR.out _)).mono ?_; rintro e w' ⟨pp, rfl, rfl⟩)
    all_goals go_ret
    all_goals exact ⟨by simp [h15], by (repeat (with_reducible first | exact Below.refl _ _ | (refine bl_set ?_ (by first | omega | (simp; done) | (simp; omega)) _) | refine bl_gr ?_ _ | refine bl_al ?_ _ | refine below_setRow ?_ (by first | omega | (simp; done) | (simp; omega)) _ | refine bl_drewN ?_ _ | refine Below.drew ?_ | (refine bl_tr ?_ (by assumption))))⟩
  cases h8 : bits .and .i64 p.a 8 == 0
  · cases h1 : bits .and .i64 p.a 1 == 0
    · as_aux_lemma =>
      go_enter Try.func45, Try.ntmps45
      go_wp2_with (go_at_call 56; refine (callGr (KR.out _)).mono ?_; rintro e w' ⟨pp, rfl, rfl⟩)
      all_goals go_ret
      all_goals exact ⟨by simp, by (repeat (with_reducible first | exact Below.refl _ _ | (refine bl_set ?_ (by first | omega | (simp; done) | (simp; omega)) _) | refine bl_gr ?_ _ | refine bl_al ?_ _ | refine below_setRow ?_ (by first | omega | (simp; done) | (simp; omega)) _ | refine bl_drewN ?_ _ | refine Below.drew ?_ | (refine bl_tr ?_ (by assumption))))⟩
    cases hv : (Val.mk p.v.k p.v.n p.v.s).eq .zero
    · as_aux_lemma =>
      go_enter Try.func45, Try.ntmps45
      go_wp2_with (go_at_call 56; refine (callGr (KR.out _)).mono ?_; rintro e w' ⟨pp, rfl, rfl⟩)
      all_goals go_ret
      all_goals exact ⟨by simp, by (repeat (with_reducible first | exact Below.refl _ _ | (refine bl_set ?_ (by first | omega | (simp; done) | (simp; omega)) _) | refine bl_gr ?_ _ | refine bl_al ?_ _ | refine below_setRow ?_ (by first | omega | (simp; done) | (simp; omega)) _ | refine bl_drewN ?_ _ | refine Below.drew ?_ | (refine bl_tr ?_ (by assumption))))⟩
    cases hg : halfM p.g
    · rw [hg] at HG
      as_aux_lemma =>
      go_enter Try.func45, Try.ntmps45
      go_wp2_with (first | (go_at_call 56; refine (callGr (KR.out _)).mono ?_; rintro e w' ⟨pp, rfl, rfl⟩) | (go_at_call 59; refine (callGr (HG.out _)).mono ?_; rintro e w' ⟨pp, rfl, rfl⟩))
      all_goals go_ret
      all_goals exact ⟨by simp, by (repeat (with_reducible first | exact Below.refl _ _ | (refine bl_set ?_ (by first | omega | (simp; done) | (simp; omega)) _) | refine bl_gr ?_ _ | refine bl_al ?_ _ | refine below_setRow ?_ (by first | omega | (simp; done) | (simp; omega)) _ | refine bl_drewN ?_ _ | refine Below.drew ?_ | (refine bl_tr ?_ (by assumption))))⟩
    rw [hg] at HG
    as_aux_lemma =>
    go_enter Try.func45, Try.ntmps45
    go_wp2_with (first | (go_at_call 56; refine (callGr (KR.out _)).mono ?_; rintro e w' ⟨pp, rfl, rfl⟩) | (go_at_call_of 59 (Value.string p.g.s); refine (callGr (HG.out _)).mono ?_; rintro e w' ⟨pp, rfl, rfl⟩) | (go_at_call_of 59 (Value.string p.t.s); refine (callGr (HT.out _)).mono ?_; rintro e w' ⟨pp, rfl, rfl⟩))
    all_goals go_ret
    all_goals exact ⟨by simp [h0, h15], by (repeat (with_reducible first | exact Below.refl _ _ | (refine bl_set ?_ (by first | omega | (simp; done) | (simp; omega)) _) | refine bl_gr ?_ _ | refine bl_al ?_ _ | refine below_setRow ?_ (by first | omega | (simp; done) | (simp; omega)) _ | refine bl_drewN ?_ _ | refine Below.drew ?_ | (refine bl_tr ?_ (by assumption))))⟩
  · cases hg : (Val.mk p.g.k p.g.n p.g.s).eq .zero
    · as_aux_lemma =>
      go_enter Try.func45, Try.ntmps45
      go_wp2_with (go_at_call 56; refine (callGr (KR.out _)).mono ?_; rintro e w' ⟨pp, rfl, rfl⟩)
      all_goals go_ret
      all_goals exact ⟨by simp, by (repeat (with_reducible first | exact Below.refl _ _ | (refine bl_set ?_ (by first | omega | (simp; done) | (simp; omega)) _) | refine bl_gr ?_ _ | refine bl_al ?_ _ | refine below_setRow ?_ (by first | omega | (simp; done) | (simp; omega)) _ | refine bl_drewN ?_ _ | refine Below.drew ?_ | (refine bl_tr ?_ (by assumption))))⟩
    as_aux_lemma =>
    go_enter Try.func45, Try.ntmps45
    go_wp2_with (go_at_call 56; refine (callGr (KR.out _)).mono ?_; rintro e w' ⟨pp, rfl, rfl⟩)
    all_goals go_ret
    all_goals exact ⟨by simp [h0, h15], by (repeat (with_reducible first | exact Below.refl _ _ | (refine bl_set ?_ (by first | omega | (simp; done) | (simp; omega)) _) | refine bl_gr ?_ _ | refine bl_al ?_ _ | refine below_setRow ?_ (by first | omega | (simp; done) | (simp; omega)) _ | refine bl_drewN ?_ _ | refine Below.drew ?_ | (refine bl_tr ?_ (by assumption))))⟩

/-- .. as the reference says it -/
def roneM (p : Prp) : Bool := keyM p.k && !decide (p.a < 0) && !decide (15 < p.a) &&
  (if 8 ≤ p.a then p.a % 2 == 0 && p.v.eq .zero && halfM p.g && halfM p.t else p.g.eq .zero && p.t.eq .zero)
set_option maxRecDepth 100000 in
set_option maxHeartbeats 8000000 in
theorem rone_any (p : Prp) (hs : p.k.s.size ≤ maxLen) (w : World) : Calls Try.prog 38 #[p.agg] w fun e w' => e = .returned (.bool (roneM p)) ∧ Below w.heap.size w w' := by
  have KR := Lib.hid (show CallB 16 #[p.k.agg] (keyM p.k) from fun W => krright_any p.k hs W)
  have HG := Lib.hid (show CallB 50 #[p.g.agg] (halfM p.g) from fun W => rhalfP_any p.g W)
  have HT := Lib.hid (show CallB 50 #[p.t.agg] (halfM p.t) from fun W => rhalfP_any p.t W)
  have RS := Lib.hid (show roneM p = (keyM p.k && !decide (p.a < 0) && !decide (15 < p.a) &&
    (if 8 ≤ p.a then p.a % 2 == 0 && (Val.mk p.v.k p.v.n p.v.s).eq .zero && halfM p.g && halfM p.t else (Val.mk p.g.k p.g.n p.g.s).eq .zero && (Val.mk p.t.k p.t.n p.t.s).eq .zero)) from rfl)
  clear hs
  rw [RS.out]
  cases hk : keyM p.k
  · rw [hk] at KR
    go_enter Try.func38, Try.ntmps38
    go_wp2_with (go_at_call 16; refine (callGr (KR.out _)).mono ?_; rintro e w' ⟨pp, rfl, rfl⟩)
    all_goals go_ret
    all_goals exact ⟨rfl, by (repeat (with_reducible first | exact Below.refl _ _ | (refine bl_set ?_ (by first | omega | (simp; done) | (simp; omega)) _) | refine bl_gr ?_ _ | refine bl_al ?_ _ | refine below_setRow ?_ (by first | omega | (simp; done) | (simp; omega)) _ | refine bl_drewN ?_ _ | refine Below.drew ?_ | (refine bl_tr ?_ (by assumption))))⟩
  rw [hk] at KR
  by_cases h0 : p.a < 0
  · go_enter Try.func38, Try.ntmps38
    go_wp2_with (go_at_call 16; refine (callGr (KR.out _)).mono ?_; rintro e w' ⟨pp, rfl, rfl⟩)
    all_goals go_ret
    all_goals exact ⟨by simp [h0], by (repeat (with_reducible first | exact Below.refl _ _ | (refine bl_set ?_ (by first | omega | (simp; done) | (simp; omega)) _) | refine bl_gr ?_ _ | refine bl_al ?_ _ | refine below_setRow ?_ (by first | omega | (simp; done) | (simp; omega)) _ | refine bl_drewN ?_ _ | refine Below.drew ?_ | (refine bl_tr ?_ (by assumption))))⟩
  by_cases h15 : 15 < p.a
  · go_enter Try.func38, Try.ntmps38
    go_wp2_with (go_at_call 16; refine (callGr (KR.out _)).mono ?_; rintro e w' ⟨pp, rfl, rfl⟩)
    all_goals go_ret
    all_goals exact ⟨by simp [h15], by (repeat (with_reducible first | exact Below.refl _ _ | (refine bl_set ?_ (by first | omega | (simp; done) | (simp; omega)) _) | refine bl_gr ?_ _ | refine bl_al ?_ _ | refine below_setRow ?_ (by first | omega | (simp; done) | (simp; omega)) _ | refine bl_drewN ?_ _ | refine Below.drew ?_ | (refine bl_tr ?_ (by assumption))))⟩
  have d0 : decide (p.a < 0) = false := by simpa using h0
  have d15 : decide (15 < p.a) = false := by simpa using h15
  have hb : 0 ≤ p.a ∧ p.a ≤ 15 := by omega
  by_cases h8 : 8 ≤ p.a
  · cases h1 : p.a % 2 == 0
    · have h1' : ¬ p.a % 2 = 0 := by simpa using h1
      as_aux_lemma =>
      go_enter Try.func38, Try.ntmps38
      go_wp2_with (go_at_call 16; refine (callGr (KR.out _)).mono ?_; rintro e w' ⟨pp, rfl, rfl⟩)
      all_goals go_ret
      all_goals exact ⟨by simp [h8], by (repeat (with_reducible first | exact Below.refl _ _ | (refine bl_set ?_ (by first | omega | (simp; done) | (simp; omega)) _) | refine bl_gr ?_ _ | refine bl_al ?_ _ | refine below_setRow ?_ (by first | omega | (simp; done) | (simp; omega)) _ | refine bl_drewN ?_ _ | refine Below.drew ?_ | (refine bl_tr ?_ (by assumption))))⟩
    have h1' : p.a % 2 = 0 := by simpa using h1
    cases hv : (Val.mk p.v.k p.v.n p.v.s).eq .zero
    · as_aux_lemma =>
      go_enter Try.func38, Try.ntmps38
      go_wp2_with (go_at_call 16; refine (callGr (KR.out _)).mono ?_; rintro e w' ⟨pp, rfl, rfl⟩)
      all_goals go_ret
      all_goals exact ⟨by simp [h8], by (repeat (with_reducible first | exact Below.refl _ _ | (refine bl_set ?_ (by first | omega | (simp; done) | (simp; omega)) _) | refine bl_gr ?_ _ | refine bl_al ?_ _ | refine below_setRow ?_ (by first | omega | (simp; done) | (simp; omega)) _ | refine bl_drewN ?_ _ | refine Below.drew ?_ | (refine bl_tr ?_ (by assumption))))⟩
    cases hg : halfM p.g
    · rw [hg] at HG
      as_aux_lemma =>
      go_enter Try.func38, Try.ntmps38
      go_wp2_with (first | (go_at_call 16; refine (callGr (KR.out _)).mono ?_; rintro e w' ⟨pp, rfl, rfl⟩) | (go_at_call 50; refine (callGr (HG.out _)).mono ?_; rintro e w' ⟨pp, rfl, rfl⟩))
      all_goals go_ret
      all_goals exact ⟨by simp [h8], by (repeat (with_reducible first | exact Below.refl _ _ | (refine bl_set ?_ (by first | omega | (simp; done) | (simp; omega)) _) | refine bl_gr ?_ _ | refine bl_al ?_ _ | refine below_setRow ?_ (by first | omega | (simp; done) | (simp; omega)) _ | refine bl_drewN ?_ _ | refine Below.drew ?_ | (refine bl_tr ?_ (by assumption))))⟩
    rw [hg] at HG
    as_aux_lemma =>
    go_enter Try.func38, Try.ntmps38
    go_wp2_with (first | (go_at_call 16; refine (callGr (KR.out _)).mono ?_; rintro e w' ⟨pp, rfl, rfl⟩) | (go_at_call_of 50 (Value.string p.g.s); refine (callGr (HG.out _)).mono ?_; rintro e w' ⟨pp, rfl, rfl⟩) | (go_at_call_of 50 (Value.string p.t.s); refine (callGr (HT.out _)).mono ?_; rintro e w' ⟨pp, rfl, rfl⟩))
    all_goals go_ret
    all_goals exact ⟨by simp [h0, h15, h8], by (repeat (with_reducible first | exact Below.refl _ _ | (refine bl_set ?_ (by first | omega | (simp; done) | (simp; omega)) _) | refine bl_gr ?_ _ | refine bl_al ?_ _ | refine below_setRow ?_ (by first | omega | (simp; done) | (simp; omega)) _ | refine bl_drewN ?_ _ | refine Below.drew ?_ | (refine bl_tr ?_ (by assumption))))⟩
  · cases hg : (Val.mk p.g.k p.g.n p.g.s).eq .zero
    · as_aux_lemma =>
      go_enter Try.func38, Try.ntmps38
      go_wp2_with (go_at_call 16; refine (callGr (KR.out _)).mono ?_; rintro e w' ⟨pp, rfl, rfl⟩)
      all_goals go_ret
      all_goals exact ⟨by simp [h8], by (repeat (with_reducible first | exact Below.refl _ _ | (refine bl_set ?_ (by first | omega | (simp; done) | (simp; omega)) _) | refine bl_gr ?_ _ | refine bl_al ?_ _ | refine below_setRow ?_ (by first | omega | (simp; done) | (simp; omega)) _ | refine bl_drewN ?_ _ | refine Below.drew ?_ | (refine bl_tr ?_ (by assumption))))⟩
    as_aux_lemma =>
    go_enter Try.func38, Try.ntmps38
    go_wp2_with (go_at_call 16; refine (callGr (KR.out _)).mono ?_; rintro e w' ⟨pp, rfl, rfl⟩)
    all_goals go_ret
    all_goals exact ⟨by simp [h0, h15, h8], by (repeat (with_reducible first | exact Below.refl _ _ | (refine bl_set ?_ (by first | omega | (simp; done) | (simp; omega)) _) | refine bl_gr ?_ _ | refine bl_al ?_ _ | refine below_setRow ?_ (by first | omega | (simp; done) | (simp; omega)) _ | refine bl_drewN ?_ _ | refine Below.drew ?_ | (refine bl_tr ?_ (by assumption))))⟩

/-- the two agree -/
theorem rgt_rone (p : Prp) : rgtM p = roneM p := by
  unfold rgtM roneM
  by_cases h0 : p.a < 0
  · simp [h0]
  by_cases h15 : 15 < p.a
  · simp [h15]
  have hr : p.a = 0 ∨ p.a = 1 ∨ p.a = 2 ∨ p.a = 3 ∨ p.a = 4 ∨ p.a = 5 ∨ p.a = 6 ∨ p.a = 7 ∨ p.a = 8 ∨ p.a = 9 ∨ p.a = 10 ∨ p.a = 11 ∨ p.a = 12 ∨ p.a = 13 ∨ p.a = 14 ∨ p.a = 15 := by omega
  have e8 : (bits .and .i64 p.a 8 == 0) = !decide (8 ≤ p.a) := by
    rcases hr with e | e | e | e | e | e | e | e | e | e | e | e | e | e | e | e <;> rw [e] <;> decide
  have e1 : (bits .and .i64 p.a 1 == 0) = (p.a % 2 == 0) := by
    rcases hr with e | e | e | e | e | e | e | e | e | e | e | e | e | e | e | e <;> rw [e] <;> decide
  rw [e8, e1]
  by_cases h8 : 8 ≤ p.a <;> simp [h8]
end Go.Proofs.Ytippimonpdeioaa
namespace Go.Proofs.Ytippimonpdeioaa
set_option linter.all false
open Go.ChangeShapes Go.WideShapes Go.ChangeAt Go.RowKit Go.Sort Go.Deep

theorem key_keyed : Maps.Keyed Try.prog 24 := Maps.Keyed.of_law (deep_law_laid Try.laidOut (m := 2) (by omega) (of_decide_eq_true (by kernel_rfl)) (by kernel_rfl) (by rw [Try.underlying24]))
theorem key_litX (k : Val) (h : k.ok) : ∃ l, keyOf Try.prog 24 k.agg = some l := by
  obtain ⟨m, hm⟩ : ∃ m, Try.prog.types.size = m + 1 := ⟨Try.prog.types.size - 1, by kernel_rfl⟩
  have ci : Try.prog.cellsOf 3 = 1 := by kernel_rfl
  have cs : Try.prog.cellsOf 9 = 1 := by kernel_rfl
  have ck : Try.prog.cellsOf 24 = 3 := by kernel_rfl
  have kt : Try.prog.keyType 24 = true := by kernel_rfl
  have fm : k.agg.formed Try.prog 24 = true := by simp [Value.formed, Try.underlying24, ck]
  have w1 : (Lit.int .i64 k.k).wf = true := by
    have := h.1
    unfold i64ok at this
    simp [Lit.wf, IntKind.min, IntKind.max, IntKind.signed, IntKind.bits]
    omega
  have w2 : (Lit.int .i64 k.n).wf = true := by
    have := h.2.1
    unfold i64ok at this
    simp [Lit.wf, IntKind.min, IntKind.max, IntKind.signed, IntKind.bits]
    omega
  unfold keyOf
  rw [Try.underlying24]
  simp only [kt, fm, Bool.and_self, if_true]
  rw [hm]
  simp [Program.keyLits, Try.underlying24, Try.underlying3, Try.underlying9, ci, cs, ck, w1, w2, h.2.2, Value.cells]
/-- w holds in block b a map from keys to Booleans that says s -/
def MapK (w : World) (b N : Nat) (s : Val → Bool) : Prop :=
  ∃ D : DataW Unit, Maps.IsMap D ∧ w.ownsMap Try.prog 24 (plainElem Try.prog 4) b N D ∧ ∀ (a : Val) l, keyOf Try.prog 24 a.agg = some l → D.atKey l (.lit (.bool false)) = .lit (.bool (s a))
theorem MapK.lt {w : World} {b N : Nat} {f : Val → Bool} (h : MapK w b N f) : b < w.heap.size := by
  obtain ⟨_, _, h, _⟩ := h; exact h.lt
theorem MapK.block {w w' : World} {b N : Nat} {f : Val → Bool} (h : MapK w b N f) (e : w'.heap[b]? = w.heap[b]?) : MapK w' b N f := by
  obtain ⟨D, hD, ⟨es, clock, hb, hF, hs, hd⟩, hf⟩ := h
  exact ⟨D, hD, ⟨es, clock, e.trans hb, hF, hs, hd⟩, hf⟩
theorem MapK.below {w w' : World} {b N : Nat} {f : Val → Bool} (h : MapK w b N f) (hb : Below w.heap.size w w') : MapK w' b N f := h.block (hb.block _ h.lt)
theorem MapK.made (w : World) : MapK (w.alloc (.map #[] 0)) w.heap.size 0 (fun _ => false) :=
  ⟨.map [], ⟨_, rfl⟩, World.ownsMap_made w _ _ _, fun a _ _ => rfl⟩
theorem run_makeMapK (w : World) : (Instr.makeMap 64 none).run Try.prog w = .ok (.map (some w.heap.size)) (w.alloc (.map #[] 0)) := by
  simp [Instr.makeMap, run_underlying Try.underlying64, go_sem]
theorem zero_boolK (w : World) : (zeroValue 4).run Try.prog w = .ok (.bool false) w := by kernel_rfl
theorem plainElem_boolK_out {v : Value} {z : DataW Unit × List MemPlace} (h : plainElem Try.prog 4 v = some z) : ∃ x, v = .bool x ∧ z.1 = .lit (.bool x) := by
  unfold plainElem at h
  rw [Try.underlying4] at h
  cases v <;> simp at h
  rename_i x
  exact ⟨x, rfl, by rw [← h]⟩
theorem MapK.look {w : World} {b N : Nat} {s : Val → Bool} (h : MapK w b N s) {a : Val} (ha : a.ok) :
    (Instr.lookup 64 (.map (some b)) a.agg false).run Try.prog w = .ok (.bool (s a)) w := by
  obtain ⟨l, hl⟩ := key_litX a ha
  obtain ⟨D, hD, ho, hf⟩ := h
  obtain ⟨v, ps, hr, hv⟩ := ho.lookup key_keyed Try.underlying64 (zero_boolK w) (plainElem_bool Try.underlying4 false) hl
  obtain ⟨x, rfl, hx⟩ := plainElem_boolK_out hv
  simp only at hx
  rw [hf a l hl] at hx
  simp at hx
  rw [hr, hx]
theorem wpList_setK {w : World} {ops : Array Oper} {rest : List Oper} {o : Oper} {a : Act} {Q : Exit → Act → World → Prop}
    (hg : o.guard = none) (m x v : Operand) (hop : o.op = Op.mapUpdate 64 m x v) {b N : Nat} {s : Val → Bool} {k : Val}
    (hm : a.eval m = .map (some b)) (hx : a.eval x = k.agg) (hv : a.eval v = .bool true) (h : MapK w b N s) (hN : N < maxLen) (hk : k.ok)
    (hK : ∀ w', MapK w' b (N + 1) (fun y => k.eq y || s y) → w.grownBy w' (some b) → wpList Try.prog ops Q rest (a.put o.dst undef) w') : wpList Try.prog ops Q (o :: rest) a w := by
  obtain ⟨l, hl⟩ := key_litX k hk
  obtain ⟨D, hD, how, hf⟩ := h
  refine wpList_mapUpdate_own w hg m x v 64 hop 24 4 key_keyed Try.underlying64 _ b N D hm how hN _ _ l hx hv hl (.lit (.bool true)) [] (plainElem_bool Try.underlying4 true) ?_
  intro w' h1 h2
  refine hK w' ⟨D.put l (.lit (.bool true)), hD.put _ _, h1, fun c lc hc => ?_⟩ h2
  by_cases e : k = c
  · subst e
    rw [hl] at hc
    cases hc
    rw [Maps.atKey_put_same hD (key_keyed.key hl)]
    simp [Val.eq_self]
  · have hne : lc ≠ l := fun h => e (by
      subst h
      have := key_keyed.inj hl hc
      obtain ⟨a1, a2, a3⟩ := k
      obtain ⟨b1, b2, b3⟩ := c
      simp at this
      obtain ⟨rfl, rfl, rfl⟩ := this
      rfl)
    rw [Maps.atKey_put_other hne, hf c lc hc]
    have : k.eq c = false := Val.eq_false.2 e
    simp [this]

/-- the first j properties are valid, and their keys differ -/
def okTo (xs : List Prp) (j : Nat) : Bool := (List.range j).all fun i => rgtM (pAt xs i) && !(xs.take i).any (fun q => q.k.eq (pAt xs i).k)
def rightL (xs : List Prp) : Bool := decide (xs.length ≤ 1024) && okTo xs xs.length
theorem okTo_succ (xs : List Prp) (j : Nat) : okTo xs (j + 1) = (okTo xs j && (rgtM (pAt xs j) && !(xs.take j).any (fun q => q.k.eq (pAt xs j).k))) := by
  simp [okTo, List.range_succ]
theorem okTo_false {xs : List Prp} {j : Nat} (hj : j < xs.length) (h : (rgtM (pAt xs j) && !(xs.take j).any (fun q => q.k.eq (pAt xs j).k)) = false) : okTo xs xs.length = false := by
  unfold okTo
  rw [← Bool.not_eq_true, List.all_eq_true]
  intro hh
  have := hh j (by simpa using hj)
  rw [h] at this
  cases this
def seenK (xs : List Prp) (j : Nat) (y : Val) : Bool := (xs.take j).any (fun q => q.k.eq y)
theorem seenK_succ {xs : List Prp} {j : Nat} (hj : j < xs.length) (y : Val) : seenK xs (j + 1) y = ((pAt xs j).k.eq y || seenK xs j y) := by
  unfold seenK
  rw [List.take_add_one, pAt_lt hj]
  simp [Bool.or_comm]
theorem MapK.congr {w : World} {b N : Nat} {f g : Val → Bool} (h : MapK w b N f) (e : ∀ a, f a = g a) : MapK w b N g := by
  have : f = g := funext e
  exact this ▸ h

set_option maxRecDepth 100000 in
set_option maxHeartbeats 8000000 in
theorem rightP_any (v : Value) (xs : List Prp) (hok : ∀ x ∈ xs, x.k.ok) (w : World) (hv : IsP w v xs) : Calls Try.prog 26 #[v] w fun e w' => e = .returned (.bool (rightL xs)) ∧ Below w.heap.size w w' := by
  obtain ⟨A, cp, rfl, _, hmx⟩ := hv.form
  by_cases hm : xs.length ≤ 1024
  · have H := Lib.hid hv
    have OK := Lib.hid hok
    have HM := Lib.hid hm
    have q00 : ¬ (1024 : Int) < (xs.length : Int) := by omega
    have RL := Lib.hid (show rightL xs = okTo xs xs.length by simp [rightL, hm])
    clear hv hok hm hmx
    have hmk := run_makeMapK
    go_enter Try.func26, Try.ntmps26
    go_wp2
    go_loopw [12] (fun i wr => ∃ j : Nat, i = .int .i64 j ∧ Hid (j ≤ xs.length ∧ okTo xs j = true ∧ MapK wr w.heap.size j (seenK xs j) ∧ Below w.heap.size w wr)) (fun i _ => xs.length - (intOf i).toNat)
    case atStart => exact ⟨0, rfl, Lib.hid ⟨Nat.zero_le _, rfl, MapK.made w, by (repeat (with_reducible first | exact Below.refl _ _ | (refine bl_set ?_ (by first | omega | (simp; done) | (simp; omega)) _) | refine bl_gr ?_ _ | refine bl_al ?_ _ | refine below_setRow ?_ (by first | omega | (simp; done) | (simp; omega)) _ | refine bl_drewN ?_ _ | refine Below.drew ?_ | (refine bl_tr ?_ (by assumption))))⟩⟩
    case round =>
      obtain ⟨j, rfl, HI⟩ := hrel
      by_cases hlt : j < xs.length
      · have q0 : (j : Int) < (xs.length : Int) := by omega
        have q1 : ¬ (j : Int) < 0 := by omega
        obtain ⟨b, off, cap', e1, lb, -, h0, h1, h2, h3, h4, h5, h6, h7, h8, h9, h10, h11, h12⟩ := IsP.at13 (H.out.below HI.out.2.2.2) (pAt_lt hlt)
        simp only [Value.slice.injEq] at e1
        obtain ⟨rfl, _, rfl⟩ := e1
        have XO := Lib.hid (OK.out _ (List.mem_of_getElem? (pAt_lt hlt)))
        have RG := Lib.hid (fun W => rgt_any (pAt xs j) XO.out.2.2 W)
        have NO := Lib.hid (fun h => okTo_false (xs := xs) hlt h)
        have SU := Lib.hid (okTo_succ xs j)
        have SK := Lib.hid (fun y => seenK_succ hlt y)
        have SJ := Lib.hid (show seenK xs j (pAt xs j).k = (xs.take j).any (fun q => q.k.eq (pAt xs j).k) from rfl)
        have LT := Lib.hid hlt
        obtain ⟨jp, hjp, ek1⟩ : ∃ jp : Nat, jp = j + 1 ∧ wrap64 ((j : Int) + 1) = (jp : Int) := ⟨j + 1, rfl, w64 rfl (by have := HM.out; omega)⟩
        have KP := Lib.hid (And.intro hjp hlt)
        clear hlt hjp
        generalize pAt xs j = x at *
        cases hr : rgtM x
        · rw [hr] at RG
          have RS := Lib.hid (show okTo xs xs.length = false from NO.out (by simp [hr]))
          go_wp2_with (go_at_call 45; refine (callGr (RG.out _)).mono ?_; rintro e w' ⟨pp, rfl, rfl⟩)
          all_goals go_ret
          all_goals exact ⟨ret_bool (by rw [RL.out, RS.out]), bl_tr HI.out.2.2.2 (by (repeat (with_reducible first | exact Below.refl _ _ | (refine bl_set ?_ (by first | omega | (simp; done) | (simp; omega)) _) | refine bl_gr ?_ _ | refine bl_al ?_ _ | refine below_setRow ?_ (by first | omega | (simp; done) | (simp; omega)) _ | refine bl_drewN ?_ _ | refine Below.drew ?_ | (refine bl_tr ?_ (by assumption)))))⟩
        · rw [hr] at RG
          have LK := Lib.hid (fun pp => ((HI.out.2.2.1.below (bl_gr (bl_al (Below.refl _ wr) (prpO x)) pp)).look XO.out))
          cases hs : seenK xs j x.k
          · rw [hs] at LK
            have OKJ := Lib.hid (show okTo xs (j + 1) = true by rw [SU.out, HI.out.2.1, hr, ← SJ.out, hs]; rfl)
            go_upto_region 9 with (go_at_call 45; refine (callGr (RG.out _)).mono ?_; rintro e w' ⟨pp, rfl, rfl⟩; have lk := LK.out pp)
            have MB := Lib.hid (HI.out.2.2.1.below (bl_gr (bl_al (Below.refl _ wr) (prpO x)) pp))
            go_wp2_with (at_mapUpdate; refine wpList_setK rfl _ _ _ rfl rfl (k := x.k) rfl rfl MB.out (by have := HI.out.1; have := HM.out; unfold maxLen; omega) XO.out ?_; intro w5 h5 g5; have M5 := Lib.hid (And.intro h5 ((bl_gr (bl_al HI.out.2.2.2 (prpO x)) pp).trans (grownBy_below g5 (Nat.le_refl _) (Below.size (bl_gr (bl_al HI.out.2.2.2 (prpO x)) pp))))); clear h5 g5)
            go_roundw
            case rel => exact ⟨jp, by first | with_reducible rfl | rw [ek1] | (rw [KP.out.1]; rfl), Lib.hid ⟨by rw [KP.out.1]; exact KP.out.2, by rw [KP.out.1]; exact OKJ.out, by rw [KP.out.1]; exact M5.out.1.congr (fun y => (SK.out y).symm), M5.out.2⟩⟩
            case measure => (have h2 := KP.out.2; clear ek1; simp only [intOf]; omega)
          · rw [hs] at LK
            have RS := Lib.hid (show okTo xs xs.length = false from NO.out (by rw [← SJ.out, hs]; simp))
            go_wp2_with (go_at_call 45; refine (callGr (RG.out _)).mono ?_; rintro e w' ⟨pp, rfl, rfl⟩; have lk := LK.out pp)
            all_goals go_ret
            all_goals exact ⟨ret_bool (by rw [RL.out, RS.out]), bl_tr HI.out.2.2.2 (by (repeat (with_reducible first | exact Below.refl _ _ | (refine bl_set ?_ (by first | omega | (simp; done) | (simp; omega)) _) | refine bl_gr ?_ _ | refine bl_al ?_ _ | refine below_setRow ?_ (by first | omega | (simp; done) | (simp; omega)) _ | refine bl_drewN ?_ _ | refine Below.drew ?_ | (refine bl_tr ?_ (by assumption)))))⟩
      · have q0 : ¬ (j : Int) < (xs.length : Int) := by omega
        have RS := Lib.hid (show okTo xs xs.length = true from by
          have := HI.out.1
          rw [show xs.length = j by omega]
          exact HI.out.2.1)
        clear hlt
        go_wp2
        go_ret
        exact ⟨ret_bool (by rw [RL.out, RS.out]), HI.out.2.2.2⟩
  · have q00 : (1024 : Int) < (xs.length : Int) := by omega
    have RL := Lib.hid (show rightL xs = false by simp [rightL, hm])
    clear hv hok hm hmx
    go_enter Try.func26, Try.ntmps26
    go_wp2
    go_ret
    exact ⟨ret_bool (by rw [RL.out]), Below.refl _ _⟩
end Go.Proofs.Ytippimonpdeioaa
namespace Go.Proofs.Ytippimonpdeioaa
set_option linter.all false
open Go.ChangeShapes Go.WideShapes Go.ChangeAt Go.RowKit Go.Sort Go.Deep

theorem find_seen {xs : List Prp} {j : Nat} (hj : j < xs.length) : (findM xs (pAt xs j).k == (j : Int)) = !seenK xs j (pAt xs j).k := by
  have hx := pAt_lt hj
  generalize pAt xs j = x at *
  cases hs : seenK xs j x.k
  · have : findM xs x.k = (j : Int) := placeM_at (p := keyIs x.k) (fun y hy => by
      unfold seenK at hs
      rw [List.any_eq_false] at hs
      simpa [keyIs] using hs y hy) hx (Val.eq_self _)
    simp [this]
  · have : ¬ findM xs x.k = (j : Int) := fun e => by
      unfold findM placeM at e
      unfold seenK at hs
      rw [List.any_eq_true] at hs
      obtain ⟨y, hy, he⟩ := hs
      obtain ⟨i, hi, rfl⟩ := List.mem_take_iff_getElem.1 hy
      cases hf : xs.findIdx? (keyIs x.k) with
      | none =>
        rw [hf] at e
        simp only at e
        omega
      | some m =>
        rw [hf] at e
        have hm : m = j := by simp only at e; omega
        subst hm
        rw [List.findIdx?_eq_some_iff_getElem] at hf
        have := hf.2.2 i (by omega)
        exact this (by simpa [keyIs] using he)
    simpa using this

set_option maxRecDepth 100000 in
set_option maxHeartbeats 8000000 in
theorem rrightP_any (v : Value) (xs : List Prp) (hok : ∀ x ∈ xs, x.k.ok) (w : World) (hv : IsP w v xs) : Calls Try.prog 12 #[v] w fun e w' => e = .returned (.bool (rightL xs)) ∧ Below w.heap.size w w' := by
  obtain ⟨A, cp, rfl, _, hmx⟩ := hv.form
  by_cases hm : xs.length ≤ 1024
  · have H := Lib.hid hv
    have OK := Lib.hid hok
    have HM := Lib.hid hm
    have q00 : ¬ (1024 : Int) < (xs.length : Int) := by omega
    have RL := Lib.hid (show rightL xs = okTo xs xs.length by simp [rightL, hm])
    have FD := Lib.hid (fun k W (h : IsP W (.slice A xs.length cp) xs) => rfind_any _ xs k (Nat.le_trans hm (by decide)) W h)
    clear hv hok hm hmx
    go_enter Try.func12, Try.ntmps12
    go_wp2
    go_loopw [3] (fun i wr => ∃ j : Nat, i = .int .i64 j ∧ Hid (j ≤ xs.length ∧ okTo xs j = true ∧ Below w.heap.size w wr)) (fun i _ => xs.length - (intOf i).toNat)
    case atStart => exact ⟨0, rfl, Lib.hid ⟨Nat.zero_le _, rfl, Below.refl _ _⟩⟩
    case round =>
      obtain ⟨j, rfl, HI⟩ := hrel
      by_cases hlt : j < xs.length
      · have q0 : (j : Int) < (xs.length : Int) := by omega
        have q1 : ¬ (j : Int) < 0 := by omega
        obtain ⟨b, off, cap', e1, lb, -, h0, h1, h2, h3, h4, h5, h6, h7, h8, h9, h10, h11, h12⟩ := IsP.at13 (H.out.below HI.out.2.2) (pAt_lt hlt)
        simp only [Value.slice.injEq] at e1
        obtain ⟨rfl, _, rfl⟩ := e1
        have XO := Lib.hid (OK.out _ (List.mem_of_getElem? (pAt_lt hlt)))
        have RG := Lib.hid (fun W => rone_any (pAt xs j) XO.out.2.2 W)
        have NO := Lib.hid (fun h => okTo_false (xs := xs) hlt h)
        have SU := Lib.hid (okTo_succ xs j)
        have FS := Lib.hid (find_seen hlt)
        have SJ := Lib.hid (show seenK xs j (pAt xs j).k = (xs.take j).any (fun q => q.k.eq (pAt xs j).k) from rfl)
        have LT := Lib.hid hlt
        obtain ⟨jp, hjp, ek1⟩ : ∃ jp : Nat, jp = j + 1 ∧ wrap64 ((j : Int) + 1) = (jp : Int) := ⟨j + 1, rfl, w64 rfl (by have := HM.out; omega)⟩
        have KP := Lib.hid (And.intro hjp hlt)
        have lbn : ∀ u, b < wr.heap.size + u := fun u => Nat.lt_of_lt_of_le lb (Nat.le_add_right _ _)
        clear hlt hjp
        generalize pAt xs j = x at *
        have FX := Lib.hid (fun W h => FD.out x.k W h)
        generalize findM xs x.k = F at *
        have RO := Lib.hid (rgt_rone x)
        cases hr : roneM x
        · rw [hr] at RG RO
          have RS := Lib.hid (show okTo xs xs.length = false from NO.out (by rw [RO.out]; rfl))
          go_wp2_with (go_at_call 38; refine (callGr (RG.out _)).mono ?_; rintro e w' ⟨pp, rfl, rfl⟩)
          all_goals go_ret
          all_goals exact ⟨ret_bool (by rw [RL.out, RS.out]), bl_tr HI.out.2.2 (by (repeat (with_reducible first | exact Below.refl _ _ | (refine bl_set ?_ (by first | omega | (simp; done) | (simp; omega)) _) | refine bl_gr ?_ _ | refine bl_al ?_ _ | refine below_setRow ?_ (by first | omega | (simp; done) | (simp; omega)) _ | refine bl_drewN ?_ _ | refine Below.drew ?_ | (refine bl_tr ?_ (by assumption)))))⟩
        · rw [hr] at RG RO
          cases hs : F == (j : Int)
          · have RS := Lib.hid (show okTo xs xs.length = false from NO.out (by rw [hs] at FS; rw [← SJ.out, show seenK xs j x.k = true by have := FS.out; simpa using this]; simp))
            have hne : ¬ F = (j : Int) := by simpa using hs
            go_wp2_with (first | (go_at_call 38; refine (callGr (RG.out _)).mono ?_; rintro e w' ⟨pp, rfl, rfl⟩) | (go_at_call 27; refine (callGr (FX.out _ (H.out.below (bl_tr HI.out.2.2 (by (repeat (with_reducible first | exact Below.refl _ _ | (refine bl_set ?_ (by first | omega | (simp; done) | (simp; omega)) _) | refine bl_gr ?_ _ | refine bl_al ?_ _ | refine below_setRow ?_ (by first | omega | (simp; done) | (simp; omega)) _ | refine bl_drewN ?_ _ | refine Below.drew ?_ | (refine bl_tr ?_ (by assumption))))))))).mono ?_; rintro e w' ⟨pp, rfl, rfl⟩))
            all_goals go_ret
            all_goals exact ⟨ret_bool (by rw [RL.out, RS.out]), bl_tr HI.out.2.2 (by (repeat (with_reducible first | exact Below.refl _ _ | (refine bl_set ?_ (by first | omega | (simp; done) | (simp; omega)) _) | refine bl_gr ?_ _ | refine bl_al ?_ _ | refine below_setRow ?_ (by first | omega | (simp; done) | (simp; omega)) _ | refine bl_drewN ?_ _ | refine Below.drew ?_ | (refine bl_tr ?_ (by assumption)))))⟩
          · have OKJ := Lib.hid (show okTo xs (j + 1) = true by rw [hs] at FS; rw [SU.out, HI.out.2.1, RO.out, ← SJ.out, show seenK xs j x.k = false by have := FS.out; simpa using this]; rfl)
            have he : F = (j : Int) := by simpa using hs
            have hs2 : (F != (j : Int)) = false := by simp [he]
            go_wp2_with (first | (go_at_call 38; refine (callGr (RG.out _)).mono ?_; rintro e w' ⟨pp, rfl, rfl⟩) | (go_at_call 27; refine (callGr (FX.out _ (H.out.below (bl_tr HI.out.2.2 (by (repeat (with_reducible first | exact Below.refl _ _ | (refine bl_set ?_ (by first | omega | (simp; done) | (simp; omega)) _) | refine bl_gr ?_ _ | refine bl_al ?_ _ | refine below_setRow ?_ (by first | omega | (simp; done) | (simp; omega)) _ | refine bl_drewN ?_ _ | refine Below.drew ?_ | (refine bl_tr ?_ (by assumption))))))))).mono ?_; rintro e w' ⟨pp, rfl, rfl⟩))
            go_roundw
            case rel => exact ⟨jp, by first | with_reducible rfl | rw [ek1] | (rw [KP.out.1]; rfl), Lib.hid ⟨by rw [KP.out.1]; exact KP.out.2, by rw [KP.out.1]; exact OKJ.out, bl_tr HI.out.2.2 (by (repeat (with_reducible first | exact Below.refl _ _ | (refine bl_set ?_ (by first | omega | (simp; done) | (simp; omega)) _) | refine bl_gr ?_ _ | refine bl_al ?_ _ | refine below_setRow ?_ (by first | omega | (simp; done) | (simp; omega)) _ | refine bl_drewN ?_ _ | refine Below.drew ?_ | (refine bl_tr ?_ (by assumption)))))⟩⟩
            case measure => (have h2 := KP.out.2; clear ek1; simp only [intOf]; omega)
      · have q0 : ¬ (j : Int) < (xs.length : Int) := by omega
        have RS := Lib.hid (show okTo xs xs.length = true from by
          have := HI.out.1
          rw [show xs.length = j by omega]
          exact HI.out.2.1)
        clear hlt
        go_wp2
        go_ret
        exact ⟨ret_bool (by rw [RL.out, RS.out]), HI.out.2.2⟩
  · have q00 : (1024 : Int) < (xs.length : Int) := by omega
    have RL := Lib.hid (show rightL xs = false by simp [rightL, hm])
    clear hv hok hm hmx
    go_enter Try.func12, Try.ntmps12
    go_wp2
    go_ret
    exact ⟨ret_bool (by rw [RL.out]), Below.refl _ _⟩
end Go.Proofs.Ytippimonpdeioaa
