/- The reference's bare. -/
import Derived.Test.YtcmpgohpncnagaaChF
namespace Go.Proofs.Ytcmpgohpncnagaa
set_option linter.all false
open Go.ChangeShapes Go.WideShapes Go.ChangeAt Go.RowKit Go.Sort Go.Deep Go.Shelf

abbrev codeB (c : CodeD) : CodeD := ⟨c.nm, c.kd, c.ln, c.rg, [], [], [], []⟩
theorem codeB_ok {c : CodeD} (h : c.ok) : (codeB c).ok := ⟨h.1, h.2.1, h.2.2.1, h.2.2.2.1, by simp, by simp, by simp, by simp⟩
theorem headC_B (c : CodeD) : headC c = (rightC (codeB c) && (decide ((c.ins.length : Int) ≤ 65536) && (decide ((c.pl.length : Int) ≤ 65536) && (decide ((c.ks.length : Int) ≤ 65536) && decide ((c.gs.length : Int) ≤ 65536))))) := by
  rw [Bool.eq_iff_iff]
  simp only [headC, rightC, hdC, inB, Bool.and_eq_true, decide_eq_true_eq, List.length_nil, List.all_nil]
  constructor
  · rintro ⟨h1, h2, h3, h4, h5, h6, h7, h8⟩
    exact ⟨⟨⟨h1, h2, h3, h4, Nat.zero_le _, Nat.zero_le _⟩, ⟨Nat.zero_le _, trivial⟩, ⟨Nat.zero_le _, trivial⟩, ⟨Nat.zero_le _, trivial⟩, Nat.zero_le _, trivial⟩, by omega, by omega, by omega, by omega⟩
  · rintro ⟨⟨⟨h1, h2, h3, h4, _⟩, _⟩, h5, h6, h7, h8⟩
    exact ⟨h1, h2, h3, h4, by omega, by omega, by omega, by omega⟩
set_option maxRecDepth 100000 in
set_option maxHeartbeats 16000000 in
theorem bare_any (c : CodeD) (i p k g : Value) (hc : c.ok) (w : World) (h : Cd4 w i p k g c) :
    Calls Try.prog 57 #[codeV c.nm c.kd c.ln c.rg i p k g] w fun e w' => e = .returned (.bool (headC c)) ∧ Below w.heap.size w w' := by
  obtain ⟨A1, c1, A2, c2, A3, c3, A4, c4, rfl, rfl, rfl, rfl⟩ := h.forms
  have RS := Lib.hid (headC_B c)
  have RG := Lib.hid (fun W => rrightC_any (codeB c) (.slice none 0 0) (.slice none 0 0) (.slice none 0 0) (.slice none 0 0) (codeB_ok hc) W ⟨.nil_, .nil_, .nil_, .nil_⟩)
  rw [RS.out]
  clear h hc RS
  generalize rightC (codeB c) = t0 at *
  obtain ⟨w1, hw1⟩ : ∃ w1, w1 = w.alloc (codeO c.nm c.kd c.ln c.rg (.slice A1 c.ins.length c1) (.slice A2 c.pl.length c2) (.slice A3 c.ks.length c3) (.slice A4 c.gs.length c4)) := ⟨_, rfl⟩
  have KO := Lib.hid (fun Z (hZ : Below (w.alloc (codeO c.nm c.kd c.ln c.rg (.slice A1 c.ins.length c1) (.slice A2 c.pl.length c2) (.slice A3 c.ks.length c3) (.slice A4 c.gs.length c4))).heap.size (w.alloc (codeO c.nm c.kd c.ln c.rg (.slice A1 c.ins.length c1) (.slice A2 c.pl.length c2) (.slice A3 c.ks.length c3) (.slice A4 c.gs.length c4))) Z) => cells8 ((hZ.block w.heap.size (by simp)).trans (heap_alloc_new _ _)))
  clear hw1 w1
  cases t0
  · go_enter Try.func57, Try.ntmps57
    go_wp2_with (go_at_call 22; go_loud (refine (RG.out _).mono ?_; rintro e w3 ⟨rfl, hb⟩; have B2 := Lib.hid (show Below w.heap.size w w3 from bl_tr (by (repeat (with_reducible first | exact Below.refl _ _ | (refine bl_set ?_ (by first | omega | (simp; done) | (simp; omega)) _) | refine bl_gr ?_ _ | refine bl_al ?_ _ | refine below_setRow ?_ (by first | omega | (simp; done) | (simp; omega)) _ | refine bl_drewN ?_ _ | refine Below.drew ?_ | (refine bl_tr ?_ (by assumption))))) hb); have B3 := Lib.hid (bl_tr (show Below (w.alloc (codeO c.nm c.kd c.ln c.rg (.slice A1 c.ins.length c1) (.slice A2 c.pl.length c2) (.slice A3 c.ks.length c3) (.slice A4 c.gs.length c4))).heap.size (w.alloc (codeO c.nm c.kd c.ln c.rg (.slice A1 c.ins.length c1) (.slice A2 c.pl.length c2) (.slice A3 c.ks.length c3) (.slice A4 c.gs.length c4))) _ by (repeat (with_reducible first | exact Below.refl _ _ | (refine bl_set ?_ (by first | omega | (simp; done) | (simp; omega)) _) | refine bl_gr ?_ _ | refine bl_al ?_ _ | refine below_setRow ?_ (by first | omega | (simp; done) | (simp; omega)) _ | refine bl_drewN ?_ _ | refine Below.drew ?_ | (refine bl_tr ?_ (by assumption))))) hb); obtain ⟨⟨a0, a1, a2, a3, a4, a5, a6, a7⟩, -⟩ := KO.out _ B3.out; clear hb))
    all_goals go_ret
    all_goals exact ⟨ret_bool (by simp), bl_tr B2.out (by (repeat (with_reducible first | exact Below.refl _ _ | (refine bl_set ?_ (by first | omega | (simp; done) | (simp; omega)) _) | refine bl_gr ?_ _ | refine bl_al ?_ _ | refine below_setRow ?_ (by first | omega | (simp; done) | (simp; omega)) _ | refine bl_drewN ?_ _ | refine Below.drew ?_ | (refine bl_tr ?_ (by assumption)))))⟩
  · go_enter Try.func57, Try.ntmps57
    go_wp2_with (go_at_call 22; go_loud (refine (RG.out _).mono ?_; rintro e w3 ⟨rfl, hb⟩; have B2 := Lib.hid (show Below w.heap.size w w3 from bl_tr (by (repeat (with_reducible first | exact Below.refl _ _ | (refine bl_set ?_ (by first | omega | (simp; done) | (simp; omega)) _) | refine bl_gr ?_ _ | refine bl_al ?_ _ | refine below_setRow ?_ (by first | omega | (simp; done) | (simp; omega)) _ | refine bl_drewN ?_ _ | refine Below.drew ?_ | (refine bl_tr ?_ (by assumption))))) hb); have B3 := Lib.hid (bl_tr (show Below (w.alloc (codeO c.nm c.kd c.ln c.rg (.slice A1 c.ins.length c1) (.slice A2 c.pl.length c2) (.slice A3 c.ks.length c3) (.slice A4 c.gs.length c4))).heap.size (w.alloc (codeO c.nm c.kd c.ln c.rg (.slice A1 c.ins.length c1) (.slice A2 c.pl.length c2) (.slice A3 c.ks.length c3) (.slice A4 c.gs.length c4))) _ by (repeat (with_reducible first | exact Below.refl _ _ | (refine bl_set ?_ (by first | omega | (simp; done) | (simp; omega)) _) | refine bl_gr ?_ _ | refine bl_al ?_ _ | refine below_setRow ?_ (by first | omega | (simp; done) | (simp; omega)) _ | refine bl_drewN ?_ _ | refine Below.drew ?_ | (refine bl_tr ?_ (by assumption))))) hb); obtain ⟨⟨a0, a1, a2, a3, a4, a5, a6, a7⟩, -⟩ := KO.out _ B3.out; have l3 := Nat.lt_of_lt_of_le (show w.heap.size < (w.alloc (codeO c.nm c.kd c.ln c.rg (.slice A1 c.ins.length c1) (.slice A2 c.pl.length c2) (.slice A3 c.ks.length c3) (.slice A4 c.gs.length c4))).heap.size by simp) B3.out.size; clear hb))
    all_goals go_ret
    all_goals exact ⟨ret_bool (by first | (simp [*]; done) | (simp [*]; intros; omega)), bl_tr B2.out (by (repeat (with_reducible first | exact Below.refl _ _ | (refine bl_set ?_ (by first | omega | (simp; done) | (simp; omega)) _) | refine bl_gr ?_ _ | refine bl_al ?_ _ | refine below_setRow ?_ (by first | omega | (simp; done) | (simp; omega)) _ | refine bl_drewN ?_ _ | refine Below.drew ?_ | (refine bl_tr ?_ (by assumption)))))⟩
end Go.Proofs.Ytcmpgohpncnagaa
