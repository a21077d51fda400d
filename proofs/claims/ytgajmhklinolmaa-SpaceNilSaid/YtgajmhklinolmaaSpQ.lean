/- Walk of the arena Set inside. -/
import Derived.Test.YtgajmhklinolmaaSpP
namespace Go.Proofs.Ytgajmhklinolmaa
set_option linter.all false
open Go.RowKit Go.Sort Go.Deep

theorem ArenaR.dest {w : World} {F : Nat → Prop} {s : Nat} {room : Int} {l : List CellD} {rs : List CellR} {v : Value} (h : ArenaR w F s room l rs v) {i : Nat} (hi : i < l.length) : ∃ g o cap, v = .slice (some ⟨g, o, none⟩) l.length cap ∧ o = 0 ∧ l.length ≤ maxLen ∧ g < w.heap.size ∧
    ∀ j, j < 6 → (∃ u, w.cell? ⟨g, o + i * 6 + j, none⟩ = some u) ∧ w.frozen? ⟨g, o + i * 6 + j, none⟩ = false := by
  obtain ⟨A, cap, rfl⟩ := ownsRow_form h.row
  obtain ⟨g, o, rfl, ho, hg, _, hc⟩ := rowc_at h.row (by omega)
  refine ⟨g, o, cap, rfl, ho, ?_, hg, fun j hj => hc i hi j hj⟩
  rcases h.row.2 with ⟨_, h0⟩ | ⟨g, cap, cur, e, _, _, h1, h2, _⟩
  · omega
  · omega

set_option maxRecDepth 100000 in
set_option maxHeartbeats 2000000 in
theorem set_in (F : Nat → Prop) (s : Nat) (room : Int) (l : List CellD) (i : Nat) (c : CellD) (A B : Option Addr) (ca cb : Nat) (w : World) (h : Arena w F s room l) (hi : i < l.length) (h1 : IsV w (.slice A c.sl.length ca) c.sl) (h2 : IsV w (.slice B c.mo.length cb) c.mo) (hf : c.fit) :
    Calls Try.prog 17 #[.pointer (some ⟨s, 0, none⟩), .int .i64 i, cellV c.k c.sh c.fl c.ag (.slice A c.sl.length ca) (.slice B c.mo.length cb)] w fun e w' => e = .returned (.int .i64 0) ∧ (∃ F', Arena w' F' s room (l.set i c) ∧ ∀ b, F' b → F b ∨ w.heap.size ≤ b) ∧ Touch F w w' := by
  have hs : s < w.heap.size := by obtain ⟨rs, v, h⟩ := h; exact h.low s h.ins
  obtain ⟨rs, v, hA⟩ := h
  obtain ⟨g, o, cap, rfl, ho, hm, hg, hc⟩ := hA.dest hi
  obtain ⟨r0, r1, _, z1⟩ := cells2 hA.st
  have n0 : s ≠ w.heap.size := by omega
  have n1 : g ≠ w.heap.size := by omega
  have HA := Lib.hid hA
  have HO := Lib.hid ho
  have HC := Lib.hid hc
  have HV := Lib.hid (And.intro h1 (And.intro h2 hf))
  have h0 : ¬ (i : Int) < 0 := by omega
  have h3 : ¬ (l.length : Int) ≤ i := by omega
  unfold maxLen at hm
  clear h1 h2 hf hA ho hc
  go_enter Try.func17, Try.ntmps17
  go_upto_region 5 with fail
  go_region_with (go_at_call 29; refine (own_any _ _ c _ (HV.out.1.below (by (repeat (with_reducible first | exact Below.refl _ _ | (refine bl_set ?_ (by first | omega | (simp; done) | (simp; omega)) _) | refine bl_gr ?_ _ | refine bl_al ?_ _ | refine below_setRow ?_ (by first | omega | (simp; done) | (simp; omega)) _ | refine bl_drewN ?_ _ | refine Below.drew ?_ | (refine bl_tr ?_ (by assumption)))))) (HV.out.2.1.below (by (repeat (with_reducible first | exact Below.refl _ _ | (refine bl_set ?_ (by first | omega | (simp; done) | (simp; omega)) _) | refine bl_gr ?_ _ | refine bl_al ?_ _ | refine below_setRow ?_ (by first | omega | (simp; done) | (simp; omega)) _ | refine bl_drewN ?_ _ | refine Below.drew ?_ | (refine bl_tr ?_ (by assumption)))))) HV.out.2.2).mono ?_; rintro e w1 ⟨sv, mv, rfl, o1, o2, od, hb⟩; obtain ⟨A1, n1, rfl⟩ := o1.form; obtain ⟨A2, n2, rfl⟩ := o2.form; have B0 : Below w.heap.size w w1 := (by (repeat (with_reducible first | exact Below.refl _ _ | (refine bl_set ?_ (by first | omega | (simp; done) | (simp; omega)) _) | refine bl_gr ?_ _ | refine bl_al ?_ _ | refine below_setRow ?_ (by first | omega | (simp; done) | (simp; omega)) _ | refine bl_drewN ?_ _ | refine Below.drew ?_ | (refine bl_tr ?_ (by assumption))))); have O := Lib.hid (And.intro (ownsRow_low o1 (b' := w.heap.size) (by simp)) (And.intro (ownsRow_low o2 (b' := w.heap.size) (by simp)) B0)); have t1 := (B0.cell (p := ⟨s, 1, none⟩) hs).trans r1; obtain ⟨⟨u0, e0⟩, f0⟩ := HC.out 0 (by omega); obtain ⟨⟨u1, e1⟩, f1⟩ := HC.out 1 (by omega); obtain ⟨⟨u2, e2⟩, f2⟩ := HC.out 2 (by omega); obtain ⟨⟨u3, e3⟩, f3⟩ := HC.out 3 (by omega); obtain ⟨⟨u4, e4⟩, f4⟩ := HC.out 4 (by omega); obtain ⟨⟨u5, e5⟩, f5⟩ := HC.out 5 (by omega); rw [Nat.add_zero] at e0 f0; rw [← B0.cell (p := ⟨g, _, none⟩) hg] at e0 e1 e2 e3 e4 e5; rw [← B0.frozen (p := ⟨g, _, none⟩) hg] at f0 f1 f2 f3 f4 f5; clear o1 o2 od hb B0)
  all_goals go_wp2
  all_goals go_ret
  all_goals exact ⟨rfl, HA.out.set O.out.2.2 O.out.1 O.out.2.1 HV.out.2.2 hi rfl HO.out⟩
end Go.Proofs.Ytgajmhklinolmaa
