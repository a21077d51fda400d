/- Cells: what Slots may be, by the program and by the reference. -/
import Derived.Test.YtdikdkllbhanfaaCelB
import Derived.Test.YtdikdkllbhanfaaOwn
namespace Go.Proofs.Ytdikdkllbhanfaa
set_option linter.all false
open Go.RowKit Go.Sort Go.Deep

def vAt (l : List Val) (i : Nat) : Val := l[i]?.getD Val.zero
def slotsB (c : CellD) : Bool :=
  bif hasB c.k || (c.k == 7 && decide (0 < (c.sl.length : Int))) then decide (1 ≤ (c.sl.length : Int)) && decide ((c.sl.length : Int) ≤ 1025) && ((vAt c.sl 0).k == 1 || (vAt c.sl 0).k == 7)
  else bif c.k == 7 then c.sh == 0 else bif c.sh != 0 || c.fl != 0 then false else bif c.k == 5 then (c.sl.length : Int) == 2 && orNoneB (vAt c.sl 0) 7 && orNoneB (vAt c.sl 1) 7 else (c.sl.length : Int) == 0
theorem SlOf.v3 {w : World} {b off : Nat} {cap : Nat} {l : List Val} (h : IsV w (.slice (some ⟨b, off, none⟩) l.length cap) l) (i : Nat) (hi : i < l.length) :
    b < w.heap.size ∧ w.cell? ⟨b, off + i * 3, none⟩ = some (.int .i64 (vAt l i).k) ∧ w.cell? ⟨b, off + i * 3 + 1, none⟩ = some (.int .i64 (vAt l i).n) ∧ w.cell? ⟨b, off + i * 3 + 2, none⟩ = some (.string (vAt l i).s) := by
  obtain ⟨b', o', cap', e, _, hb, hx⟩ := h.at_ (by omega)
  simp only [Value.slice.injEq, Option.some.injEq, Addr.mk.injEq] at e
  obtain ⟨⟨rfl, rfl, _⟩, _, rfl⟩ := e
  have e : l[i]? = some (vAt l i) := by unfold vAt; rw [List.getElem?_eq_getElem hi]; rfl
  exact ⟨hb, hx i _ e 0 _ rfl, hx i _ e 1 _ rfl, hx i _ e 2 _ rfl⟩
theorem isV_addr {w : World} {A : Option Addr} {cap : Nat} {l : List Val} (h : IsV w (.slice A l.length cap) l) (h0 : 0 < l.length) : ∃ b off, A = some ⟨b, off, none⟩ := by
  obtain ⟨b', o', cap', e, _⟩ := h.at_ h0
  simp only [Value.slice.injEq] at e
  exact ⟨b', o', e.1⟩

set_option maxRecDepth 100000 in
set_option maxHeartbeats 4000000 in
theorem slotsRight_any (sv mv : Value) (c : CellD) (w : World) (h1 : IsV w sv c.sl) (h2 : IsV w mv c.mo) :
    Calls Try.prog 53 #[cellV c.k c.sh c.fl c.ag sv mv] w fun e w' => e = .returned (.bool (slotsB c)) ∧ Below w.heap.size w w' := by
  obtain ⟨A1, n1, rfl, _, hm1⟩ := h1.form
  obtain ⟨A2, n2, rfl, _, hm2⟩ := h2.form
  unfold maxLen at hm1 hm2
  have SB := Lib.hid (show slotsB c = _ from rfl)
  by_cases h0 : c.sl.length = 0
  · have z0 : c.sl.length ≤ 0 := by omega
    have z1 : ((c.sl.length : Int) == 2) = false := beq_eq_false_iff_ne.2 (by omega)
    have z2 : ((c.sl.length : Int) == 0) = true := beq_iff_eq.2 (by omega)
    clear h0 h1 h2
    go_enter Try.func53, Try.ntmps53
    go_wp2_with ((go_at_call 56; refine (callGr (has_any _ _)).mono ?_; rintro e w' ⟨pp, rfl, rfl⟩))
    all_goals go_ret
    all_goals exact ⟨ret_bool (by first | (simp [slotsB, *]; done) | (simp [slotsB, *]; intros; omega) | (simp [slotsB, *]; simp [hasB])), by (repeat (with_reducible first | exact Below.refl _ _ | (refine bl_set ?_ (by first | omega | (simp; done) | (simp; omega)) _) | refine bl_gr ?_ _ | refine bl_al ?_ _ | refine below_setRow ?_ (by first | omega | (simp; done) | (simp; omega)) _ | refine bl_drewN ?_ _ | refine Below.drew ?_ | (refine bl_tr ?_ (by assumption))))⟩
  · obtain ⟨b, o, rfl⟩ := isV_addr h1 (by omega)
    obtain ⟨hb, a0, a1, a2⟩ := h1.v3 0 (by omega)
    rw [Nat.zero_mul, Nat.add_zero] at a0 a1 a2
    have nb : b ≠ w.heap.size := by omega
    generalize hs0 : vAt c.sl 0 = s0 at a0 a1 a2
    by_cases h1' : c.sl.length = 1
    · have z0 : c.sl.length ≤ 1 := by omega
      have z3 : 1 ≤ c.sl.length := by omega
      have z1 : ((c.sl.length : Int) == 2) = false := beq_eq_false_iff_ne.2 (by omega)
      have z2 : ((c.sl.length : Int) == 0) = false := beq_eq_false_iff_ne.2 (by omega)
      have HS := Lib.hid hs0
      clear h0 h1' h1 h2 hs0
      go_enter Try.func53, Try.ntmps53
      go_wp2_with ((go_at_call 56; refine (callGr (has_any _ _)).mono ?_; rintro e w' ⟨pp, rfl, rfl⟩))
      all_goals go_ret
      all_goals exact ⟨ret_bool (by first | (simp [slotsB, HS.out, *]; done) | (simp [slotsB, HS.out, *]; intros; omega) | (simp [slotsB, HS.out, *]; simp [hasB])), by (repeat (with_reducible first | exact Below.refl _ _ | (refine bl_set ?_ (by first | omega | (simp; done) | (simp; omega)) _) | refine bl_gr ?_ _ | refine bl_al ?_ _ | refine below_setRow ?_ (by first | omega | (simp; done) | (simp; omega)) _ | refine bl_drewN ?_ _ | refine Below.drew ?_ | (refine bl_tr ?_ (by assumption))))⟩
    · obtain ⟨_, d0, d1, d2⟩ := h1.v3 1 (by omega)
      generalize hs1 : vAt c.sl 1 = s1 at d0 d1 d2
      have z3 : 2 ≤ c.sl.length := by omega
      have z2 : ((c.sl.length : Int) == 0) = false := beq_eq_false_iff_ne.2 (by omega)
      have HS := Lib.hid (And.intro hs0 hs1)
      clear h0 h1' h1 h2 hs0 hs1
      go_enter Try.func53, Try.ntmps53
      go_wp2_with (first | (go_at_call 56; refine (callGr (has_any _ _)).mono ?_; rintro e w' ⟨pp, rfl, rfl⟩) | (go_at_call 57; refine (callGr (orNone_any _ _ _)).mono ?_; rintro e w' ⟨pp, rfl, rfl⟩))
      all_goals go_ret
      all_goals exact ⟨ret_bool (by first | (simp [slotsB, HS.out.1, HS.out.2, *]; done) | (simp [slotsB, HS.out.1, HS.out.2, *]; intros; omega) | (simp [slotsB, HS.out.1, HS.out.2, *]; simp [hasB])), by (repeat (with_reducible first | exact Below.refl _ _ | (refine bl_set ?_ (by first | omega | (simp; done) | (simp; omega)) _) | refine bl_gr ?_ _ | refine bl_al ?_ _ | refine below_setRow ?_ (by first | omega | (simp; done) | (simp; omega)) _ | refine bl_drewN ?_ _ | refine Below.drew ?_ | (refine bl_tr ?_ (by assumption))))⟩
end Go.Proofs.Ytdikdkllbhanfaa
