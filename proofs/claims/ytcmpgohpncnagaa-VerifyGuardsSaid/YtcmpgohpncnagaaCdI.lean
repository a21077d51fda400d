/- Right of package code. -/
import Derived.Test.YtcmpgohpncnagaaCdH
import Derived.Test.YtcmpgohpncnagaaKeyH
namespace Go.Proofs.Ytcmpgohpncnagaa
set_option linter.all false
open Go.ChangeShapes Go.WideShapes Go.ChangeAt Go.RowKit Go.Sort Go.Deep Go.Shelf

def hdC (c : CodeD) : Bool := inB c.kd 0 255 && (inB c.ln 0 1024 && (inB c.rg 0 4096 && (decide (c.nm.size ≤ 65536) && (decide (c.pl.length ≤ 65536) && decide (c.ks.length ≤ 65536)))))
/-- is a code object valid on its own -/
def rightC (c : CodeD) : Bool := hdC c && ((decide (c.pl.length ≤ 65536) && c.pl.all constM) && ((decide (c.ks.length ≤ 65536) && c.ks.all keyM) && ((decide (c.ins.length ≤ 65536) && c.ins.all (insC c)) && (decide (c.gs.length ≤ 65536) && c.gs.all (gdM c)))))
set_option maxRecDepth 100000 in
set_option maxHeartbeats 8000000 in
theorem right1_any (c : CodeD) (A1 A2 A3 A4 : Option Addr) (c1 c2 c3 c4 : Nat) (x : InsD) (hr : 0 ≤ c.rg ∧ c.rg ≤ 4096) (hx : x.ok) (B : Nat) (W : World) (hB : W.heap[B]? = some (codeO c.nm c.kd c.ln c.rg (.slice A1 c.ins.length c1) (.slice A2 c.pl.length c2) (.slice A3 c.ks.length c3) (.slice A4 c.gs.length c4)))
    (h : Cd4 W (.slice A1 c.ins.length c1) (.slice A2 c.pl.length c2) (.slice A3 c.ks.length c3) (.slice A4 c.gs.length c4) c) :
    Calls Try.prog 41 #[x.agg, .pointer (some ⟨B, 0, none⟩)] W fun e w' => e = .returned (.bool (insC c x)) ∧ Below W.heap.size W w' := by
  have lb := (Array.getElem?_eq_some_iff.1 hB).1
  have lbn : ∀ u, B < W.heap.size + u := fun u => Nat.lt_of_lt_of_le lb (Nat.le_add_right _ _)
  obtain ⟨⟨a0, a1, a2, a3, a4, a5, a6, a7⟩, _⟩ := cells8 hB
  have CT := Lib.hid (fun W h => insRight_any c (.slice A1 c.ins.length c1) (.slice A2 c.pl.length c2) (.slice A3 c.ks.length c3) (.slice A4 c.gs.length c4) x hr hx W h)
  have CD := Lib.hid h
  clear h hB hr hx
  go_enter Try.func41, Try.ntmps41
  go_wp2_with (go_at_call 42; refine (callGr (CT.out _ (CD.out.below (by (repeat (with_reducible first | exact Below.refl _ _ | (refine bl_set ?_ (by first | omega | (simp; done) | (simp; omega)) _) | refine bl_gr ?_ _ | refine bl_al ?_ _ | refine below_setRow ?_ (by first | omega | (simp; done) | (simp; omega)) _ | refine bl_drewN ?_ _ | refine Below.drew ?_ | (refine bl_tr ?_ (by assumption)))))))).mono ?_; rintro e w' ⟨pp, rfl, rfl⟩)
  go_ret
  exact ⟨rfl, by (repeat (with_reducible first | exact Below.refl _ _ | (refine bl_set ?_ (by first | omega | (simp; done) | (simp; omega)) _) | refine bl_gr ?_ _ | refine bl_al ?_ _ | refine below_setRow ?_ (by first | omega | (simp; done) | (simp; omega)) _ | refine bl_drewN ?_ _ | refine Below.drew ?_ | (refine bl_tr ?_ (by assumption))))⟩
set_option maxRecDepth 100000 in
set_option maxHeartbeats 8000000 in
theorem right2_any (c : CodeD) (A1 A2 A3 A4 : Option Addr) (c1 c2 c3 c4 : Nat) (x : GrdD) (hr : 0 ≤ c.rg ∧ c.rg ≤ 4096) (hx : x.ok) (B : Nat) (W : World) (hB : W.heap[B]? = some (codeO c.nm c.kd c.ln c.rg (.slice A1 c.ins.length c1) (.slice A2 c.pl.length c2) (.slice A3 c.ks.length c3) (.slice A4 c.gs.length c4)))
    (h : Cd4 W (.slice A1 c.ins.length c1) (.slice A2 c.pl.length c2) (.slice A3 c.ks.length c3) (.slice A4 c.gs.length c4) c) :
    Calls Try.prog 44 #[x.agg, .pointer (some ⟨B, 0, none⟩)] W fun e w' => e = .returned (.bool (gdM c x)) ∧ Below W.heap.size W w' := by
  have lb := (Array.getElem?_eq_some_iff.1 hB).1
  have lbn : ∀ u, B < W.heap.size + u := fun u => Nat.lt_of_lt_of_le lb (Nat.le_add_right _ _)
  obtain ⟨⟨a0, a1, a2, a3, a4, a5, a6, a7⟩, _⟩ := cells8 hB
  have CT := Lib.hid (fun W h => guardRight_any c (.slice A1 c.ins.length c1) (.slice A2 c.pl.length c2) (.slice A3 c.ks.length c3) (.slice A4 c.gs.length c4) x hr hx W h)
  have CD := Lib.hid h
  clear h hB hr hx
  go_enter Try.func44, Try.ntmps44
  go_wp2_with (go_at_call 45; refine (callGr (CT.out _ (CD.out.below (by (repeat (with_reducible first | exact Below.refl _ _ | (refine bl_set ?_ (by first | omega | (simp; done) | (simp; omega)) _) | refine bl_gr ?_ _ | refine bl_al ?_ _ | refine below_setRow ?_ (by first | omega | (simp; done) | (simp; omega)) _ | refine bl_drewN ?_ _ | refine Below.drew ?_ | (refine bl_tr ?_ (by assumption)))))))).mono ?_; rintro e w' ⟨pp, rfl, rfl⟩)
  go_ret
  exact ⟨rfl, by (repeat (with_reducible first | exact Below.refl _ _ | (refine bl_set ?_ (by first | omega | (simp; done) | (simp; omega)) _) | refine bl_gr ?_ _ | refine bl_al ?_ _ | refine below_setRow ?_ (by first | omega | (simp; done) | (simp; omega)) _ | refine bl_drewN ?_ _ | refine Below.drew ?_ | (refine bl_tr ?_ (by assumption))))⟩
end Go.Proofs.Ytcmpgohpncnagaa
