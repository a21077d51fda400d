/- Cells: Leads, Weakly and Size, by the program and by the reference. -/
import Derived.Test.YtokoigjcakgpdaaCelM
namespace Go.Proofs.Ytokoigjcakgpdaa
set_option linter.all false
open Go.RowKit Go.Sort Go.Deep

/-- the addresses that a cell holds strongly or weakly -/
def addrD (holding : Bool) (l : List (Bool × Val)) : List Int := (l.filter fun x => x.1 == holding && leadsB x.2).map fun x => x.2.n
theorem addrs_elems (holding : Bool) (c : CellD) (h : c.ok) : addrs holding (elems c h) = addrD holding (elemsD c) := by
  unfold addrs addrD
  rw [← elems_val c h, List.filter_map, List.map_map]
  rfl
theorem addrD_append (holding : Bool) (a b : List (Bool × Val)) : addrD holding (a ++ b) = addrD holding a ++ addrD holding b := by simp [addrD]
theorem addrD_len (holding : Bool) (l : List (Bool × Val)) : (addrD holding l).length ≤ l.length := by
  unfold addrD
  rw [List.length_map]
  exact List.length_filter_le _ _
theorem addrD_snoc (holding : Bool) (l : List (Bool × Val)) (b : Bool) (v : Val) : addrD holding (l ++ [(b, v)]) = addrD holding l ++ if b == holding && leadsB v then [v.n] else [] := by
  unfold addrD
  rw [List.filter_append, List.map_append]
  cases h : (b == holding && leadsB v) <;> simp [List.filter_cons, h]
theorem elemsD_len (c : CellD) : (elemsD c).length = c.sl.length + c.mo.length := by simp [elemsD, moreD]

set_option maxRecDepth 100000 in
set_option maxHeartbeats 1000000 in
theorem leads_of (sv mv : Value) (c : CellD) (hc : c.ok) (w : World) (h1 : IsV w sv c.sl) (h2 : IsV w mv c.mo) (hlen : c.sl.length + c.mo.length ≤ 17592186044416) :
    Calls Try.prog 18 #[cellV c.k c.sh c.fl c.ag sv mv] w fun e w' => ∃ v, e = .returned v ∧ IsI w' v (addrD true (elemsD c)) ∧ Below w.heap.size w w' := by
  obtain ⟨A1, n1, rfl, _, hm1⟩ := h1.form
  obtain ⟨A2, n2, rfl, _, hm2⟩ := h2.form
  have H1 := Lib.hid h1
  have H2 := Lib.hid h2
  clear h1 h2
  go_enter Try.func18, Try.ntmps18
  go_wp2_with (go_at_call 37; refine (addresses_any _ _ c hc true _ (H1.out.below (by (repeat (with_reducible first | exact Below.refl _ _ | (refine bl_set ?_ (by first | omega | (simp; done) | (simp; omega)) _) | refine bl_gr ?_ _ | refine bl_al ?_ _ | refine below_setRow ?_ (by first | omega | (simp; done) | (simp; omega)) _ | refine bl_drewN ?_ _ | refine Below.drew ?_ | (refine bl_tr ?_ (by assumption)))))) (H2.out.below (by (repeat (with_reducible first | exact Below.refl _ _ | (refine bl_set ?_ (by first | omega | (simp; done) | (simp; omega)) _) | refine bl_gr ?_ _ | refine bl_al ?_ _ | refine below_setRow ?_ (by first | omega | (simp; done) | (simp; omega)) _ | refine bl_drewN ?_ _ | refine Below.drew ?_ | (refine bl_tr ?_ (by assumption)))))) hlen).mono ?_; rintro e w1 ⟨v, rfl, ho, hb⟩; have O := Lib.hid (And.intro ho hb); clear ho hb)
  go_ret
  have hi := OwnI.isI O.out.1
  rw [addrs_elems] at hi
  exact ⟨_, rfl, hi, (bl_al (Below.refl _ _) _).trans (O.out.2.mono (by simp))⟩
set_option maxRecDepth 100000 in
set_option maxHeartbeats 1000000 in
theorem weakly_of (sv mv : Value) (c : CellD) (hc : c.ok) (w : World) (h1 : IsV w sv c.sl) (h2 : IsV w mv c.mo) (hlen : c.sl.length + c.mo.length ≤ 17592186044416) :
    Calls Try.prog 19 #[cellV c.k c.sh c.fl c.ag sv mv] w fun e w' => ∃ v, e = .returned v ∧ IsI w' v (addrD false (elemsD c)) ∧ Below w.heap.size w w' := by
  obtain ⟨A1, n1, rfl, _, hm1⟩ := h1.form
  obtain ⟨A2, n2, rfl, _, hm2⟩ := h2.form
  have H1 := Lib.hid h1
  have H2 := Lib.hid h2
  clear h1 h2
  go_enter Try.func19, Try.ntmps19
  go_wp2_with (go_at_call 37; refine (addresses_any _ _ c hc false _ (H1.out.below (by (repeat (with_reducible first | exact Below.refl _ _ | (refine bl_set ?_ (by first | omega | (simp; done) | (simp; omega)) _) | refine bl_gr ?_ _ | refine bl_al ?_ _ | refine below_setRow ?_ (by first | omega | (simp; done) | (simp; omega)) _ | refine bl_drewN ?_ _ | refine Below.drew ?_ | (refine bl_tr ?_ (by assumption)))))) (H2.out.below (by (repeat (with_reducible first | exact Below.refl _ _ | (refine bl_set ?_ (by first | omega | (simp; done) | (simp; omega)) _) | refine bl_gr ?_ _ | refine bl_al ?_ _ | refine below_setRow ?_ (by first | omega | (simp; done) | (simp; omega)) _ | refine bl_drewN ?_ _ | refine Below.drew ?_ | (refine bl_tr ?_ (by assumption)))))) hlen).mono ?_; rintro e w1 ⟨v, rfl, ho, hb⟩; have O := Lib.hid (And.intro ho hb); clear ho hb)
  go_ret
  have hi := OwnI.isI O.out.1
  rw [addrs_elems] at hi
  exact ⟨_, rfl, hi, (bl_al (Below.refl _ _) _).trans (O.out.2.mono (by simp))⟩
end Go.Proofs.Ytokoigjcakgpdaa
