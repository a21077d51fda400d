/- Walks of the reference: At, Put, Set. -/
import Derived.Test.YtgajmhklinolmaaSpG
namespace Go.Proofs.Ytgajmhklinolmaa
set_option linter.all false
open Go.RowKit Go.Sort Go.Deep

abbrev czero : Value := cellV 0 0 0 0 (.slice none 0 0) (.slice none 0 0)
set_option maxRecDepth 100000 in
set_option maxHeartbeats 1000000 in
theorem rat_in (room : Int) (lv : Value) (l : List CellD) (i : Nat) (c : CellD) (w : World) (h : IsC w lv l) (hi : l[i]? = some c) :
    Calls Try.prog 28 #[spV room lv, .int .i64 i] w fun e w' => ∃ sv mv, e = .returned (.tuple #[cellV c.k c.sh c.fl c.ag sv mv, .bool true]) ∧ IsV w' sv c.sl ∧ IsV w' mv c.mo ∧ Below w.heap.size w w' := by
  have hlt : i < l.length := (List.getElem?_eq_some_iff.1 hi).1
  obtain ⟨_, _, _, _, hm⟩ := h.form
  obtain ⟨b, o, cap, rfl, hcap, hb, hx⟩ := h.at_ (by omega)
  obtain ⟨sv, mv, c0, c1, c2, c3, c4, c5, v1, v2⟩ := hx i c hi
  obtain ⟨A1, n1, rfl, _, _⟩ := v1.form
  obtain ⟨A2, n2, rfl, _, _⟩ := v2.form
  have V1 := Lib.hid v1
  have V2 := Lib.hid v2
  have h0 : ¬ (i : Int) < 0 := by omega
  have h1 : ¬ (l.length : Int) ≤ i := by omega
  have h2 : ¬ (i : Int) ≥ l.length := by omega
  unfold maxLen at hm
  clear hx h v1 v2
  go_enter Try.func28, Try.ntmps28
  go_wp2
  refine bodyPost_ret (v := .tuple #[cellV c.k c.sh c.fl c.ag (.slice A1 c.sl.length n1) (.slice A2 c.mo.length n2), .bool true]) (by simp [results, Try.results28, go_sem, gr_size]) rfl ⟨_, _, rfl, V1.out.below (by (repeat (with_reducible first | exact Below.refl _ _ | (refine bl_set ?_ (by first | omega | (simp; done) | (simp; omega)) _) | refine bl_gr ?_ _ | refine bl_al ?_ _ | refine below_setRow ?_ (by first | omega | (simp; done) | (simp; omega)) _ | refine bl_drewN ?_ _ | refine Below.drew ?_ | (refine bl_tr ?_ (by assumption))))), V2.out.below (by (repeat (with_reducible first | exact Below.refl _ _ | (refine bl_set ?_ (by first | omega | (simp; done) | (simp; omega)) _) | refine bl_gr ?_ _ | refine bl_al ?_ _ | refine below_setRow ?_ (by first | omega | (simp; done) | (simp; omega)) _ | refine bl_drewN ?_ _ | refine Below.drew ?_ | (refine bl_tr ?_ (by assumption))))), by (repeat (with_reducible first | exact Below.refl _ _ | (refine bl_set ?_ (by first | omega | (simp; done) | (simp; omega)) _) | refine bl_gr ?_ _ | refine bl_al ?_ _ | refine below_setRow ?_ (by first | omega | (simp; done) | (simp; omega)) _ | refine bl_drewN ?_ _ | refine Below.drew ?_ | (refine bl_tr ?_ (by assumption))))⟩
set_option maxRecDepth 100000 in
set_option maxHeartbeats 1000000 in
theorem rat_out (room : Int) (lv : Value) (l : List CellD) (i : Int) (w : World) (h : IsC w lv l) (hi : i < 0 ∨ l.length ≤ i) :
    Calls Try.prog 28 #[spV room lv, .int .i64 i] w fun e w' => e = .returned (.tuple #[czero, .bool false]) ∧ Below w.heap.size w w' := by
  obtain ⟨A, cap, rfl, _, hm⟩ := h.form
  clear h
  rcases hi with hi | hi
  · go_enter Try.func28, Try.ntmps28
    go_wp2
    refine bodyPost_ret (v := .tuple #[czero, .bool false]) (by simp [results, Try.results28, go_sem, gr_size]) rfl ⟨rfl, by (repeat (with_reducible first | exact Below.refl _ _ | (refine bl_set ?_ (by first | omega | (simp; done) | (simp; omega)) _) | refine bl_gr ?_ _ | refine bl_al ?_ _ | refine below_setRow ?_ (by first | omega | (simp; done) | (simp; omega)) _ | refine bl_drewN ?_ _ | refine Below.drew ?_ | (refine bl_tr ?_ (by assumption))))⟩
  · have h0 : ¬ i < 0 := by omega
    go_enter Try.func28, Try.ntmps28
    go_wp2
    refine bodyPost_ret (v := .tuple #[czero, .bool false]) (by simp [results, Try.results28, go_sem, gr_size]) rfl ⟨rfl, by (repeat (with_reducible first | exact Below.refl _ _ | (refine bl_set ?_ (by first | omega | (simp; done) | (simp; omega)) _) | refine bl_gr ?_ _ | refine bl_al ?_ _ | refine below_setRow ?_ (by first | omega | (simp; done) | (simp; omega)) _ | refine bl_drewN ?_ _ | refine Below.drew ?_ | (refine bl_tr ?_ (by assumption))))⟩

/-! append of cells -/
abbrev zcell : Array Value := #[.int .i64 0, .int .i64 0, .int .i64 0, .int .i64 0, .slice none 0 0, .slice none 0 0]
theorem cell_info : ∃ i, Try.prog.info? 38 = some i ∧ i.zero = some (.agg zcell) ∧ i.size = 6 ∧ i.bytes = 80 := by
  have h : (Try.prog.info? 38).map (fun i => (i.zero, i.size, i.bytes)) = some (some (.agg zcell), 6, 80) := by kernel_rfl
  obtain ⟨i, hi, hzz⟩ := Option.map_eq_some_iff.1 h
  simp only [Prod.mk.injEq] at hzz
  exact ⟨i, hi, hzz.1, hzz.2.1, hzz.2.2⟩
theorem IsC.one {w : World} {rs : List CellR} {l : List CellD} (hl : rs.length = l.length) (h : ∀ (i : Nat) (r : CellR) (c : CellD), rs[i]? = some r → l[i]? = some c → Holds6 w r c) : ∀ u ∈ flat CellR.cs rs, u.oneCell' = true := by
  intro u hu
  obtain ⟨r, hr, h2⟩ := List.mem_flatMap.1 hu
  obtain ⟨i, hi, rfl⟩ := List.getElem_of_mem hr
  obtain ⟨_, _, _, _, e5, e6⟩ := h i _ _ (List.getElem?_eq_getElem hi) (List.getElem?_eq_getElem (by omega))
  obtain ⟨_, _, e5, _⟩ := e5.form
  obtain ⟨_, _, e6, _⟩ := e6.form
  simp only [CellR.cs, List.mem_cons, List.not_mem_nil, or_false] at h2
  rcases h2 with rfl | rfl | rfl | rfl | rfl | rfl
  · rfl
  · rfl
  · rfl
  · rfl
  · rw [e5]; rfl
  · rw [e6]; rfl
end Go.Proofs.Ytgajmhklinolmaa
