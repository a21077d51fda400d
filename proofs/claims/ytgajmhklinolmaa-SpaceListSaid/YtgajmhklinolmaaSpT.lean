/- Rows of cells that a call has made. -/
import Derived.Test.YtgajmhklinolmaaSpS
namespace Go.Proofs.Ytgajmhklinolmaa
set_option linter.all false
open Go.RowKit Go.Sort Go.Deep

structure RowR (w : World) (lo : Nat) (v : Value) (l : List CellD) (rs : List CellR) : Prop where
  row : w.ownsRow lo 38 6 v l.length (flat CellR.cs rs)
  len : rs.length = l.length
  cell : ∀ (i : Nat) (r : CellR) (c : CellD), rs[i]? = some r → l[i]? = some c → r.k = c.k ∧ r.sh = c.sh ∧ r.fl = c.fl ∧ r.ag = c.ag ∧ OwnV w lo r.sv c.sl ∧ OwnV w lo r.mv c.mo
  far : ∀ (i : Nat) (r : CellR), rs[i]? = some r → ∀ b, (r.sv.ownBlock = some b ∨ r.mv.ownBlock = some b) → v.ownBlock ≠ some b
/-- v is a row of cells in blocks of the call's own, not below lo -/
def RowC (w : World) (lo : Nat) (v : Value) (l : List CellD) : Prop := ∃ rs, RowR w lo v l rs
theorem RowC.nil_ (w : World) (lo : Nat) : RowC w lo (.slice none 0 0) [] := ⟨[], World.ownsRow_nil _ _ _ _, rfl, by simp, by simp⟩
theorem RowC.below {w w' : World} {lo : Nat} {v : Value} {l : List CellD} (h : RowC w lo v l) (hb : Below w.heap.size w w') : RowC w' lo v l := by
  obtain ⟨rs, h⟩ := h
  refine ⟨rs, ownsRow_below h.row hb, h.len, fun i r c hr hc => ?_, h.far⟩
  obtain ⟨a, b, c', d, e, f⟩ := h.cell i r c hr hc
  exact ⟨a, b, c', d, ownsRow_below e hb, ownsRow_below f hb⟩
theorem RowC.isC {w : World} {lo : Nat} {v : Value} {l : List CellD} (h : RowC w lo v l) : IsC w v l := by
  obtain ⟨rs, h⟩ := h
  refine ⟨rs, ownsRow_slOf (base := lo) (e := 38) crs_len (by rw [h.len]; exact h.row), h.len, fun i r c hr hc => ?_⟩
  obtain ⟨a, b, c', d, e, f⟩ := h.cell i r c hr hc
  exact ⟨a, b, c', d, OwnV.isV e, OwnV.isV f⟩
theorem RowR.snoc {wr W1 w2 : World} {lo : Nat} {v : Value} {l : List CellD} {rs : List CellR} {c : CellD} {sv mv : Value} {g2 m2 : Nat} (h : RowR wr lo v l rs) (hlo : lo ≤ wr.heap.size) (hb : Below wr.heap.size wr W1)
    (o1 : OwnV W1 wr.heap.size sv c.sl) (o2 : OwnV W1 wr.heap.size mv c.mo)
    (hown : w2.ownsRow lo 38 6 (.slice (some ⟨g2, 0, none⟩) (l.length + 1) m2) (l.length + 1) (flat CellR.cs rs ++ [.int .i64 c.k, .int .i64 c.sh, .int .i64 c.fl, .int .i64 c.ag, sv, mv]))
    (hgrow : W1.grownBy w2 v.ownBlock) (hat : v.ownBlock = some g2 ∨ g2 = W1.heap.size) :
    RowC w2 lo (.slice (some ⟨g2, 0, none⟩) (l.length + 1) m2) (l ++ [c]) ∧ Below lo wr w2 := by
  have tg : Touch (fun b => v.ownBlock = some b) W1 w2 := ⟨hgrow.os, hgrow.tape, hgrow.output, hgrow.size, fun k hk hn => hgrow.block k hk fun e => hn e.symm⟩
  have t0 : Touch (fun b => v.ownBlock = some b) wr w2 := (Touch.of_below hb).trans tg fun _ _ h => h
  have hz : wr.heap.size ≤ W1.heap.size := hb.size
  have keep : ∀ v' xs, OwnV W1 wr.heap.size v' xs → OwnV w2 lo v' xs := fun v' xs k => ownsRow_low (ownsRow_touch k tg fun b hb' e => by
    have h1 := k.lt b hb'
    have h2 := h.row.lt b e
    omega) hlo
  have nw : ∀ v' xs, OwnV W1 wr.heap.size v' xs → ∀ b, v'.ownBlock = some b → (Value.slice (some ⟨g2, 0, none⟩) (l.length + 1) m2).ownBlock ≠ some b := fun v' xs k b e e2 => by
    have h1 := k.lt b e
    simp [Value.ownBlock] at e2
    rcases hat with q | q
    · have := h.row.lt _ q
      omega
    · omega
  refine ⟨⟨rs ++ [⟨c.k, c.sh, c.fl, c.ag, sv, mv⟩], ?_, ?_, ?_, ?_⟩, ?_⟩
  · have e : (l ++ [c]).length = l.length + 1 := by simp
    rw [flat_snoc, e]
    exact hown
  · simp [h.len]
  · intro i r d hr hd
    by_cases hi : i < rs.length
    · rw [List.getElem?_append_left hi] at hr
      rw [List.getElem?_append_left (by rw [← h.len]; exact hi)] at hd
      obtain ⟨a, b, c', d', e, f⟩ := h.cell i r d hr hd
      exact ⟨a, b, c', d', ownsRow_touch e t0 fun g hg => h.far i r hr g (.inl hg), ownsRow_touch f t0 fun g hg => h.far i r hr g (.inr hg)⟩
    · have hi' : i = rs.length := by
        have := (List.getElem?_eq_some_iff.1 hr).1
        simp at this
        omega
      subst hi'
      rw [List.getElem?_append_right (Nat.le_refl _)] at hr
      rw [List.getElem?_append_right (by rw [h.len]; exact Nat.le_refl _)] at hd
      simp at hr
      simp [h.len] at hd
      subst hr hd
      exact ⟨rfl, rfl, rfl, rfl, keep _ _ o1, keep _ _ o2⟩
  · intro i r hr b hb'
    by_cases hi : i < rs.length
    · rw [List.getElem?_append_left hi] at hr
      intro e
      simp [Value.ownBlock] at e
      subst e
      rcases hat with q | q
      · exact h.far i r hr _ hb' q
      · obtain ⟨_, _, _, _, e, f⟩ := h.cell i r _ hr (List.getElem?_eq_getElem (by rw [← h.len]; exact hi))
        rcases hb' with hb' | hb'
        · have := e.lt _ hb'
          omega
        · have := f.lt _ hb'
          omega
    · have hi' : i = rs.length := by
        have := (List.getElem?_eq_some_iff.1 hr).1
        simp at this
        omega
      subst hi'
      rw [List.getElem?_append_right (Nat.le_refl _)] at hr
      simp at hr
      subst hr
      rcases hb' with q | q
      · exact nw _ _ o1 b q
      · exact nw _ _ o2 b q
  · exact t0.below hlo fun k hk => (h.row.lt k hk).1
end Go.Proofs.Ytgajmhklinolmaa
