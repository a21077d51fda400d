/- Walk of the law's alike. -/
import Derived.Test.YtgajmhklinolmaaSpY
namespace Go.Proofs.Ytgajmhklinolmaa
set_option linter.all false
open Go.RowKit Go.Sort Go.Deep

/-- a row of cells whose slices may have been overwritten; only blocks not below lo -/
def RowT (w : World) (lo : Nat) (v : Value) (l : List CellD) : Prop := ∃ rs : List CellR, w.ownsRow lo 38 6 v l.length (flat CellR.cs rs) ∧ rs.length = l.length ∧ ∀ (i : Nat) (r : CellR) (c : CellD), rs[i]? = some r → l[i]? = some c →
  OwnN w r.sv c.sl.length ∧ OwnN w r.mv c.mo.length ∧ (∀ b, (r.sv.ownBlock = some b ∨ r.mv.ownBlock = some b) → lo ≤ b ∧ v.ownBlock ≠ some b)
theorem RowC.rowT {w : World} {lo : Nat} {v : Value} {l : List CellD} (h : RowC w lo v l) : RowT w lo v l := by
  obtain ⟨rs, h⟩ := h
  refine ⟨rs, h.row, h.len, fun i r c hr hc => ?_⟩
  obtain ⟨_, _, _, _, e, f⟩ := h.cell i r c hr hc
  refine ⟨OwnN.of e, OwnN.of f, fun b hb => ⟨?_, h.far i r hr b hb⟩⟩
  rcases hb with hb | hb
  · exact (e.lt b hb).1
  · exact (f.lt b hb).1
theorem RowT.touch {w w' : World} {G : Nat → Prop} {lo : Nat} {v : Value} {l : List CellD} (h : RowT w lo v l) (hk : Kept w w') (ht : Touch G w w') (hG : ∀ b, v.ownBlock = some b → ¬ G b) : RowT w' lo v l := by
  obtain ⟨rs, h1, h2, h3⟩ := h
  refine ⟨rs, ownsRow_touch h1 ht hG, h2, fun i r c hr hc => ?_⟩
  obtain ⟨a, b, d⟩ := h3 i r c hr hc
  exact ⟨a.kept hk, b.kept hk, d⟩
theorem RowT.at_ {w : World} {lo : Nat} {v : Value} {l : List CellD} (h : RowT w lo v l) {i : Nat} (hi : i < l.length) : ∃ g o cap k sh fl ag A ca B cb n m, v = .slice (some ⟨g, o, none⟩) l.length cap ∧ o = 0 ∧ g < w.heap.size ∧ l.length ≤ maxLen ∧
    w.cell? ⟨g, o + i * 6, none⟩ = some (.int .i64 k) ∧ w.cell? ⟨g, o + i * 6 + 1, none⟩ = some (.int .i64 sh) ∧ w.cell? ⟨g, o + i * 6 + 2, none⟩ = some (.int .i64 fl) ∧ w.cell? ⟨g, o + i * 6 + 3, none⟩ = some (.int .i64 ag) ∧
    w.cell? ⟨g, o + i * 6 + 4, none⟩ = some (.slice A n ca) ∧ w.cell? ⟨g, o + i * 6 + 5, none⟩ = some (.slice B m cb) ∧ OwnN w (.slice A n ca) n ∧ OwnN w (.slice B m cb) m ∧
    (∀ b, ((Value.slice A n ca).ownBlock = some b ∨ (Value.slice B m cb).ownBlock = some b) → lo ≤ b ∧ v.ownBlock ≠ some b) := by
  obtain ⟨rs, h1, h2, h3⟩ := h
  have hr : rs[i]? = some (rs[i]'(by rw [h2]; exact hi)) := List.getElem?_eq_getElem _
  obtain ⟨a, b, d⟩ := h3 i _ _ hr (List.getElem?_eq_getElem hi)
  generalize hcc : l[i] = cc at a b d
  obtain ⟨A, ca, f1, _, _⟩ := a.form
  obtain ⟨B, cb, f2, _, _⟩ := b.form
  rcases h1.2 with ⟨_, h0⟩ | ⟨g, cap, cur, rfl, hb, hg, hc, hm, hs, ht⟩
  · omega
  have hx := (h1.cells (g := g) rfl)
  have key : ∀ j u, (CellR.cs (rs[i]'(by rw [h2]; exact hi)))[j]? = some u → w.cell? ⟨g, 0 + i * 6 + j, none⟩ = some u := fun j u hu => by
    have := hx (i * 6 + j) u (flat_at crs_len rs i _ j u hr hu)
    rw [add_off] at this
    rw [show 0 + i * 6 + j = 0 + (i * 6 + j) by omega]
    exact this
  refine ⟨g, 0, cap, _, _, _, _, A, ca, B, cb, cc.sl.length, cc.mo.length, rfl, rfl, (Array.getElem?_eq_some_iff.1 hg).1, by omega, key 0 _ rfl, key 1 _ rfl, key 2 _ rfl, key 3 _ rfl, ?_, ?_, ?_, ?_, ?_⟩
  · rw [← f1]; exact key 4 _ rfl
  · rw [← f2]; exact key 5 _ rfl
  · rw [← f1]; exact a
  · rw [← f2]; exact b
  · rw [← f1, ← f2]; exact d
end Go.Proofs.Ytgajmhklinolmaa
