/- Walks of the arena: At. -/
import Derived.Test.YtgajmhklinolmaaSpJ
namespace Go.Proofs.Ytgajmhklinolmaa
set_option linter.all false
open Go.RowKit Go.Sort Go.Deep

theorem Arena.at_ {w : World} {F : Nat → Prop} {s : Nat} {room : Int} {l : List CellD} (h : Arena w F s room l) {i : Nat} {c : CellD} (hi : l[i]? = some c) : ∃ g o cap A ca B cb, w.cell? ⟨s, 0, none⟩ = some (.int .i64 room) ∧ w.cell? ⟨s, 1, none⟩ = some (.slice (some ⟨g, o, none⟩) l.length cap) ∧ o = 0 ∧ F g ∧ g ≠ s ∧ g < w.heap.size ∧ l.length ≤ maxLen ∧
    w.cell? ⟨g, o + i * 6, none⟩ = some (.int .i64 c.k) ∧ w.cell? ⟨g, o + i * 6 + 1, none⟩ = some (.int .i64 c.sh) ∧ w.cell? ⟨g, o + i * 6 + 2, none⟩ = some (.int .i64 c.fl) ∧ w.cell? ⟨g, o + i * 6 + 3, none⟩ = some (.int .i64 c.ag) ∧
    w.cell? ⟨g, o + i * 6 + 4, none⟩ = some (.slice A c.sl.length ca) ∧ w.cell? ⟨g, o + i * 6 + 5, none⟩ = some (.slice B c.mo.length cb) ∧ IsV w (.slice A c.sl.length ca) c.sl ∧ IsV w (.slice B c.mo.length cb) c.mo ∧ c.fit := by
  obtain ⟨rs, v, h⟩ := h
  have hil : i < l.length := (List.getElem?_eq_some_iff.1 hi).1
  have hr : rs[i]? = some (rs[i]'(by rw [h.len]; exact hil)) := List.getElem?_eq_getElem _
  obtain ⟨e1, e2, e3, e4, o1, o2, hf⟩ := h.cell i _ c hr hi
  obtain ⟨A, ca, f1⟩ := ownsRow_form o1
  obtain ⟨B, cb, f2⟩ := ownsRow_form o2
  rcases h.row.2 with ⟨_, h0⟩ | ⟨g, cap, cur, rfl, hb, hg, hc, hm, hs, ht⟩
  · omega
  have hx := (h.row.cells (g := g) rfl)
  have hst := h.st
  have key : ∀ j u, (CellR.cs (rs[i]'(by rw [h.len]; exact hil)))[j]? = some u → w.cell? ⟨g, 0 + i * 6 + j, none⟩ = some u := fun j u hu => by
    have := hx (i * 6 + j) u (flat_at crs_len rs i _ j u hr hu)
    rw [add_off] at this
    rw [show 0 + i * 6 + j = 0 + (i * 6 + j) by omega]
    exact this
  refine ⟨g, 0, cap, A, ca, B, cb, by rw [cell_of_row w s _ _ _ _ hst]; rfl, by rw [cell_of_row w s _ _ _ _ hst]; rfl, rfl, (h.blk g rfl).1, (h.blk g rfl).2, (Array.getElem?_eq_some_iff.1 hg).1, by omega, ?_, ?_, ?_, ?_, ?_, ?_, ?_, ?_, hf⟩
  · rw [← e1]; exact key 0 _ rfl
  · rw [← e2]; exact key 1 _ rfl
  · rw [← e3]; exact key 2 _ rfl
  · rw [← e4]; exact key 3 _ rfl
  · rw [← f1]; exact key 4 _ rfl
  · rw [← f2]; exact key 5 _ rfl
  · rw [← f1]; exact o1.isV
  · rw [← f2]; exact o2.isV

theorem ownsRow_gr {X Y : World} {p : Regrown} {lo : Nat} {e : TypeId} {size : Nat} {v : Value} {n : Nat} {xs : List Value} (h : (gr X p).ownsRow lo e size v n xs) (hl : X.heap.size ≤ lo) (hs : Y.heap.size = X.heap.size) : (gr Y p).ownsRow lo e size v n xs := by
  refine ⟨h.1, ?_⟩
  rcases h.2 with h0 | ⟨g, cap, cur, rfl, hb, hg, rest⟩
  · exact .inl h0
  · refine .inr ⟨g, cap, cur, rfl, hb, ?_, rest⟩
    have e1 : (gr X p).heap = X.heap ++ p.os := rfl
    have e2 : (gr Y p).heap = Y.heap ++ p.os := rfl
    rw [e1, Array.getElem?_append_right (by omega)] at hg
    rw [e2, Array.getElem?_append_right (by omega), hs]
    exact hg
theorem OwnV.form {w : World} {lo : Nat} {v : Value} {xs : List Val} (h : OwnV w lo v xs) : ∃ A cap, v = .slice A xs.length cap := ownsRow_form h
set_option maxRecDepth 100000 in
set_option maxHeartbeats 1000000 in
theorem at_in (F : Nat → Prop) (s : Nat) (room : Int) (l : List CellD) (i : Nat) (c : CellD) (w : World) (h : Arena w F s room l) (hi : l[i]? = some c) :
    Calls Try.prog 18 #[.pointer (some ⟨s, 0, none⟩), .int .i64 i] w fun e w' => ∃ sv mv, e = .returned (.tuple #[cellV c.k c.sh c.fl c.ag sv mv, .bool true]) ∧ OwnV w' w.heap.size sv c.sl ∧ OwnV w' w.heap.size mv c.mo ∧ sv.ownBlock ≠ mv.ownBlock ∧ Below w.heap.size w w' := by
  have hil : i < l.length := (List.getElem?_eq_some_iff.1 hi).1
  have hs : s < w.heap.size := by obtain ⟨rs, v, h⟩ := h; exact h.low s h.ins
  obtain ⟨g, o, cap, A, ca, B, cb, r0, r1, ho, _, hgs, hg, hm, c0, c1, c2, c3, c4, c5, v1, v2, hf⟩ := h.at_ hi
  have V := Lib.hid (And.intro v1 (And.intro v2 hf))
  have h0 : ¬ (i : Int) < 0 := by omega
  have h1 : ¬ (l.length : Int) ≤ i := by omega
  have n0 : s ≠ w.heap.size := by omega
  have n1 : g ≠ w.heap.size := by omega
  have HO := Lib.hid ho
  unfold maxLen at hm
  clear v1 v2 hf h ho
  go_enter Try.func18, Try.ntmps18
  go_wp2_with (go_at_call 29; refine (own_any _ _ c _ (V.out.1.below (by (repeat (with_reducible first | exact Below.refl _ _ | (refine bl_set ?_ (by first | omega | (simp; done) | (simp; omega)) _) | refine bl_gr ?_ _ | refine bl_al ?_ _ | refine below_setRow ?_ (by first | omega | (simp; done) | (simp; omega)) _ | refine bl_drewN ?_ _ | refine Below.drew ?_ | (refine bl_tr ?_ (by assumption)))))) (V.out.2.1.below (by (repeat (with_reducible first | exact Below.refl _ _ | (refine bl_set ?_ (by first | omega | (simp; done) | (simp; omega)) _) | refine bl_gr ?_ _ | refine bl_al ?_ _ | refine below_setRow ?_ (by first | omega | (simp; done) | (simp; omega)) _ | refine bl_drewN ?_ _ | refine Below.drew ?_ | (refine bl_tr ?_ (by assumption)))))) V.out.2.2).mono ?_; rintro e w' ⟨sv, mv, rfl, o1, o2, od, hb⟩; obtain ⟨A1, n1, rfl⟩ := o1.form; obtain ⟨A2, n2, rfl⟩ := o2.form; obtain ⟨pp, rfl⟩ := gr_of_below hb; have O := Lib.hid (And.intro o1 (And.intro o2 od)); clear o1 o2 od hb)
  refine bodyPost_ret (v := .tuple #[cellV c.k c.sh c.fl c.ag (.slice A1 c.sl.length n1) (.slice A2 c.mo.length n2), .bool true]) (by simp [results, Try.results18, go_sem, gr_size]) rfl ⟨_, _, rfl, ownsRow_low (ownsRow_gr O.out.1 (Nat.le_refl _) (by simp [World.setCell])) (by simp), ownsRow_low (ownsRow_gr O.out.2.1 (Nat.le_refl _) (by simp [World.setCell])) (by simp), O.out.2.2, by (repeat (with_reducible first | exact Below.refl _ _ | (refine bl_set ?_ (by first | omega | (simp; done) | (simp; omega)) _) | refine bl_gr ?_ _ | refine bl_al ?_ _ | refine below_setRow ?_ (by first | omega | (simp; done) | (simp; omega)) _ | refine bl_drewN ?_ _ | refine Below.drew ?_ | (refine bl_tr ?_ (by assumption))))⟩
end Go.Proofs.Ytgajmhklinolmaa
