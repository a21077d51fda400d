/- Walk of the arena Set. -/
import Derived.Test.YtgajmhklinolmaaSpO
namespace Go.Proofs.Ytgajmhklinolmaa
set_option linter.all false
open Go.RowKit Go.Sort Go.Deep

theorem ArenaR.set {w W1 : World} {F : Nat → Prop} {s : Nat} {room : Int} {l : List CellD} {rs : List CellR} {v : Value} {c : CellD} {sv mv : Value} {i g o : Nat} (hA : ArenaR w F s room l rs v)
    (hb : Below w.heap.size w W1) (o1 : OwnV W1 w.heap.size sv c.sl) (o2 : OwnV W1 w.heap.size mv c.mo) (hf : c.fit) (hi : i < l.length) (hg : v.ownBlock = some g) (ho : o = 0) :
    (∃ F', Arena ((((((W1.setCell ⟨g, o + i * 6, none⟩ (.int .i64 c.k)).setCell ⟨g, o + i * 6 + 1, none⟩ (.int .i64 c.sh)).setCell ⟨g, o + i * 6 + 2, none⟩ (.int .i64 c.fl)).setCell ⟨g, o + i * 6 + 3, none⟩ (.int .i64 c.ag)).setCell ⟨g, o + i * 6 + 4, none⟩ sv).setCell ⟨g, o + i * 6 + 5, none⟩ mv) F' s room (l.set i c) ∧ ∀ b, F' b → F b ∨ w.heap.size ≤ b) ∧
    Touch F w ((((((W1.setCell ⟨g, o + i * 6, none⟩ (.int .i64 c.k)).setCell ⟨g, o + i * 6 + 1, none⟩ (.int .i64 c.sh)).setCell ⟨g, o + i * 6 + 2, none⟩ (.int .i64 c.fl)).setCell ⟨g, o + i * 6 + 3, none⟩ (.int .i64 c.ag)).setCell ⟨g, o + i * 6 + 4, none⟩ sv).setCell ⟨g, o + i * 6 + 5, none⟩ mv) := by
  subst ho
  have hs : s < w.heap.size := hA.low s hA.ins
  obtain ⟨hFg, hgs⟩ := hA.blk g hg
  have hgl : g < w.heap.size := hA.low g hFg
  have hrow : ((((((W1.setCell ⟨g, 0 + i * 6, none⟩ (.int .i64 c.k)).setCell ⟨g, 0 + i * 6 + 1, none⟩ (.int .i64 c.sh)).setCell ⟨g, 0 + i * 6 + 2, none⟩ (.int .i64 c.fl)).setCell ⟨g, 0 + i * 6 + 3, none⟩ (.int .i64 c.ag)).setCell ⟨g, 0 + i * 6 + 4, none⟩ sv).setCell ⟨g, 0 + i * 6 + 5, none⟩ mv).ownsRow 0 38 6 v l.length (flat CellR.cs (rs.set i ⟨c.k, c.sh, c.fl, c.ag, sv, mv⟩)) := by
    rw [← flat_set6 _ rs i (by rw [hA.len]; exact hi)]
    simp only [Nat.zero_add]
    exact ownsRow_set (ownsRow_set (ownsRow_set (ownsRow_set (ownsRow_set (ownsRow_set (ownsRow_below hA.row hb) hg (by omega) _) hg (by omega) _) hg (by omega) _) hg (by omega) _) hg (by omega) _) hg (by omega) _
  have tt : Touch (fun b => b = g) W1 ((((((W1.setCell ⟨g, 0 + i * 6, none⟩ (.int .i64 c.k)).setCell ⟨g, 0 + i * 6 + 1, none⟩ (.int .i64 c.sh)).setCell ⟨g, 0 + i * 6 + 2, none⟩ (.int .i64 c.fl)).setCell ⟨g, 0 + i * 6 + 3, none⟩ (.int .i64 c.ag)).setCell ⟨g, 0 + i * 6 + 4, none⟩ sv).setCell ⟨g, 0 + i * 6 + 5, none⟩ mv) :=
    ((((((Touch.refl _ _).set1 _ _).set1 _ _).set1 _ _).set1 _ _).set1 _ _).set1 _ _
  generalize ((((((W1.setCell ⟨g, 0 + i * 6, none⟩ (.int .i64 c.k)).setCell ⟨g, 0 + i * 6 + 1, none⟩ (.int .i64 c.sh)).setCell ⟨g, 0 + i * 6 + 2, none⟩ (.int .i64 c.fl)).setCell ⟨g, 0 + i * 6 + 3, none⟩ (.int .i64 c.ag)).setCell ⟨g, 0 + i * 6 + 4, none⟩ sv).setCell ⟨g, 0 + i * 6 + 5, none⟩ mv) = w3 at hrow tt
  have t0 : Touch (fun b => b = g) w w3 := (Touch.of_below hb).trans tt fun _ _ h => h
  have hz : w.heap.size ≤ W1.heap.size := hb.size
  have hz3 : W1.heap.size ≤ w3.heap.size := tt.size
  have nw : ∀ v' xs, OwnV W1 w.heap.size v' xs → ∀ b, v'.ownBlock = some b → (F b ∨ w.heap.size ≤ b ∧ b < w3.heap.size) ∧ b ≠ s ∧ v.ownBlock ≠ some b := fun v' xs h b e => by
    obtain ⟨q1, q2⟩ := h.lt b e
    refine ⟨.inr ⟨q1, by omega⟩, by omega, fun e2 => ?_⟩
    rw [hg] at e2
    simp at e2
    omega
  have keep : ∀ v' xs, OwnV W1 w.heap.size v' xs → OwnV w3 0 v' xs := fun v' xs h => ownsRow_low (ownsRow_touch h tt fun b hb' => by
    obtain ⟨q1, q2⟩ := h.lt b hb'
    omega) (Nat.zero_le _)
  refine ⟨⟨fun b => F b ∨ w.heap.size ≤ b ∧ b < w3.heap.size, ⟨rs.set i ⟨c.k, c.sh, c.fl, c.ag, sv, mv⟩, v, .inl hA.ins, ?_, ?_, ?_, ?_, ?_, ?_, ?_⟩, fun b h => h.imp_right And.left⟩, ?_⟩
  · rw [t0.block s hs (fun e => hgs e.symm)]
    exact hA.st
  · rw [List.length_set]
    exact hrow
  · simp [hA.len]
  · exact fun b hb' => ⟨.inl (hA.blk b hb').1, (hA.blk b hb').2⟩
  · intro j r d hr hd
    by_cases hj : i = j
    · subst hj
      rw [List.getElem?_set_self (by rw [hA.len]; exact hi)] at hr
      rw [List.getElem?_set_self hi] at hd
      simp only [Option.some.injEq] at hr hd
      subst hr hd
      exact ⟨rfl, rfl, rfl, rfl, keep _ _ o1, keep _ _ o2, hf⟩
    · rw [List.getElem?_set_ne hj] at hr hd
      obtain ⟨a, b, c', d', e, f, g'⟩ := hA.cell j r d hr hd
      exact ⟨a, b, c', d', ownsRow_touch e t0 fun b hb' h => (by subst h; exact (hA.far j r hr b (.inl hb')).2.2 hg), ownsRow_touch f t0 fun b hb' h => (by subst h; exact (hA.far j r hr b (.inr hb')).2.2 hg), g'⟩
  · intro j r hr b hb'
    by_cases hj : i = j
    · subst hj
      rw [List.getElem?_set_self (by rw [hA.len]; exact hi)] at hr
      simp only [Option.some.injEq] at hr
      subst hr
      rcases hb' with h | h
      · exact nw _ _ o1 b h
      · exact nw _ _ o2 b h
    · rw [List.getElem?_set_ne hj] at hr
      obtain ⟨a, b', c'⟩ := hA.far j r hr b hb'
      exact ⟨.inl a, b', c'⟩
  · rintro b (h | ⟨_, h⟩)
    · have := hA.low b h
      omega
    · exact h
  · exact t0.mono fun b _ h => (by subst h; exact hFg)

set_option maxRecDepth 100000 in
set_option maxHeartbeats 1000000 in
theorem set_out (F : Nat → Prop) (s : Nat) (room : Int) (l : List CellD) (i : Int) (k sh fl ag : Int) (A B : Option Addr) (n ca m cb : Nat) (w : World) (h : Arena w F s room l) (hi : i < 0 ∨ l.length ≤ i) :
    Calls Try.prog 17 #[.pointer (some ⟨s, 0, none⟩), .int .i64 i, cellV k sh fl ag (.slice A n ca) (.slice B m cb)] w fun e w' => e = .returned (.int .i64 3) ∧ Below w.heap.size w w' := by
  have hs : s < w.heap.size := by obtain ⟨rs, v, h⟩ := h; exact h.low s h.ins
  obtain ⟨D, cap, r0, r1, _, hm, _⟩ := h.room
  have n0 : s ≠ w.heap.size := by omega
  clear h
  rcases hi with hi | hi
  · go_enter Try.func17, Try.ntmps17
    go_wp2
    go_ret
    exact ⟨rfl, by (repeat (with_reducible first | exact Below.refl _ _ | (refine bl_set ?_ (by first | omega | (simp; done) | (simp; omega)) _) | refine bl_gr ?_ _ | refine bl_al ?_ _ | refine below_setRow ?_ (by first | omega | (simp; done) | (simp; omega)) _ | refine bl_drewN ?_ _ | refine Below.drew ?_ | (refine bl_tr ?_ (by assumption))))⟩
  · have h0 : ¬ i < 0 := by omega
    go_enter Try.func17, Try.ntmps17
    go_wp2
    go_ret
    exact ⟨rfl, by (repeat (with_reducible first | exact Below.refl _ _ | (refine bl_set ?_ (by first | omega | (simp; done) | (simp; omega)) _) | refine bl_gr ?_ _ | refine bl_al ?_ _ | refine below_setRow ?_ (by first | omega | (simp; done) | (simp; omega)) _ | refine bl_drewN ?_ _ | refine Below.drew ?_ | (refine bl_tr ?_ (by assumption))))⟩
end Go.Proofs.Ytgajmhklinolmaa
