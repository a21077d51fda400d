/- Walk of the arena's Put with room. -/
import Derived.Test.YtgajmhklinolmaaSpM
import Derived.Deep.RegionHeld3
namespace Go.Proofs.Ytgajmhklinolmaa
set_option linter.all false
open Go.RowKit Go.Sort Go.Deep

theorem Arena.rowed {w : World} {F : Nat → Prop} {s : Nat} {room : Int} {l : List CellD} (h : Arena w F s room l) : ∃ rs D cap, ArenaR w F s room l rs (.slice D l.length cap) := by
  obtain ⟨rs, v, h⟩ := h
  obtain ⟨D, cap, rfl⟩ := ownsRow_form h.row
  exact ⟨rs, D, cap, h⟩
theorem news_gr {W : World} {p : Regrown} {o : Array Value} {t : TypeId} {B : Nat} (hB : B = W.heap.size + p.os.size) : ∀ j u, o.toList[j]? = some u → ((gr W p).alloc (.cells o t)).cell? ((⟨B, 0, none⟩ : Addr).add j) = some u := by
  subst hB
  rw [← gr_size]
  exact World.news_of_block (heap_alloc_new _ _)

theorem flat_snoc {α : Type} (en : α → List Value) (xs : List α) (x : α) : flat en (xs ++ [x]) = flat en xs ++ en x := by simp [flat]
theorem ArenaR.put {w W1 w2 : World} {F : Nat → Prop} {s : Nat} {room : Int} {l : List CellD} {rs : List CellR} {D : Option Addr} {cap : Nat} {c : CellD} {sv mv : Value} {g2 m2 : Nat} (hA : ArenaR w F s room l rs (.slice D l.length cap))
    (hb : Below w.heap.size w W1) (o1 : OwnV W1 w.heap.size sv c.sl) (o2 : OwnV W1 w.heap.size mv c.mo) (hf : c.fit)
    (hown : w2.ownsRow 0 38 6 (.slice (some ⟨g2, 0, none⟩) (l.length + 1) m2) (l.length + 1) (flat CellR.cs rs ++ [.int .i64 c.k, .int .i64 c.sh, .int .i64 c.fl, .int .i64 c.ag, sv, mv]))
    (hgrow : W1.grownBy w2 (Value.slice D l.length cap).ownBlock) (hat : (Value.slice D l.length cap).ownBlock = some g2 ∨ g2 = W1.heap.size) (hlt : g2 < w2.heap.size) :
    (∃ F', Arena (w2.setCell ⟨s, 1, none⟩ (.slice (some ⟨g2, 0, none⟩) (l.length + 1) m2)) F' s room (l ++ [c]) ∧ ∀ b, F' b → F b ∨ w.heap.size ≤ b) ∧ Touch F w (w2.setCell ⟨s, 1, none⟩ (.slice (some ⟨g2, 0, none⟩) (l.length + 1) m2)) := by
  have hs : s < w.heap.size := hA.low s hA.ins
  have hz : w.heap.size ≤ W1.heap.size := hb.size
  have hz2 : W1.heap.size ≤ w2.heap.size := hgrow.size
  have hst2 : w2.heap[s]? = some (.cells #[.int .i64 room, .slice D l.length cap] 57) :=
    ((hgrow.block s (by omega) fun e => (hA.blk s e.symm).2 rfl).trans (hb.block s hs)).trans hA.st
  have hg2s : g2 ≠ s := by
    rcases hat with h | h
    · exact (hA.blk _ h).2
    · omega
  have tg : Touch (fun b => (Value.slice D l.length cap).ownBlock = some b) W1 w2 := ⟨hgrow.os, hgrow.tape, hgrow.output, hgrow.size, fun k hk hn => hgrow.block k hk fun e => hn e.symm⟩
  have ts : Touch (fun b => b = s) w2 (w2.setCell ⟨s, 1, none⟩ (.slice (some ⟨g2, 0, none⟩) (l.length + 1) m2)) := (Touch.refl _ _).set1 _ _
  have t3 : Touch (fun b => (Value.slice D l.length cap).ownBlock = some b ∨ b = s) W1 (w2.setCell ⟨s, 1, none⟩ (.slice (some ⟨g2, 0, none⟩) (l.length + 1) m2)) :=
    (tg.mono fun _ _ h => .inl h).trans ts fun _ _ h => .inr h
  have t0 : Touch (fun b => (Value.slice D l.length cap).ownBlock = some b ∨ b = s) w (w2.setCell ⟨s, 1, none⟩ (.slice (some ⟨g2, 0, none⟩) (l.length + 1) m2)) :=
    (Touch.of_below hb).trans t3 fun _ _ h => h
  generalize hw3 : w2.setCell ⟨s, 1, none⟩ (.slice (some ⟨g2, 0, none⟩) (l.length + 1) m2) = w3 at ts t3 t0
  have hz3 : w3.heap.size = w2.heap.size := by rw [← hw3]; simp [World.setCell]
  have far : ∀ v xs, OwnV W1 w.heap.size v xs → ∀ b, v.ownBlock = some b → w.heap.size ≤ b ∧ b < W1.heap.size := fun v xs h b e => h.lt b e
  have nw : ∀ v xs, OwnV W1 w.heap.size v xs → ∀ b, v.ownBlock = some b → (F b ∨ w.heap.size ≤ b ∧ b < w3.heap.size) ∧ b ≠ s ∧ (Value.slice (some ⟨g2, 0, none⟩) (l.length + 1) m2).ownBlock ≠ some b := fun v xs h b e => by
    obtain ⟨q1, q2⟩ := far v xs h b e
    refine ⟨.inr ⟨q1, by omega⟩, by omega, fun e2 => ?_⟩
    simp [Value.ownBlock] at e2
    rcases hat with h | h
    · have := hA.low _ (hA.blk _ h).1
      omega
    · omega
  have keep : ∀ v xs, OwnV W1 w.heap.size v xs → OwnV w3 0 v xs := fun v xs h => ownsRow_low (ownsRow_touch h t3 fun g hg => by
    obtain ⟨q1, q2⟩ := far v xs h g hg
    rintro (e | e)
    · have := hA.low _ (hA.blk _ e).1
      omega
    · omega) (Nat.zero_le _)
  refine ⟨⟨fun b => F b ∨ w.heap.size ≤ b ∧ b < w3.heap.size, ⟨rs ++ [⟨c.k, c.sh, c.fl, c.ag, sv, mv⟩], .slice (some ⟨g2, 0, none⟩) (l.length + 1) m2, .inl hA.ins, ?_, ?_, ?_, ?_, ?_, ?_, ?_⟩, fun b h => h.imp_right And.left⟩, ?_⟩
  · rw [← hw3]
    exact heap_setCell_same w2 s 1 _ _ _ hst2
  · have e : (l ++ [c]).length = l.length + 1 := by simp
    rw [flat_snoc, e]
    exact ownsRow_touch hown ts fun g hg => by simp [Value.ownBlock] at hg; omega
  · simp [hA.len]
  · intro b hb'
    simp [Value.ownBlock] at hb'
    subst hb'
    refine ⟨?_, hg2s⟩
    rcases hat with h | h
    · exact .inl (hA.blk _ h).1
    · exact .inr ⟨by omega, by omega⟩
  · intro i r d hr hd
    by_cases hi : i < rs.length
    · rw [List.getElem?_append_left hi] at hr
      rw [List.getElem?_append_left (by rw [← hA.len]; exact hi)] at hd
      obtain ⟨a, b, c', d', e, f, g⟩ := hA.cell i r d hr hd
      exact ⟨a, b, c', d', ownsRow_touch e t0 fun g hg => (by rintro (h | h); exact (hA.far i r hr g (.inl hg)).2.2 h; exact (hA.far i r hr g (.inl hg)).2.1 h), ownsRow_touch f t0 fun g hg => (by rintro (h | h); exact (hA.far i r hr g (.inr hg)).2.2 h; exact (hA.far i r hr g (.inr hg)).2.1 h), g⟩
    · have hi' : i = rs.length := by
        have := (List.getElem?_eq_some_iff.1 hr).1
        simp at this
        omega
      subst hi'
      rw [List.getElem?_append_right (Nat.le_refl _)] at hr
      rw [List.getElem?_append_right (by rw [hA.len]; exact Nat.le_refl _)] at hd
      simp at hr
      simp [hA.len] at hd
      subst hr hd
      exact ⟨rfl, rfl, rfl, rfl, keep _ _ o1, keep _ _ o2, hf⟩
  · intro i r hr b hb'
    by_cases hi : i < rs.length
    · rw [List.getElem?_append_left hi] at hr
      obtain ⟨a, b', c'⟩ := hA.far i r hr b hb'
      refine ⟨.inl a, b', fun e => ?_⟩
      simp [Value.ownBlock] at e
      subst e
      rcases hat with h | h
      · exact c' h
      · have := hA.low _ a
        omega
    · have hi' : i = rs.length := by
        have := (List.getElem?_eq_some_iff.1 hr).1
        simp at this
        omega
      subst hi'
      rw [List.getElem?_append_right (Nat.le_refl _)] at hr
      simp at hr
      subst hr
      rcases hb' with h | h
      · exact nw _ _ o1 b h
      · exact nw _ _ o2 b h
  · rintro b (h | ⟨_, h⟩)
    · have := hA.low b h
      omega
    · exact h
  · exact t0.mono fun b _ h => (by rcases h with h | h; exact (hA.blk b h).1; subst h; exact hA.ins)

end Go.Proofs.Ytgajmhklinolmaa
