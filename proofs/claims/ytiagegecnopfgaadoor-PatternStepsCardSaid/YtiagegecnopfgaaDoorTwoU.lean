/- A region that stores into cells that it reads: where two operations may come up at once. -/
import Derived.Test.YtiagegecnopfgaaDoorUntil
namespace Go.Proofs.YtiagegecnopfgaaDoor
set_option linter.all false
open Go.ChangeShapes Go.WideShapes Go.ChangeAt Go.RowKit Go.Sort Go.Deep

theorem wpAnyU_two {P : Program} {md : Region.Mode} {ops : Array Oper} {Q : Exit → Act → World → Prop} {S : World → Prop} {R : List Nat} {i j : Nat} {o p : Oper} {fuel : Nat} {listed : Array Bool} {a : Act} {w : World} (hr : Region.ready md ops listed = [i, j]) (ho : ops[i]? = some o) (hp : ops[j]? = some p)
    (h1 : ∀ K : Act → World → Prop, (∀ a' w', (noneB R (listed.setIfInBounds i true) = true → S w') → wpAnyU P md ops Q S R fuel (listed.setIfInBounds i true) a' w' → K a' w') →
      if Region.wanted o (yielded ops a.tmps) = true then Oper.wp P o a w K Q else K (a.put o.dst undef) w)
    (h2 : ∀ K : Act → World → Prop, (∀ a' w', (noneB R (listed.setIfInBounds j true) = true → S w') → wpAnyU P md ops Q S R fuel (listed.setIfInBounds j true) a' w' → K a' w') →
      if Region.wanted p (yielded ops a.tmps) = true then Oper.wp P p a w K Q else K (a.put p.dst undef) w) : wpAnyU P md ops Q S R (fuel + 1) listed a w := by
  refine ⟨fun h0 => (by rw [hr] at h0; cases h0), fun k hk => ?_⟩
  rw [hr] at hk
  simp only [List.mem_cons, List.not_mem_nil, or_false] at hk
  rcases hk with rfl | rfl
  · have := h1 _ (fun a' w' h1 h2 => And.intro h1 h2)
    unfold wpOp
    simp only [ho]
    split
    · rename_i hw
      rw [if_pos hw] at this
      exact .inl this
    · rename_i hw
      rw [if_neg hw] at this
      exact this
  · have := h2 _ (fun a' w' h1 h2 => And.intro h1 h2)
    unfold wpOp
    simp only [hp]
    split
    · rename_i hw
      rw [if_pos hw] at this
      exact .inl this
    · rename_i hw
      rw [if_neg hw] at this
      exact this
end Go.Proofs.YtiagegecnopfgaaDoor
