/- A region that draws its order, inside a round of a range over a function: from the plain walk of it. -/
import Derived.Test.YtbgcjgnhblhohaaIt
import Derived.OrdersHeld
import Derived.OrdersIn
import Derived.Deep.RegionHeldLaw
namespace Go.Proofs.Ytbgcjgnhblhohaa
set_option linter.all false
open Go.RowKit Go.Sort Go.Deep Go.Shelf

theorem wpIn_of_wp_op {l n : Nat} {P : Program} {o : Oper} {a : Act} {w : World} {K : Act → World → Prop} {Q : Exit → Act → World → Prop} (hd : ∀ c, o.op ≠ .defer c) (h : o.wp P a w K Q) : o.wpIn (Fence.wide.inRound l) n P a w K Q := by
  refine ⟨fun _ _ => trivial, ?_⟩
  unfold Oper.wp at h
  have e : o.semAt (Fence.wide.inRound l).round a.eval = execOp a.eval o := Oper.semAt_plain _ _ _ hd
  rw [e]
  generalize (execOp a.eval o).run P w = r at *
  cases r with
  | ok x w' =>
    cases x with
    | value v => exact h
    | skip => exact h
    | defer d => exact h
    | enter f args => exact ⟨fun hh => (by cases hh), calls_wide l h⟩
    | row row args =>
      refine ⟨fun hh => (by cases hh), fun c cs _ => ?_⟩
      obtain ⟨v, w'', r, s⟩ := h c cs
      exact ⟨v, w'', r, stepsIn_wide.2 s⟩
    | round l f t x y => exact h.elim
    | _ => exact h.elim
  | halt e w' =>
    cases e with
    | panic v => exact h
    | _ => exact h.elim
theorem wpAnyIn_of_wpAny {l n : Nat} {P : Program} {md : Region.Mode} {ops : Array Oper} {Q : Exit → Act → World → Prop} (hd : ∀ o ∈ ops.toList, ∀ c, o.op ≠ .defer c) (hQ : ¬ LetsOut Q) :
    ∀ (fuel : Nat) (listed : Array Bool) (a : Act) (w : World), wpAny P md ops Q fuel listed a w → wpAnyIn (Fence.wide.inRound l) n P md ops Q fuel listed a w
  | 0, _, _, _, h => h
  | fuel + 1, listed, a, w, h => ⟨h.1, fun i hi => by
      have hk := h.2 i hi
      unfold wpOp at hk
      unfold wpOpIn
      cases ho : ops[i]? with
      | none =>
        rw [ho] at hk
        exact wpAnyIn_of_wpAny hd hQ fuel _ _ _ hk
      | some o =>
        rw [ho] at hk
        have hm : o ∈ ops.toList := Array.mem_toList_iff.2 (Array.mem_of_getElem? ho)
        simp only at hk ⊢
        split
        · rename_i hw
          rw [if_pos hw] at hk
          rcases hk with hk | hk
          · exact Oper.wpIn_mono (fun a' w' h' => wpAnyIn_of_wpAny hd hQ fuel _ a' w' h') (wpIn_of_wp_op (hd o hm) hk)
          · exact absurd hk.2 hQ
        · rename_i hw
          rw [if_neg hw] at hk
          exact ⟨fun _ _ => trivial, wpAnyIn_of_wpAny hd hQ fuel _ _ _ hk⟩⟩
/-- the post of such a region: it comes to its end, and R holds -/
def EndsIn (R : Act → World → Prop) (e : Exit) (a : Act) (w : World) : Prop := e = .normal ∧ R a w
theorem wpIn_region_held {l n id : Nat} {P : Program} {ops : Array Oper} {Q : Exit → Act → World → Prop} {a : Act} {w : World} (S : World → Prop) (R : Act → World → Prop) (hm : P.follows .mixedOrders = true) (hd : ∀ o ∈ ops.toList, ∀ c, o.op ≠ .defer c)
    (hS : S w.drew) (h : S w.drew → wpAnyH P .any ops (EndsIn R) S ops.size (Array.replicate ops.size false) a w.drew) (hR : ∀ a w, R a w → Q .normal a w) : (Code.region id ops true).wpIn (Fence.wide.inRound l) n P Q a w := by
  refine wpIn_mono (wpIn_region_any hm (wpAnyIn_of_wpAny (Q := EndsIn R) hd (by rintro ⟨a, w, h, _⟩; cases h) _ _ _ _ (wpAny_of_held _ _ _ _ (h hS)))) ?_
  rintro e a w ⟨rfl, h⟩
  exact hR a w h
end Go.Proofs.Ytbgcjgnhblhohaa
