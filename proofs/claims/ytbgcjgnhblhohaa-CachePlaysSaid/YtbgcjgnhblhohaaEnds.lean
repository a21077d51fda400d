/- Regions that draw their order, behind a range over a function: a post that the function's end does not lend itself to. -/
import Derived.Test.YtbgcjgnhblhohaaInReg
import Derived.Test.YtbgcjgnhblhohaaUntil
namespace Go.Proofs.Ytbgcjgnhblhohaa
set_option linter.all false
open Go.RowKit Go.Sort Go.Deep Go.Shelf

theorem wp_region_heldE {id : Nat} {P : Program} {ops : Array Oper} {Q : Exit → Act → World → Prop} {a : Act} {w : World} (S : World → Prop) (R : Act → World → Prop) (hm : P.follows .mixedOrders = true)
    (hS : S w.drew) (h : S w.drew → wpAnyH P .any ops (EndsIn R) S ops.size (Array.replicate ops.size false) a w.drew) (hR : ∀ a w, R a w → Q .normal a w) : (Code.region id ops true).wp P Q a w := by
  refine wp_mono (wp_region_held_drew (Q := EndsIn R) hm hS h) ?_
  rintro e a w ⟨rfl, h⟩
  exact hR a w h
theorem wp_region_untilE {id : Nat} {P : Program} {ops : Array Oper} {Q : Exit → Act → World → Prop} {a : Act} {w : World} (S : World → Prop) (L : List Nat) (R : Act → World → Prop) (hm : P.follows .mixedOrders = true)
    (hS : S w.drew) (h : S w.drew → wpAnyU P .any ops (EndsIn R) S L ops.size (Array.replicate ops.size false) a w.drew) (hR : ∀ a w, R a w → Q .normal a w) : (Code.region id ops true).wp P Q a w := by
  refine wp_mono (wp_region_until (Q := EndsIn R) S L hm hS h) ?_
  rintro e a w ⟨rfl, h⟩
  exact hR a w h
end Go.Proofs.Ytbgcjgnhblhohaa
