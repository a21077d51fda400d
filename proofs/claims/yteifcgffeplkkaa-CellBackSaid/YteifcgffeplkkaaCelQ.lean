/- Cells: the law's own test. -/
import Derived.Test.YteifcgffeplkkaaCelP
namespace Go.Proofs.Yteifcgffeplkkaa
set_option linter.all false
open Go.RowKit Go.Sort Go.Deep

theorem callGrI {P : Program} {f : FuncId} {args : Array Value} {W : World} {xs : List Int} {k : Nat} (hk : xs.length = k) (h : Calls P f args W fun e w' => ∃ v, e = .returned v ∧ IsI w' v xs ∧ Below W.heap.size W w') :
    Calls P f args W fun e w' => ∃ A n pp, e = .returned (.slice A k n) ∧ IsI (gr W pp) (.slice A k n) xs ∧ w' = gr W pp := by
  subst hk
  refine h.mono ?_
  rintro e w' ⟨v, rfl, hI, hB⟩
  obtain ⟨A, n, rfl, _, _⟩ := hI.form
  obtain ⟨q, rfl⟩ := gr_of_below hB
  exact ⟨A, n, q, rfl, hI, rfl⟩
theorem lit_int {W : World} {B : Nat} (hB : B = W.heap.size) : IsI (W.alloc (.cells #[.int .i64 3, .int .i64 5] 3)) (.slice (some ⟨B, 0, none⟩) 2 2) [3, 5] := by
  subst hB
  exact OwnI.isI (lo := 0) (World.ownsRow_lit W #[.int .i64 3, .int .i64 5] 2 (Nat.zero_le _) (by unfold maxLen; omega) rfl)
abbrev sV (k n : Int) : Val := ⟨k, n, ⟨#[]⟩⟩
theorem lit_vals {W : World} {l : List Val} {o : Array Value} {k : Nat} (hk : l.length = k) (ho : o.toList = flat Val.cs l) (hm : k ≤ 10) : IsV (W.alloc (.cells o 32)) (.slice (some ⟨W.heap.size, 0, none⟩) k k) l := by
  subst hk
  refine ownsRow_slOf (base := 0) (e := 32) (fun _ => rfl) ?_
  rw [← ho]
  exact World.ownsRow_lit W o l.length (Nat.zero_le _) (by unfold maxLen; omega) (by rw [← Array.length_toList, ho]; clear ho hm; induction l with | nil => rfl | cons a t ih => rw [flat, List.flatMap_cons, List.length_append]; rw [flat] at ih; rw [ih, List.length_cons]; show 3 + t.length * 3 = (t.length + 1) * 3; omega)
/-- the two cells of the law's own test -/
abbrev cellA : CellD := ⟨1, 0, 0, 0, [sV 1 0, sV 7 3, sV 9 5, sV 3 7], []⟩
abbrev cellW : CellD := ⟨8, 0, 0, 0, [sV 1 0], [sV 7 3, sV 7 5]⟩
theorem okS {k n : Int} (h : i64ok k) (h2 : i64ok n) : (sV k n).ok := ⟨h, h2, Nat.zero_le _⟩
theorem okA : cellA.ok := by
  refine ⟨⟨by decide, by decide⟩, ⟨by decide, by decide⟩, ⟨by decide, by decide⟩, ⟨by decide, by decide⟩, ?_, by simp⟩
  intro x hx
  simp only [List.mem_cons, List.not_mem_nil, or_false] at hx
  rcases hx with rfl | rfl | rfl | rfl <;> exact okS ⟨by decide, by decide⟩ ⟨by decide, by decide⟩
theorem okW : cellW.ok := by
  refine ⟨⟨by decide, by decide⟩, ⟨by decide, by decide⟩, ⟨by decide, by decide⟩, ⟨by decide, by decide⟩, ?_, ?_⟩
  · intro x hx
    simp only [List.mem_cons, List.not_mem_nil, or_false] at hx
    rcases hx with rfl <;> exact okS ⟨by decide, by decide⟩ ⟨by decide, by decide⟩
  · intro x hx
    simp only [List.mem_cons, List.not_mem_nil, or_false] at hx
    rcases hx with rfl | rfl <;> exact okS ⟨by decide, by decide⟩ ⟨by decide, by decide⟩
theorem rightA : rightB cellA = true := by first | rfl | kernel_rfl | decide +kernel
theorem rightW : rightB cellW = true := by first | rfl | kernel_rfl | decide +kernel
theorem leadsA : addrD true (elemsD cellA) = [3, 5] := by first | rfl | kernel_rfl | decide +kernel
theorem leadsW : addrD true (elemsD cellW) = [] := by first | rfl | kernel_rfl | decide +kernel
theorem weakW : addrD false (elemsD cellW) = [3, 5] := by first | rfl | kernel_rfl | decide +kernel
