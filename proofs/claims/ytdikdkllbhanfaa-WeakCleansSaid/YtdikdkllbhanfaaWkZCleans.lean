/- WeakCleans holds in its full form: for every cell and every list of numbers. -/
import Derived.Test.YtdikdkllbhanfaaWkW
import Derived.Test.YtdikdkllbhanfaaCelAG
namespace Go.Proofs.Ytdikdkllbhanfaa
set_option linter.all false
open Go.ChangeShapes Go.WideShapes Go.ChangeAt Go.RowKit

set_option maxRecDepth 100000 in
theorem weakCleans_lifted (os : Os) (started : os.Started) (H : Type) (enc : TypeId × Value → H) :
    ReturnsInHanded {} Try.checked os 3 .any (Rows.weakCleansSpec.pre6 enc Try.prog Try.f3 Rows.weakCleansRow.domain false) (Rows.weakCleansSpec.post enc Try.prog Try.f3 false true false false) := by
  refine returnsInHanded_of_change_sized (C := Try.checked) Try.own started (by kernel_rfl) Try.func3 (ChangeSpec.witness6 (enc := enc) (C := Try.checked) false ⟨#[], #[cellV 0 0 0 0 (.slice none 0 0) (.slice none 0 0), .slice none 0 0], []⟩ 8 (by kernel_rfl) (by kernel_rfl) (by kernel_rfl) (by kernel_rfl)) ?_
  intro W base args ds gs before hval0 hW hcnd hwt _
  have hval : ∀ (j : Nat) t v, Try.f3.params[j]? = some t → args[j]? = some v → Value.okWide Try.prog W .any base t v := hval0
  have hW' := hW
  obtain ⟨pp, qq, hA0, hV, hpq, hfz, hnd⟩ := hW
  have hA : DataW.TrodAll enc Try.prog W 0 (fun _ => true) true Try.f3.params.toList args.toList ds pp := hA0
  clear hA0 hval0
  rw [Try.params3] at hA hval
  rw [Try.params3] at hwt
  obtain ⟨v0, vs0, d0, ds0, p0, q0, hargs, rfl, rfl, h0, r0⟩ := trodAll_cons hA
  obtain ⟨v1, vs1, d1, ds1, p1, q1, rfl, rfl, rfl, h1, r1⟩ := trodAll_cons r0
  obtain ⟨rfl, rfl, rfl⟩ := trodAll_nil r1
  obtain rfl : args = #[v0, v1] := by cases args; simp_all
  obtain ⟨rfl, _⟩ := trodVars_nil hV
  obtain ⟨sv_c, mv_c, c, rfl, w_c⟩ := arg_cellf (hval 0 _ v0 rfl rfl) h0 (light_of_each hwt (j := 0) rfl rfl)
  obtain ⟨live, w_live, f_live⟩ := arg_intsf (hval 1 _ v1 rfl rfl) h1 (light_of_each hwt (j := 1) rfl rfl)
  exact law_calls Try.laidOut rfl (by kernel_rfl) Try.underlying4 (by kernel_rfl) hW' rfl (weakCleans_any sv_c mv_c v1 c live w_c.2.2.1 W w_c.1 w_c.2.1 w_live)

theorem weakCleans_holds : Rows.WeakCleansSaid :=
  OpenClaim.holds_of_wide 3 Try.f3 rfl rfl rfl rfl rfl rfl rfl ⟨rfl, rfl, rfl, rfl, rfl⟩ rfl rfl rfl rfl rfl (by kernel_rfl) Try.func3 (by kernel_rfl)
    (of_decide_eq_true (by kernel_rfl)) (by unfold Func.isWrapper; first | (rw [if_pos (by decide +kernel)]; kernel_rfl) | (rw [if_neg (by decide +kernel)]; exact ⟨rfl, rfl⟩))
    (fun os started H enc _ => weakCleans_lifted os started H enc)

end Go.Proofs.Ytdikdkllbhanfaa
