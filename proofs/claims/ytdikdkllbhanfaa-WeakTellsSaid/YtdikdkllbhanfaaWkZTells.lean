/- WeakTells holds in its full form: for every cell, key and value. -/
import Derived.Test.YtdikdkllbhanfaaWkY
import Derived.Test.YtdikdkllbhanfaaCelAG
namespace Go.Proofs.Ytdikdkllbhanfaa
set_option linter.all false
open Go.ChangeShapes Go.WideShapes Go.ChangeAt Go.RowKit

set_option maxRecDepth 100000 in
theorem weakTells_lifted (os : Os) (started : os.Started) (H : Type) (enc : TypeId × Value → H) :
    ReturnsInHanded {} Try.checked os 4 .any (Rows.weakTellsSpec.pre6 enc Try.prog Try.f4 Rows.weakTellsRow.domain false) (Rows.weakTellsSpec.post enc Try.prog Try.f4 false true false false) := by
  refine returnsInHanded_of_change_sized (C := Try.checked) Try.own started (by kernel_rfl) Try.func4 (ChangeSpec.witness6 (enc := enc) (C := Try.checked) false ⟨#[], #[cellV 0 0 0 0 (.slice none 0 0) (.slice none 0 0), Val.zero.agg, Val.zero.agg], []⟩ 8 (by kernel_rfl) (by kernel_rfl) (by kernel_rfl) (by kernel_rfl)) ?_
  intro W base args ds gs before hval0 hW hcnd hwt _
  have hval : ∀ (j : Nat) t v, Try.f4.params[j]? = some t → args[j]? = some v → Value.okWide Try.prog W .any base t v := hval0
  have hW' := hW
  obtain ⟨pp, qq, hA0, hV, hpq, hfz, hnd⟩ := hW
  have hA : DataW.TrodAll enc Try.prog W 0 (fun _ => true) true Try.f4.params.toList args.toList ds pp := hA0
  clear hA0 hval0
  rw [Try.params4] at hA hval
  rw [Try.params4] at hwt
  obtain ⟨v0, vs0, d0, ds0, p0, q0, hargs, rfl, rfl, h0, r0⟩ := trodAll_cons hA
  obtain ⟨v1, vs1, d1, ds1, p1, q1, rfl, rfl, rfl, h1, r1⟩ := trodAll_cons r0
  obtain ⟨v2, vs2, d2, ds2, p2, q2, rfl, rfl, rfl, h2, r2⟩ := trodAll_cons r1
  obtain ⟨rfl, rfl, rfl⟩ := trodAll_nil r2
  obtain rfl : args = #[v0, v1, v2] := by cases args; simp_all
  obtain ⟨rfl, _⟩ := trodVars_nil hV
  obtain ⟨sv_c, mv_c, c, rfl, w_c⟩ := arg_cellf (hval 0 _ v0 rfl rfl) h0 (light_of_each hwt (j := 0) rfl rfl)
  obtain ⟨key, rfl, w_key⟩ := arg_val (hval 1 _ v1 rfl rfl) h1
  obtain ⟨v, rfl, w_v⟩ := arg_val (hval 2 _ v2 rfl rfl) h2
  exact law_calls Try.laidOut rfl (by kernel_rfl) Try.underlying4 (by kernel_rfl) hW' rfl (weakTells_any sv_c mv_c c key v w_c.2.2.1 w_key w_v W w_c.1 w_c.2.1)

theorem weakTells_holds : Rows.WeakTellsSaid :=
  OpenClaim.holds_of_wide 4 Try.f4 rfl rfl rfl rfl rfl rfl rfl ⟨rfl, rfl, rfl, rfl, rfl⟩ rfl rfl rfl rfl rfl (by kernel_rfl) Try.func4 (by kernel_rfl)
    (of_decide_eq_true (by kernel_rfl)) (by unfold Func.isWrapper; first | (rw [if_pos (by decide +kernel)]; kernel_rfl) | (rw [if_neg (by decide +kernel)]; exact ⟨rfl, rfl⟩))
    (fun os started H enc _ => weakTells_lifted os started H enc)

end Go.Proofs.Ytdikdkllbhanfaa
