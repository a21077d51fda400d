/- ProplistDefined holds in its full form: for every input. -/
import Derived.Test.YtippimonpdeioaaPmZa
import Derived.Test.YtippimonpdeioaaPmH
namespace Go.Proofs.Ytippimonpdeioaa
set_option linter.all false
open Go.ChangeShapes Go.WideShapes Go.ChangeAt Go.RowKit

theorem defined_w (v : Value) (xs : List Prp) (k : Val) (n : Int) (hk : k.ok) (hok : ∀ x ∈ xs, x.ok) (w : World) (hv : IsP w v xs) :
    Calls Try.prog 4 #[v, k.agg, .int .i64 n] w fun e w' => e = .returned (.bool true) ∧ Below w.heap.size w w' := by
  obtain ⟨A, cp, rfl, _, _⟩ := hv.form
  by_cases hl : xs.length ≤ 150
  · cases hr : rightL xs
    · exact defined_no A cp xs k n hk.2.2 hok w hv (.inr (.inl hr))
    · cases hk2 : keyM k
      · exact defined_no A cp xs k n hk.2.2 hok w hv (.inr (.inr hk2))
      · exact defined_yes A cp xs k n hk.2.2 hok w hv hl hr hk2
  · exact defined_no A cp xs k n hk.2.2 hok w hv (.inl hl)
set_option maxRecDepth 100000 in
theorem proplistDefined_lifted (os : Os) (started : os.Started) (H : Type) (enc : TypeId × Value → H) :
    ReturnsInHanded {} Try.checked os 4 .any (Rows.proplistDefinedSpec.pre6 enc Try.prog Try.f4 Rows.proplistDefinedRow.domain false) (Rows.proplistDefinedSpec.post enc Try.prog Try.f4 false true false false) := by
  refine returnsInHanded_of_change (C := Try.checked) Try.own started (by kernel_rfl) Try.func4 (ChangeSpec.witness6 (enc := enc) (C := Try.checked) false ⟨#[], #[.slice none 0 0, Val.zero.agg, .int .i64 0], []⟩ 8 (by kernel_rfl) (by kernel_rfl) (by kernel_rfl) (by kernel_rfl)) ?_
  intro W base args ds gs before hval0 hW hcnd _
  have hval : ∀ (j : Nat) t v, Try.f4.params[j]? = some t → args[j]? = some v → Value.okWide Try.prog W .any base t v := hval0
  have hW' := hW
  obtain ⟨pp, qq, hA0, hV, hpq, hfz, hnd⟩ := hW
  have hA : DataW.TrodAll enc Try.prog W 0 (fun _ => true) true Try.f4.params.toList args.toList ds pp := hA0
  clear hA0 hval0
  rw [Try.params4] at hA hval
  obtain ⟨v0, vs0, d0, ds0, p0, q0, hargs, rfl, rfl, h0, r0⟩ := trodAll_cons hA
  obtain ⟨v1, vs1, d1, ds1, p1, q1, rfl, rfl, rfl, h1, r1⟩ := trodAll_cons r0
  obtain ⟨v2, vs2, d2, ds2, p2, q2, rfl, rfl, rfl, h2, r2⟩ := trodAll_cons r1
  obtain ⟨rfl, rfl, rfl⟩ := trodAll_nil r2
  obtain rfl : args = #[v0, v1, v2] := by cases args; simp_all
  obtain ⟨rfl, _⟩ := trodVars_nil hV
  obtain ⟨l, w_l, f_l⟩ := arg_props (hval 0 _ v0 rfl rfl) h0
  obtain ⟨k, rfl, w_k⟩ := arg_key (hval 1 _ v1 rfl rfl) h1
  obtain ⟨n, rfl, _, _, w_n⟩ := open_int Try.underlying3 (hval 2 _ v2 rfl rfl) h2
  exact law_calls Try.laidOut rfl (by kernel_rfl) Try.underlying4 (by kernel_rfl) hW' rfl (defined_w v0 l k n w_k f_l W w_l)

theorem proplistDefined_holds : Rows.ProplistDefinedSaid :=
  OpenClaim.holds_of_wide 4 Try.f4 rfl rfl rfl rfl rfl rfl rfl ⟨rfl, rfl, rfl, rfl, rfl⟩ rfl rfl rfl rfl rfl (by kernel_rfl) Try.func4 (by kernel_rfl)
    (of_decide_eq_true (by kernel_rfl)) (by unfold Func.isWrapper; first | (rw [if_pos (by decide +kernel)]; kernel_rfl) | (rw [if_neg (by decide +kernel)]; exact ⟨rfl, rfl⟩))
    (fun os started H enc _ => proplistDefined_lifted os started H enc)

end Go.Proofs.Ytippimonpdeioaa
