/- The statement KeyOrder on package key, as a tied card. There is no condition beyond the given statement. -/
import Derived.Test.YtaebjgjocldldaaDoorKoA
import Derived.ChangeMaps5
import Derived.Lay
import Derived.LaidOnce
import Derived.SevenTiedAt
import Derived.Lib.LaidU8
import Derived.Test.YtaebjgjocldldaaDoorTie
import Derived.Test.YtaebjgjocldldaaDoorCards
namespace Go.Proofs.YtaebjgjocldldaaDoor
set_option linter.all false
open Go.ChangeShapes Go.WideShapes Go.ChangeAt Go.RowKit

section
variable {H : Type} {enc : TypeId × Value → H} {w : World} {base : Nat} {spare : Nat → Bool} {held : Bool}
theorem arg_key {v : Value} {d : DataW H} {p : List MemPlace} {r : Reach} {b0 : Nat} (hv : Value.okWide Tryd.prog w r b0 25 v) (h : DataW.Trod enc Tryd.prog w base spare held 25 v d p) :
    ∃ x : Val, v = x.agg ∧ x.ok := by
  obtain ⟨cs, n, rfl, hn⟩ := trod_agg Tryd.underlying25 hv h
  obtain ⟨x, rfl, hx⟩ := open_key hn
  exact ⟨x, rfl, hx⟩
theorem arg_one {T E : TypeId} {v : Value} {d : DataW H} {p : List MemPlace} {r : Reach} {b0 : Nat} (hs : Tryd.prog.underlying T = some (.slice E)) (hv : Value.okWide Tryd.prog w r b0 T v)
    (h : DataW.Trod enc Tryd.prog w base spare held T v d p) : ∃ n : Nat, DataW.trod enc Tryd.prog w base spare held n T [v] = some (d, p) := by
  obtain ⟨a, len, cap, rfl⟩ := okWide_slice hs hv
  obtain ⟨n, hn⟩ := h
  exact ⟨n, by simpa [Value.cells] using hn⟩
theorem arg_keys {v : Value} {d : DataW H} {p : List MemPlace} {r : Reach} {b0 : Nat} (hv : Value.okWide Tryd.prog w r b0 35 v) (h : DataW.Trod enc Tryd.prog w base spare held 35 v d p) :
    ∃ l : List Val, SlOf w 3 Val.cs v l ∧ ∀ x ∈ l, x.ok := by
  obtain ⟨n, hn⟩ := arg_one Tryd.underlying35 hv h
  obtain ⟨v', l, e, h1, h2⟩ := open_sl (α := Val) (en := Val.cs) (ok := Val.ok) Tryd.underlying35 (n := 3) (by kernel_rfl) (by omega) (fun _ _ _ h => open_key h) hn
  simp only [List.cons.injEq, and_true] at e
  subst e
  exact ⟨l, h1, h2⟩
end
theorem tab_of_laid {W : World} (h : laidMet Tryd.prog Rows.keyOrderRow.laid W) : Tab W := by
  obtain ⟨g, t, cs, fuel, q, hg, ht, hvar, hd⟩ := Lib.laidMet.reads h (.tail _ (.tail _ (.head _)))
  obtain rfl := Option.some.inj ((show Tryd.prog.globalNamed "internal/strconv.uint64pow10" = some 0 by kernel_rfl).symm.trans hg)
  obtain rfl := Option.some.inj ((show (Tryd.prog.globals[0]?).map (·.type) = some 69 by kernel_rfl).symm.trans ht)
  unfold Tab Lib.TabIs
  rw [hvar, ← Lib.cells_of_tab (zs := Lib.pow10Tab) Tryd.underlying69 Tryd.underlying40 (by kernel_rfl) (by kernel_rfl) hd]
set_option maxRecDepth 100000 in
theorem keyOrder_lifted (os : Os) (started : os.Started) (H : Type) (enc : TypeId × Value → H) :
    ReturnsInHanded {} Tryd.checked os 5 .any (fun w args => (Rows.keyOrderSpec.pre enc Tryd.prog Tryd.f5 [] false w args ∧ laidMetH Tryd.prog Rows.keyOrderRow.laid w) ∧ sizedMet enc Tryd.prog Tryd.f5 (OpenSpec.ofChange Rows.keyOrderSpec) false w args)
      (Rows.keyOrderSpec.post enc Tryd.prog Tryd.f5 false true false false) := by
  refine returnsInHanded_of_change_and (C := Tryd.checked) (X := fun w _ => laidMetH Tryd.prog Rows.keyOrderRow.laid w) (fun _ _ _ hh h => h.of_heap hh) Tryd.own started (by kernel_rfl) Tryd.func5
    (ChangeSpec.witness_shaped (enc := enc) (C := Tryd.checked) (os := os) (X := fun w _ => laidMetH Tryd.prog Rows.keyOrderRow.laid w) false (World.laidAll Tryd.prog os Rows.keyOrderRow.laid) #[.slice none 0 0, Val.zero.agg, Val.zero.agg] 8 (World.laidAll_os _ _ _)
      (World.shaped_of_ZipB (by kernel_rfl) (by kernel_rfl)) (by kernel_rfl) (by kernel_rfl) (by kernel_rfl)
      (by rw [MakeChecks.laidMetH_plain _ _ _ (by kernel_rfl)]; exact laidMet_laidAll _ (by kernel_rfl) (by kernel_rfl))) ?_
  intro W base args ds gs before hval0 hW _ _ hL0 _
  have hval : ∀ (j : Nat) t v, Tryd.f5.params[j]? = some t → args[j]? = some v → Value.okWide Tryd.prog W .any base t v := hval0
  have hW' := hW
  obtain ⟨pp, qq, hA0, hV, hpq, hfz, hnd⟩ := hW
  have hA : DataW.TrodAll enc Tryd.prog W 0 (fun _ => true) true Tryd.f5.params.toList args.toList ds pp := hA0
  clear hA0 hval0
  have hL : laidMet Tryd.prog Rows.keyOrderRow.laid W := by
    rw [MakeChecks.laidMetH_plain _ _ _ (by kernel_rfl)] at hL0
    exact hL0
  clear hL0
  rw [Tryd.params5] at hA hval
  obtain ⟨v0, vs0, d0, ds0, p0, q0, hargs, rfl, rfl, h0, r0⟩ := trodAll_cons hA
  obtain ⟨v1, vs1, d1, ds1, p1, q1, rfl, rfl, rfl, h1, r1⟩ := trodAll_cons r0
  obtain ⟨v2, vs2, d2, ds2, p2, q2, rfl, rfl, rfl, h2, r2⟩ := trodAll_cons r1
  obtain ⟨rfl, rfl, rfl⟩ := trodAll_nil r2
  obtain rfl : args = #[v0, v1, v2] := by cases args; simp_all
  obtain ⟨rfl, _⟩ := trodVars_nil hV
  obtain ⟨l, w_l, f_l⟩ := arg_keys (hval 0 _ v0 rfl rfl) h0
  obtain ⟨a, rfl, w_a⟩ := arg_key (hval 1 _ v1 rfl rfl) h1
  obtain ⟨b, rfl, w_b⟩ := arg_key (hval 2 _ v2 rfl rfl) h2
  exact law_calls Tryd.laidOut rfl (by kernel_rfl) Tryd.underlying4 (by kernel_rfl) hW' rfl (keyOrder_w v0 l a b (fun x hx => (f_l x hx).2.2) w_a w_b W (tab_of_laid hL) w_l)

theorem keyOrder_row : Rows.keyOrderRow.holds Tryd.pinned (OpenSpec.ofChange Rows.keyOrderSpec) :=
  OpenClaim.holds_of_wide 5 Tryd.f5 rfl rfl rfl rfl rfl rfl rfl ⟨rfl, rfl, rfl, rfl, rfl⟩ rfl rfl rfl rfl rfl (by kernel_rfl) Tryd.func5 (by kernel_rfl)
    (of_decide_eq_true (by kernel_rfl)) (by unfold Func.isWrapper; first | (rw [if_pos (by decide +kernel)]; kernel_rfl) | (rw [if_neg (by decide +kernel)]; exact ⟨rfl, rfl⟩))
    (fun os started H enc _ => keyOrder_lifted os started H enc)

theorem keyOrder_holds : Rows.KeyOrderCardSaid :=
  Claim7.holds_tied_plain_at .later [] [.data, .data, .data] true (true, "c5ecffb0f2aeea0c02d8fcd69c53fb54f0898194c29d3b5b95be51140a487b82") false keyOrder_row (fun _ h => by cases h) (by kernel_rfl) (fun _ h => by cases h) keyOrder_row_tie rfl ⟨rfl, rfl⟩ (by kernel_rfl) rfl
    (fun f fn hf hfn => by
      obtain rfl : f = 5 := Option.some.inj ((show Tryd.prog.funcNamed Rows.keyOrderRow.func = some 5 by kernel_rfl).symm.trans hf) |>.symm
      obtain rfl : fn = Tryd.f5 := (Option.some.inj (Tryd.func5.symm.trans hfn)).symm
      exact ⟨by kernel_rfl, fun j t ht => by
        rw [Tryd.params5] at ht
        have hm : t ∈ [35, 25] := by simpa using Array.mem_of_getElem? ht
        have hall : ([35, 25].all fun u => !Tryd.prog.wantsStandIn u) = true := by kernel_rfl
        exact (show Tryd.prog.wantsStandIn t = false by simpa using List.all_eq_true.1 hall t hm)⟩)
    (by kernel_rfl)

end Go.Proofs.YtaebjgjocldldaaDoor
