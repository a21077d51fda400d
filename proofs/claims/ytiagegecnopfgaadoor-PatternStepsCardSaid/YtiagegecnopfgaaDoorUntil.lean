/- A region that draws its order and stores into cells that it reads: the reads, which every one of these stores waits for, come first. -/
import Derived.Test.YtiagegecnopfgaaDoorGrow
import Derived.OrdersHeld
import Derived.Deep.RegionHeldLaw
namespace Go.Proofs.YtiagegecnopfgaaDoor
set_option linter.all false
open Go.RowKit Go.Sort Go.Deep

/-- none of these has come up yet -/
def noneB (R : List Nat) (l : Array Bool) : Bool := R.all fun r => !(l.getD r true)
theorem noneB_set {R : List Nat} {l : Array Bool} {i : Nat} (hi : i ∉ R) : noneB R (l.setIfInBounds i true) = noneB R l := by
  unfold noneB
  induction R with
  | nil => rfl
  | cons r R ih =>
    have hr : i ≠ r := fun e => hi (by rw [e]; exact List.mem_cons_self ..)
    rw [List.all_cons, List.all_cons, ih (fun h => hi (List.mem_cons_of_mem _ h)), getD_set_ne true hr]
section
variable {P : Program} {md : Region.Mode} {ops : Array Oper} {Q : Exit → Act → World → Prop} {S : World → Prop} {R : List Nat}
/-- Whatever order is picked; S holds as long as none of R has come up. -/
def wpAnyU (P : Program) (md : Region.Mode) (ops : Array Oper) (Q : Exit → Act → World → Prop) (S : World → Prop) (R : List Nat) : Nat → Array Bool → Act → World → Prop
  | 0, listed, a, w => Region.ready md ops listed = [] ∧ Q .normal a w
  | f + 1, listed, a, w => (Region.ready md ops listed = [] → Q .normal a w) ∧
    ∀ i ∈ Region.ready md ops listed, wpOp P ops Q i (fun a' w' => (noneB R (listed.setIfInBounds i true) = true → S w') ∧ wpAnyU P md ops Q S R f (listed.setIfInBounds i true) a' w') a w
theorem wpAny_of_until : ∀ (fuel : Nat) (listed : Array Bool) (a : Act) (w : World), wpAnyU P md ops Q S R fuel listed a w → wpAny P md ops Q fuel listed a w
  | 0, _, _, _, h => h
  | f + 1, _, _, _, h => ⟨h.1, fun i hi => wpOp_mono (fun a' w' h' => wpAny_of_until f _ a' w' h'.2) (h.2 i hi)⟩
/-- An operation that reads, ahead of whatever does not wait for it; S' is what it asks of the world: nothing, or S where all of R wait for it. -/
theorem wpAnyU_first {S' : World → Prop} {i : Nat} {oi : Oper} {v : Value} (hi : ops[i]? = some oi) (hsel : ∀ (j : Nat) (o : Oper) cs b, ops[j]? = some o → o.op ≠ .select cs b) (hiR : i ∉ R)
    (hQ : ∀ c a w, Q (.panic c) (a.put oi.dst v) w → Q (.panic c) a w)
    (hS' : (∀ w, S' w) ∨ (∀ w, S w → S' w) ∧ ∀ r ∈ R, ∀ o, ops[r]? = some o → ∃ e ∈ o.after, Region.binds md e = true ∧ e.on = i) :
    ∀ (fuel : Nat) (listed : Array Bool) (a : Act) (w : World),
      (∀ j oj, ops[j]? = some oj → j ≠ i → listed.getD j true = false → (∀ e ∈ oj.after, Region.binds md e = true → e.on ≠ i) → oi.apart ops oj = true) →
      i ∈ Region.ready md ops listed → YieldsIf P ops S' oi v a → S' w → (noneB R listed = true → S w) → ((∀ w, S' w) ∨ noneB R listed = true) →
      wpAnyU P md ops Q S R fuel (listed.setIfInBounds i true) (a.put oi.dst v) w → wpAnyU P md ops Q S R (fuel + 1) listed a w := by
  intro fuel
  induction fuel with
  | zero =>
    intro listed a w _ hr hy hS hN _ H
    refine ⟨fun h => (by rw [h] at hr; cases hr), fun j hj => ?_⟩
    by_cases hji : j = i
    · subst hji
      exact hy.wpOp hi hS ⟨by rw [noneB_set hiR]; exact hN, H⟩
    · have := ready_mono hj hji
      rw [H.1] at this
      cases this
  | succ fuel ih =>
    intro listed a w hfree hr hy hS hN hD H
    refine ⟨fun h => (by rw [h] at hr; cases hr), fun j hj => ?_⟩
    by_cases hji : j = i
    · subst hji
      exact hy.wpOp hi hS ⟨by rw [noneB_set hiR]; exact hN, H⟩
    · have h1 := H.2 j (ready_mono hj hji)
      obtain ⟨hjun, oj, hoj, hall⟩ := mem_ready.1 hj
      have hnot : ∀ e ∈ oj.after, Region.binds md e = true → e.on ≠ i := fun e he hb heq => by
        have h1 := hall e he hb
        rw [heq, getD_both (mem_ready.1 hr).1] at h1
        cases h1
      have h2 := wpOp_putIf hoj (hfree j oj hoj hji hjun hnot) (fun cs b => hsel i oi cs b hi) (fun cs b => hsel j oj cs b hoj) hQ hy h1
      have hfree' : ∀ k ok, ops[k]? = some ok → k ≠ i → (listed.setIfInBounds j true).getD k true = false →
          (∀ e ∈ ok.after, Region.binds md e = true → e.on ≠ i) → oi.apart ops ok = true := fun k ok hk hki hun hno => by
        refine hfree k ok hk hki ?_ hno
        by_cases hjk : j = k
        · subst hjk; exact hjun
        · rw [getD_set_ne true hjk] at hun; exact hun
      refine wpOp_mono (fun a' w' h3 => ?_) h2
      have e1 : noneB R ((listed.setIfInBounds i true).setIfInBounds j true) = noneB R (listed.setIfInBounds j true) := by
        rw [Array.setIfInBounds_comm _ _ (Ne.symm hji), noneB_set hiR]
      have hN' : noneB R (listed.setIfInBounds j true) = true → S w' := fun h => h3.2.1 (by rw [e1]; exact h)
      have hjR : (∀ w, S' w) ∨ noneB R (listed.setIfInBounds j true) = true := by
        rcases hS' with h | ⟨h, hw⟩
        · exact .inl h
        · rcases hD with hD | hD
          · exact .inl hD
          · refine .inr ?_
            rw [noneB_set (fun hm => ?_)]
            · exact hD
            · obtain ⟨e, he, hb, ho⟩ := hw j hm oj hoj
              exact hnot e he hb ho
      have hS'' : S' w' := by
        rcases hS' with h | ⟨h, _⟩
        · exact h _
        · rcases hjR with h' | h'
          · exact h' _
          · exact h _ (hN' h')
      refine ⟨hN', ih (listed.setIfInBounds j true) a' w' hfree' (ready_mono hr (Ne.symm hji)) h3.1 hS'' hN' hjR ?_⟩
      rw [Array.setIfInBounds_comm _ _ hji]
      exact h3.2.2
/-- all of these wait for i -/
def waitB (md : Region.Mode) (ops : Array Oper) (R : List Nat) (i : Nat) : Bool := R.all fun r => match ops[r]? with | some o => o.after.any fun e => Region.binds md e && e.on == i | none => true
theorem waitB_spec {i : Nat} (h : waitB md ops R i = true) : ∀ r ∈ R, ∀ o, ops[r]? = some o → ∃ e ∈ o.after, Region.binds md e = true ∧ e.on = i := fun r hr o ho => by
  have := List.all_eq_true.1 h r hr
  rw [ho] at this
  obtain ⟨e, he, hb⟩ := Array.any_eq_true'.1 this
  rw [Bool.and_eq_true, beq_iff_eq] at hb
  exact ⟨e, he, hb.1, hb.2⟩
/-- a read of what S holds -/
theorem wpAnyU_take {i : Nat} {oi : Oper} {v : Value} {fuel : Nat} {listed : Array Bool} {a : Act} {w : World} (hi : ops[i]? = some oi)
    (hs : Region.noSelect ops = true) (hf : Region.free md ops listed i = true) (hr : (Region.ready md ops listed).contains i = true) (hR : (waitB md ops R i && noneB R listed && !R.contains i) = true)
    (hQ : ∀ c a w, Q (.panic c) (a.put oi.dst v) w → Q (.panic c) a w) (hy : YieldsIf P ops S oi v a) (hS : S w)
    (h : wpAnyU P md ops Q S R fuel (listed.setIfInBounds i true) (a.put oi.dst v) w) : wpAnyU P md ops Q S R (fuel + 1) listed a w := by
  simp only [Bool.and_eq_true, Bool.not_eq_true', List.contains_eq_mem, decide_eq_false_iff_not] at hR
  exact wpAnyU_first (S' := S) hi (Region.noSelect_spec hs) hR.2 hQ (.inr ⟨fun _ h => h, waitB_spec hR.1.1⟩) fuel listed a w (Region.free_spec hi hf) (by simpa using hr) hy hS (fun _ => hS) (.inr hR.1.2) h
/-- what asks nothing of the world -/
theorem wpAnyU_free {i : Nat} {oi : Oper} {v : Value} {fuel : Nat} {listed : Array Bool} {a : Act} {w : World} (hi : ops[i]? = some oi)
    (hs : Region.noSelect ops = true) (hf : Region.free md ops listed i = true) (hr : (Region.ready md ops listed).contains i = true) (hR : (!R.contains i) = true)
    (hQ : ∀ c a w, Q (.panic c) (a.put oi.dst v) w → Q (.panic c) a w) (hy : YieldsIf P ops (fun _ => True) oi v a) (hS : noneB R listed = true → S w)
    (h : wpAnyU P md ops Q S R fuel (listed.setIfInBounds i true) (a.put oi.dst v) w) : wpAnyU P md ops Q S R (fuel + 1) listed a w := by
  simp only [Bool.not_eq_true', List.contains_eq_mem, decide_eq_false_iff_not] at hR
  exact wpAnyU_first (S' := fun _ => True) hi (Region.noSelect_spec hs) hR hQ (.inl fun _ => trivial) fuel listed a w (Region.free_spec hi hf) (by simpa using hr) hy trivial hS (.inl fun _ => trivial) h
/-- the one that comes up -/
theorem wpAnyU_one {i : Nat} {o : Oper} {fuel : Nat} {listed : Array Bool} {a : Act} {w : World} (hr : Region.ready md ops listed = [i]) (ho : ops[i]? = some o)
    (h : ∀ K : Act → World → Prop, (∀ a' w', (noneB R (listed.setIfInBounds i true) = true → S w') → wpAnyU P md ops Q S R fuel (listed.setIfInBounds i true) a' w' → K a' w') →
      if Region.wanted o (yielded ops a.tmps) = true then Oper.wp P o a w K Q else K (a.put o.dst undef) w) : wpAnyU P md ops Q S R (fuel + 1) listed a w := by
  refine ⟨fun h0 => (by rw [hr] at h0; cases h0), fun j hj => ?_⟩
  rw [hr] at hj
  obtain rfl := List.mem_singleton.1 hj
  have := h _ (fun a' w' h1 h2 => And.intro h1 h2)
  unfold wpOp
  simp only [ho]
  split
  · rename_i hw
    rw [if_pos hw] at this
    exact .inl this
  · rename_i hw
    rw [if_neg hw] at this
    exact this
theorem wpAnyU_done {listed : Array Bool} {a : Act} {w : World} (hr : Region.ready md ops listed = []) (h : Q .normal a w) :
    ∀ fuel, wpAnyU P md ops Q S R fuel listed a w
  | 0 => ⟨hr, h⟩
  | _ + 1 => ⟨fun _ => h, by rw [hr]; simp⟩
theorem wp_region_until {id : Nat} {a : Act} {w : World} (S : World → Prop) (R : List Nat) (hm : P.follows .mixedOrders = true) (hS : S w.drew)
    (h : S w.drew → wpAnyU P .any ops Q S R ops.size (Array.replicate ops.size false) a w.drew) : (Code.region id ops true).wp P Q a w :=
  wp_region_any hm (wpAny_of_until _ _ _ _ (h hS))
end
end Go.Proofs.YtiagegecnopfgaaDoor
