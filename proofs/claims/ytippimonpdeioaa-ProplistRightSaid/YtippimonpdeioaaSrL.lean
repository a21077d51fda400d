/- The reference's sort, walked. -/
import Derived.Test.YtippimonpdeioaaSrK
namespace Go.Proofs.Ytippimonpdeioaa
set_option linter.all false
open Go.ChangeShapes Go.WideShapes Go.ChangeAt Go.RowKit Go.Sort Go.Deep

def SortedC (xs : List Val) : Prop := ∀ (v : Value) (w : World), SlOf w 3 Val.cs v xs → Calls Try.prog 60 #[v] w fun e w' => ∃ u, e = .returned u ∧ ∃ L, StS xs L ∧ SlOf w' 3 Val.cs u L ∧ Below w.heap.size w w'
theorem half_facts {n cp : Nat} (h2 : 2 ≤ n) (hc : n ≤ cp) (hm : n ≤ 3000) : ∃ h : Nat, h = n / 2 ∧ wrap64 ((n : Int) / 2) = (h : Int) ∧ (h : Int) ≤ (cp : Int) ∧ (h : Int) ≤ (n : Int) ∧ ¬ (h : Int) < 0 ∧ ¬ cp = 0 ∧ ¬ cp = h ∧ 0 < h ∧ h ≤ n ∧ 0 < n - h ∧ h + (n - h) ≤ 3000 ∧ ¬ (n : Int) < 2 :=
  ⟨n / 2, rfl, w64 (by omega) (by omega), by omega, by omega, by omega, by omega, by omega, by omega, by omega, by omega, by omega, by omega⟩
theorem so_short {xs : List Val} (h : xs.length < 2) : SoK xs := by
  match xs, h with
  | [], _ => exact List.Pairwise.nil
  | [x], _ => exact List.pairwise_singleton _ _

set_option maxRecDepth 100000 in
set_option maxHeartbeats 8000000 in
theorem sorted_step (xs : List Val) (hz : ∀ x ∈ xs, x.k = 0) (hm : xs.length ≤ 3000) (h1 : 2 ≤ xs.length → SortedC (xs.take (xs.length / 2))) (h2 : 2 ≤ xs.length → SortedC (xs.drop (xs.length / 2))) : SortedC xs := by
  intro v w hv
  by_cases hlt : xs.length < 2
  · obtain ⟨A, cp, rfl, _, _⟩ := hv.form
    have H := Lib.hid hv
    have q0 : (xs.length : Int) < 2 := by omega
    have S0 := Lib.hid (StS.self (so_short hlt))
    clear hv hlt h1 h2
    go_enter Try.func60, Try.ntmps60
    go_wp2
    go_ret
    exact ⟨_, rfl, xs, S0.out, H.out, Below.refl _ _⟩
  · obtain ⟨b, off, cp, rfl, hc, hb, _⟩ := hv.at_ (by omega)
    obtain ⟨h, hh, q1, q2, q3, q4, q5, hcp, p1, p2, p3, p4, q0⟩ := half_facts (Nat.le_of_not_lt hlt) hc hm
    obtain ⟨n, hn⟩ : ∃ n, n = xs.length := ⟨_, rfl⟩
    rw [← hn] at hh q0 q1 q3 p2 p3 p4
    have IA := Lib.hid (h1 (Nat.le_of_not_lt hlt))
    have IB := Lib.hid (h2 (Nat.le_of_not_lt hlt))
    have SA := Lib.hid (show ∀ Z, Below w.heap.size w Z → SlOf Z 3 Val.cs (.slice (some ⟨b, off, none⟩) h cp) (xs.take h) from fun Z hZ => by
      have := sl_cut (hv.below hZ) 0 h (Nat.zero_le _) (by rw [← hn]; exact p2)
      simpa [add_off] using this)
    have SB := Lib.hid (show ∀ Z, Below w.heap.size w Z → SlOf Z 3 Val.cs (.slice (some ⟨b, off + h * 3, none⟩) (n - h) (cp - h)) (xs.drop h) from fun Z hZ => by
      have := sl_cut (hv.below hZ) h xs.length (by rw [← hn]; exact p2) (Nat.le_refl _)
      rw [List.take_length, if_neg hcp, ← hn] at this
      simpa [add_off] using this)
    have LN := Lib.hid (show (xs.take h).length = h ∧ (xs.drop h).length = n - h ∧ 0 < h ∧ 0 < n - h ∧ h + (n - h) ≤ 3000 from ⟨by rw [List.length_take, ← hn]; exact Nat.min_eq_left p2, by rw [List.length_drop, ← hn], p1, p3, p4⟩)
    have ZZ := Lib.hid (show (∀ x ∈ xs.take h, x.k = 0) ∧ ∀ x ∈ xs.drop h, x.k = 0 from ⟨fun x hx => hz x (List.mem_of_mem_take hx), fun x hx => hz x (List.mem_of_mem_drop hx)⟩)
    have FIN := Lib.hid (show ∀ L1 L2 L, StS (xs.take h) L1 → StS (xs.drop h) L2 → StS (L1 ++ L2) L → StS xs L from fun L1 L2 L a1 a2 a3 => by
      have := a1.pre a2 a3
      rwa [List.take_append_drop] at this)
    rw [← hn, ← hh] at IA IB
    rw [← hn]
    clear hn hh hc hb hlt h1 h2 hm hz hv p1 p2 p3 p4
    go_enter Try.func60, Try.ntmps60
    go_upto_region 4 with fail
    go_simp
    (refine wp_region_held_drew (S := (fun Z : World => Below w.heap.size w Z)) Try.mixed (by exact (Below.refl _ _).drew) (fun hS => ?_); (refine wpAnyH_take (i := 0) (v := ?_) rfl (by kernel_rfl) (by kernel_rfl) (by kernel_rfl) (fun _ _ _ h => h) ?_ (by assumption) ?_; rotate_left; (next => (refine Or.inl ⟨by kernel_rfl, ?_⟩; ((intro w hSw; (try dsimp only at hSw); go_simp) <;> with_reducible rfl))); (try simp only [Act.put, List.setIfInBounds_toArray, List.set_cons_zero, List.set_cons_succ])); (refine wpAnyH_take (i := 1) (v := ?_) rfl (by kernel_rfl) (by kernel_rfl) (by kernel_rfl) (fun _ _ _ h => h) ?_ (by assumption) ?_; rotate_left; (next => (refine Or.inl ⟨by kernel_rfl, ?_⟩; ((intro w hSw; (try dsimp only at hSw); go_simp) <;> with_reducible rfl))); (try simp only [Act.put, List.setIfInBounds_toArray, List.set_cons_zero, List.set_cons_succ])); (refine wpAnyH_take (i := 2) (v := ?_) rfl (by kernel_rfl) (by kernel_rfl) (by kernel_rfl) (fun _ _ _ h => h) ?_ (by assumption) ?_; rotate_left; (next => (refine Or.inl ⟨by kernel_rfl, ?_⟩; ((intro w hSw; (try dsimp only at hSw); go_simp) <;> with_reducible rfl))); (try simp only [Act.put, List.setIfInBounds_toArray, List.set_cons_zero, List.set_cons_succ])); (refine wpAnyH_take (i := 4) (v := ?_) rfl (by kernel_rfl) (by kernel_rfl) (by kernel_rfl) (fun _ _ _ h => h) ?_ (by assumption) ?_; rotate_left; (next => (refine Or.inl ⟨by kernel_rfl, ?_⟩; ((intro w hSw; (try dsimp only at hSw); go_simp) <;> with_reducible rfl))); (try simp only [Act.put, List.setIfInBounds_toArray, List.set_cons_zero, List.set_cons_succ])); (refine wpAnyH_take (i := 5) (v := ?_) rfl (by kernel_rfl) (by kernel_rfl) (by kernel_rfl) (fun _ _ _ h => h) ?_ (by assumption) ?_; rotate_left; (next => (refine Or.inl ⟨by kernel_rfl, ?_⟩; ((intro w hSw; (try dsimp only at hSw); go_simp) <;> with_reducible rfl))); (try simp only [Act.put, List.setIfInBounds_toArray, List.set_cons_zero, List.set_cons_succ])); (refine wpAnyH_take (i := 6) (v := ?_) rfl (by kernel_rfl) (by kernel_rfl) (by kernel_rfl) (fun _ _ _ h => h) ?_ (by assumption) ?_; rotate_left; (next => (refine Or.inl ⟨by kernel_rfl, ?_⟩; ((intro w hSw; (try dsimp only at hSw); go_simp) <;> with_reducible rfl))); (try simp only [Act.put, List.setIfInBounds_toArray, List.set_cons_zero, List.set_cons_succ])); refine wpAnyH_ready (rs := [3]) (by kernel_rfl) (by simp) ?_; refine AllReadyH.cons rfl (fun K hK => ?_) AllReadyH.nil; go_simp; ((go_at_call 60; refine (IA.out _ _ (SA.out _ hS)).mono ?_; rintro e w1 ⟨u1, rfl, L1, k1, k2, k3⟩; obtain ⟨b1, o1, c1, rfl, _, _, _⟩ := k2.at_ (by rw [k1.2.len, LN.out.1]; exact LN.out.2.2.1); have R1 := Lib.hid (And.intro k1 (And.intro k2 k3)); clear k1 k2 k3)); refine hK.out _ _ (by exact bl_tr hS R1.out.2.2) (fun hS => ?_); clear hK K; (try simp only [Act.put, List.setIfInBounds_toArray, List.set_cons_zero, List.set_cons_succ]); refine wpAnyH_ready (rs := [7]) (by kernel_rfl) (by simp) ?_; refine AllReadyH.cons rfl (fun K hK => ?_) AllReadyH.nil; go_simp; ((go_at_call 60; refine (IB.out _ _ (SB.out _ hS)).mono ?_; rintro e w2 ⟨u2, rfl, L2, k1, k2, k3⟩; obtain ⟨b2, o2, c2, rfl, _, _, _⟩ := k2.at_ (by rw [k1.2.len, LN.out.2.1]; exact LN.out.2.2.2.1); have R2 := Lib.hid (And.intro k1 (And.intro k2 k3)); clear k1 k2 k3)); refine hK.out _ _ (by exact bl_tr hS R2.out.2.2) (fun hS => ?_); clear hK K; (try simp only [Act.put, List.setIfInBounds_toArray, List.set_cons_zero, List.set_cons_succ]); refine wpAnyH_ready (rs := [8]) (by kernel_rfl) (by simp) ?_; refine AllReadyH.cons rfl (fun K hK => ?_) AllReadyH.nil; go_simp; ((go_at_call 69; refine (merged_any w2 b1 o1 c1 b2 o2 c2 L1 L2 R1.out.1.1 R2.out.1.1 (fun x hx => ZZ.out.1 x ((R1.out.1.2.mem x).1 hx)) (fun x hx => ZZ.out.2 x ((R2.out.1.2.mem x).1 hx)) (by rw [R1.out.1.2.len, R2.out.1.2.len, LN.out.1, LN.out.2.1]; exact LN.out.2.2.2.2) (R1.out.2.1.below R2.out.2.2) R2.out.2.1).mono ?_; rintro e w3 ⟨u3, rfl, L3, k1, k2, k3⟩; have R3 := Lib.hid (And.intro k1 (And.intro k2 k3)); clear k1 k2 k3)); refine hK.out _ _ (by exact bl_tr hS R3.out.2.2) (fun hS => ?_); clear hK K; (try simp only [Act.put, List.setIfInBounds_toArray, List.set_cons_zero, List.set_cons_succ]); (refine wpAnyH_take (i := 9) (v := ?_) rfl (by kernel_rfl) (by kernel_rfl) (by kernel_rfl) (fun _ _ _ h => h) ?_ (by assumption) ?_; rotate_left; (next => (refine Or.inl ⟨by kernel_rfl, ?_⟩; ((intro w hSw; (try dsimp only at hSw); go_simp) <;> with_reducible rfl))); (try simp only [Act.put, List.setIfInBounds_toArray, List.set_cons_zero, List.set_cons_succ])); refine wpAnyH_done (by kernel_rfl) ?_ _)
    go_simp
    go_wp2
    go_ret
    exact ⟨_, rfl, L3, FIN.out L1 L2 L3 R1.out.1 R2.out.1 R3.out.1, ownsRow_slOf cs_len R3.out.2.1, hS⟩
theorem sorted_any : ∀ (d : Nat) (xs : List Val), xs.length ≤ d → (∀ x ∈ xs, x.k = 0) → xs.length ≤ 3000 → SortedC xs
  | 0, xs, hd, hz, hm => sorted_step xs hz hm (fun h => by omega) (fun h => by omega)
  | d + 1, xs, hd, hz, hm => sorted_step xs hz hm (fun h => sorted_any d _ (by rw [List.length_take]; omega) (fun x hx => hz x (List.mem_of_mem_take hx)) (by rw [List.length_take]; omega)) (fun h => sorted_any d _ (by rw [List.length_drop]; omega) (fun x hx => hz x (List.mem_of_mem_drop hx)) (by rw [List.length_drop]; omega))
end Go.Proofs.Ytippimonpdeioaa
