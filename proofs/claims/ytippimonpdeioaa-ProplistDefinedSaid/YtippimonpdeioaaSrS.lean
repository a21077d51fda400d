/- Lists of keys compared, as the reference and the law do it. -/
import Derived.Test.YtippimonpdeioaaSrI
namespace Go.Proofs.Ytippimonpdeioaa
set_option linter.all false
open Go.ChangeShapes Go.WideShapes Go.ChangeAt Go.RowKit Go.Sort Go.Deep

theorem wp_world3 {P : Program} {c : Code} {Q : Exit → Act → World → Prop} {a : Act} {w : World} (C : World → Prop) (hC : C w) (h : ∀ w', C w' → c.wp P Q a w') : c.wp P Q a w := h w hC
theorem slk_at {w : World} {b off cap : Nat} {xs : List Val} (h : SlOf w 3 Val.cs (.slice (some ⟨b, off, none⟩) xs.length cap) xs) {i : Nat} (hi : i < xs.length) :
    b < w.heap.size ∧ w.cell? ⟨b, off + i * 3, none⟩ = some (.int .i64 (kAt xs i).k) ∧ w.cell? ⟨b, off + i * 3 + 1, none⟩ = some (.int .i64 (kAt xs i).n) ∧ w.cell? ⟨b, off + i * 3 + 2, none⟩ = some (.string (kAt xs i).s) := by
  obtain ⟨b', o', c', e, _, hb, hx⟩ := h.at_ (by omega)
  simp only [Value.slice.injEq, Option.some.injEq, Addr.mk.injEq, true_and, and_true] at e
  obtain ⟨⟨rfl, rfl⟩, rfl⟩ := e
  have f := fun j u hu => hx i _ (kAt_lt hi) j u hu
  exact ⟨hb, f 0 _ rfl, f 1 _ rfl, f 2 _ rfl⟩

set_option maxRecDepth 100000 in
set_option maxHeartbeats 8000000 in
/-- a list of keys is equal to itself -/
theorem sameKeys_self (u v : Value) (xs : List Val) (hm : xs.length ≤ 3000) (w : World) (ha : SlOf w 3 Val.cs u xs) (hb : SlOf w 3 Val.cs v xs) :
    Calls Try.prog 29 #[u, v] w fun e w' => e = .returned (.bool true) ∧ Below w.heap.size w w' := by
  obtain ⟨A, ca, rfl, _, _⟩ := ha.form
  obtain ⟨B, cb, rfl, _, _⟩ := hb.form
  have HA := Lib.hid ha
  have HB := Lib.hid hb
  clear ha hb
  go_enter Try.func29, Try.ntmps29
  go_wp2
  go_loopw [5] (fun i wr => ∃ k : Nat, i = .int .i64 k ∧ Hid (k ≤ xs.length ∧ Below w.heap.size w wr)) (fun i _ => xs.length - (intOf i).toNat)
  case atStart => exact ⟨0, rfl, Lib.hid ⟨Nat.zero_le _, Below.refl _ _⟩⟩
  case round =>
    obtain ⟨k, rfl, HI⟩ := hrel
    by_cases hlt : k < xs.length
    · have q0 : (k : Int) < (xs.length : Int) := by omega
      have q1 : ¬ (k : Int) < 0 := by omega
      obtain ⟨b1, o1, _, e1, _, _, _⟩ := HA.out.at_ (by omega)
      simp only [Value.slice.injEq] at e1
      obtain ⟨rfl, _, rfl⟩ := e1
      obtain ⟨b2, o2, _, e2, _, _, _⟩ := HB.out.at_ (by omega)
      simp only [Value.slice.injEq] at e2
      obtain ⟨rfl, _, rfl⟩ := e2
      obtain ⟨lx, x0, x1, x2⟩ := slk_at (HA.out.below HI.out.2) hlt
      obtain ⟨ly, y0, y1, y2⟩ := slk_at (HB.out.below HI.out.2) hlt
      have LT := Lib.hid hlt
      clear hlt
      generalize kAt xs k = x at *
      have ez : (Val.mk x.k x.n x.s).eq ⟨x.k, x.n, x.s⟩ = true := Val.eq_self _
      go_upto_region 6 with fail
      (refine wp_region_held_drew (S := (fun Z : World => Z.cell? ⟨b1, o1 + k * 3, none⟩ = some (.int .i64 x.k) ∧ Z.cell? ⟨b1, o1 + k * 3 + 1, none⟩ = some (.int .i64 x.n) ∧ Z.cell? ⟨b1, o1 + k * 3 + 2, none⟩ = some (.string x.s) ∧ Z.cell? ⟨b2, o2 + k * 3, none⟩ = some (.int .i64 x.k) ∧ Z.cell? ⟨b2, o2 + k * 3 + 1, none⟩ = some (.int .i64 x.n) ∧ Z.cell? ⟨b2, o2 + k * 3 + 2, none⟩ = some (.string x.s))) Try.mixed (by (and_intros <;> go_simp)) (fun hS => ?_); (refine wpAnyH_take (i := 0) (v := ?_) rfl (by kernel_rfl) (by kernel_rfl) (by kernel_rfl) (fun _ _ _ h => h) ?_ (by assumption) ?_; rotate_left; (next => (refine Or.inl ⟨by kernel_rfl, ?_⟩; ((intro w hSw; (try dsimp only at hSw); go_simp) <;> with_reducible rfl))); (try simp only [Act.put, List.setIfInBounds_toArray, List.set_cons_zero, List.set_cons_succ])); (refine wpAnyH_take (i := 1) (v := ?_) rfl (by kernel_rfl) (by kernel_rfl) (by kernel_rfl) (fun _ _ _ h => h) ?_ (by assumption) ?_; rotate_left; (next => (refine Or.inl ⟨by kernel_rfl, ?_⟩; ((intro w hSw; (try dsimp only at hSw); go_simp) <;> with_reducible rfl))); (try simp only [Act.put, List.setIfInBounds_toArray, List.set_cons_zero, List.set_cons_succ])); (refine wpAnyH_take (i := 2) (v := ?_) rfl (by kernel_rfl) (by kernel_rfl) (by kernel_rfl) (fun _ _ _ h => h) ?_ (by assumption) ?_; rotate_left; (next => (refine Or.inl ⟨by kernel_rfl, ?_⟩; ((intro w hSw; (try dsimp only at hSw); go_simp) <;> with_reducible rfl))); (try simp only [Act.put, List.setIfInBounds_toArray, List.set_cons_zero, List.set_cons_succ])); (refine wpAnyH_take (i := 3) (v := ?_) rfl (by kernel_rfl) (by kernel_rfl) (by kernel_rfl) (fun _ _ _ h => h) ?_ (by assumption) ?_; rotate_left; (next => (refine Or.inl ⟨by kernel_rfl, ?_⟩; ((intro w hSw; (try dsimp only at hSw); obtain ⟨s0, s1, s2, s3, s4, s5⟩ := hSw; go_simp) <;> with_reducible rfl))); (try simp only [Act.put, List.setIfInBounds_toArray, List.set_cons_zero, List.set_cons_succ])); (refine wpAnyH_take (i := 4) (v := ?_) rfl (by kernel_rfl) (by kernel_rfl) (by kernel_rfl) (fun _ _ _ h => h) ?_ (by assumption) ?_; rotate_left; (next => (refine Or.inl ⟨by kernel_rfl, ?_⟩; ((intro w hSw; (try dsimp only at hSw); go_simp) <;> with_reducible rfl))); (try simp only [Act.put, List.setIfInBounds_toArray, List.set_cons_zero, List.set_cons_succ])); (refine wpAnyH_take (i := 5) (v := ?_) rfl (by kernel_rfl) (by kernel_rfl) (by kernel_rfl) (fun _ _ _ h => h) ?_ (by assumption) ?_; rotate_left; (next => (refine Or.inl ⟨by kernel_rfl, ?_⟩; ((intro w hSw; (try dsimp only at hSw); go_simp) <;> with_reducible rfl))); (try simp only [Act.put, List.setIfInBounds_toArray, List.set_cons_zero, List.set_cons_succ])); (refine wpAnyH_take (i := 6) (v := ?_) rfl (by kernel_rfl) (by kernel_rfl) (by kernel_rfl) (fun _ _ _ h => h) ?_ (by assumption) ?_; rotate_left; (next => (refine Or.inl ⟨by kernel_rfl, ?_⟩; ((intro w hSw; (try dsimp only at hSw); go_simp) <;> with_reducible rfl))); (try simp only [Act.put, List.setIfInBounds_toArray, List.set_cons_zero, List.set_cons_succ])); (refine wpAnyH_take (i := 7) (v := ?_) rfl (by kernel_rfl) (by kernel_rfl) (by kernel_rfl) (fun _ _ _ h => h) ?_ (by assumption) ?_; rotate_left; (next => (refine Or.inl ⟨by kernel_rfl, ?_⟩; ((intro w hSw; (try dsimp only at hSw); obtain ⟨s0, s1, s2, s3, s4, s5⟩ := hSw; go_simp) <;> with_reducible rfl))); (try simp only [Act.put, List.setIfInBounds_toArray, List.set_cons_zero, List.set_cons_succ])); refine wpAnyH_ready (rs := [8]) (by kernel_rfl) (by simp) ?_; refine AllReadyH.cons rfl (fun K hK => ?_) AllReadyH.nil; go_simp; refine hK.out _ _ (by (and_intros <;> go_simp)) (fun hS => ?_); clear hK K; (try simp only [Act.put, List.setIfInBounds_toArray, List.set_cons_zero, List.set_cons_succ]); refine wpAnyH_done (by kernel_rfl) ?_ _)
      go_simp
      go_wp2
      go_roundw
      case rel => exact ⟨k + 1, by go_num, Lib.hid ⟨LT.out, HI.out.2.drew⟩⟩
      case measure => have := LT.out; simp [intOf]; omega
    · have q0 : ¬ (k : Int) < (xs.length : Int) := by omega
      clear hlt
      go_wp2
      go_ret
      exact ⟨rfl, HI.out.2⟩
end Go.Proofs.Ytippimonpdeioaa
