/- Cells: entries of a fixed size, by the reference. -/
import Derived.Test.YtdikdkllbhanfaaCelH
namespace Go.Proofs.Ytdikdkllbhanfaa
set_option linter.all false
open Go.RowKit Go.Sort Go.Deep

theorem entriesB_bad {each : Nat} {l : List Val} {k : Nat} (hk : k < l.length / each) (h : entryB each l k = false) : entriesB each l = false := by
  unfold entriesB
  rw [Bool.and_eq_false_iff]
  exact .inr (List.all_eq_false.2 ⟨k, List.mem_range.2 hk, by simp [h]⟩)

set_option maxRecDepth 100000 in
set_option maxHeartbeats 4000000 in
theorem rentries_any (v : Value) (l : List Val) (each : Nat) (he : each = 2 ∨ each = 4) (w : World) (h : IsV w v l) :
    Calls Try.prog 50 #[v, .int .i64 each] w fun e w' => e = .returned (.bool (entriesB each l)) ∧ Below w.heap.size w w' := by
  obtain ⟨A, cap, rfl, hcap, hm⟩ := h.form
  have H := Lib.hid h
  have HE := Lib.hid he
  have h1 : 2 ≤ each := by omega
  have h4 : each ≤ 4 := by omega
  unfold maxLen at hm
  clear h he
  by_cases hmod : l.length % each = 0
  case neg =>
    have hm1 : ((l.length : Int) % (each : Int) != 0) = true := bne_iff_ne.2 (by omega)
    have HMD := Lib.hid (show entriesB each l = false by simp [entriesB, hmod])
    have e0 : ¬ each = 0 := by omega
    clear hmod
    go_enter Try.func50, Try.ntmps50
    go_wp2
    go_ret
    exact ⟨ret_bool HMD.out.symm, by (repeat (with_reducible first | exact Below.refl _ _ | (refine bl_set ?_ (by first | omega | (simp; done) | (simp; omega)) _) | refine bl_gr ?_ _ | refine bl_al ?_ _ | refine below_setRow ?_ (by first | omega | (simp; done) | (simp; omega)) _ | refine bl_drewN ?_ _ | refine Below.drew ?_ | (refine bl_tr ?_ (by assumption))))⟩
  have hm1 : ((l.length : Int) % (each : Int) != 0) = false := by
    have : ((l.length : Int) % (each : Int)) = 0 := by omega
    simp [this]
  obtain ⟨m, hml⟩ : ∃ m, m = l.length / each := ⟨_, rfl⟩
  have hme : m * each = l.length := by rw [hml]; have := Nat.div_add_mod l.length each; rw [hmod, Nat.mul_comm] at this; omega
  have HMD := Lib.hid (And.intro hmod (And.intro hme hml))
  have e0 : ¬ each = 0 := by omega
  clear hmod hme hml
  go_enter Try.func50, Try.ntmps50
  go_wp2
  go_loopw [5] (fun i wr => ∃ k : Nat, k ≤ m ∧ i = .int .i64 ((k * each : Nat) : Int) ∧ (∀ j, j < k → entryB each l j = true) ∧ Below w.heap.size w wr) (fun i _ => l.length - (intOf i).toNat)
  case atStart => exact ⟨0, by omega, by simp, by omega, Below.refl _ _⟩
  case round =>
    obtain ⟨k, hk, rfl, ha, hB⟩ := hrel
    have HA := Lib.hid ha
    have HB := Lib.hid hB
    clear ha
    by_cases hlt : k < m
    · have hke : k * each + each ≤ l.length := by
        rw [← HMD.out.2.1, ← Nat.succ_mul]
        exact Nat.mul_le_mul_right _ hlt
      have HV := H.out.below hB
      obtain ⟨b, off, rfl⟩ := isV_addr HV (by omega)
      obtain ⟨hb, c00, c01, c02⟩ := HV.v3 (k * each) (by omega)
      obtain ⟨_, c10, c11, c12⟩ := HV.v3 (k * each + 1) (by omega)
      have EB := Lib.hid (entryB_def each l k)
      have EN := Lib.hid (show k < l.length / each by rw [← HMD.out.2.2]; exact hlt)
      have good : entryB each l k = true → ∀ j, j < k + 1 → entryB each l j = true := fun h j hj => by
        by_cases hjk : j = k
        · rw [hjk]; exact h
        · exact HA.out j (by omega)
      have HG := Lib.hid good
      clear good hB
      by_cases h44 : each = 4
      · have e4 : ((each : Int) == 4) = true := beq_iff_eq.2 (by omega)
        have e5 : 4 ≤ each := by omega
        obtain ⟨_, c20, c21, c22⟩ := HV.v3 (k * each + 2) (by omega)
        obtain ⟨_, c30, c31, c32⟩ := HV.v3 (k * each + 3) (by omega)
        generalize vAt l (k * each) = v0 at *
        generalize vAt l (k * each + 1) = v1 at *
        generalize vAt l (k * each + 2) = v2 at *
        generalize vAt l (k * each + 3) = v3 at *
        generalize hq : k * each = q at *
        have HQ := Lib.hid hq
        have q0 : ¬ (q : Int) < 0 := by omega
        have q1 : (q : Int) < l.length := by omega
        clear hq HV h44
        go_wp2_with (first | (go_at_call 48; refine (callGr (none_any _ _ _)).mono ?_; rintro e w' ⟨pp, rfl, rfl⟩) | (go_at_call 49; refine (callGr (num_any _ _ _ _)).mono ?_; rintro e w' ⟨pp, rfl, rfl⟩))
        all_goals first
          | (go_ret
             exact ⟨ret_bool (entriesB_bad EN.out (by rw [EB.out]; simp [*])).symm, bl_gr HB.out _⟩)
          | (go_ret
             exact ⟨ret_bool (entriesB_bad EN.out (by rw [EB.out]; simp [*])).symm, HB.out⟩)
          | (go_roundw
             case rel => exact ⟨k + 1, by omega, by rw [Nat.succ_mul, HQ.out]; go_num, HG.out (by rw [EB.out]; simp [*]), by first | exact HB.out | exact bl_gr HB.out _⟩
             case measure => simp [intOf]; omega)
      · have e4 : ((each : Int) == 4) = false := beq_eq_false_iff_ne.2 (by omega)
        generalize vAt l (k * each) = v0 at *
        generalize vAt l (k * each + 1) = v1 at *
        generalize hq : k * each = q at *
        have HQ := Lib.hid hq
        have q0 : ¬ (q : Int) < 0 := by omega
        have q1 : (q : Int) < l.length := by omega
        clear hq HV h44
        go_wp2
        all_goals first
          | (go_ret
             exact ⟨ret_bool (entriesB_bad EN.out (by rw [EB.out]; simp [*])).symm, bl_gr HB.out _⟩)
          | (go_ret
             exact ⟨ret_bool (entriesB_bad EN.out (by rw [EB.out]; simp [*])).symm, HB.out⟩)
          | (go_roundw
             case rel => exact ⟨k + 1, by omega, by rw [Nat.succ_mul, HQ.out]; go_num, HG.out (by rw [EB.out]; simp [*]), by first | exact HB.out | exact bl_gr HB.out _⟩
             case measure => simp [intOf]; omega)
    · have hkm : k = m := by omega
      have hle : ¬ ((k * each : Nat) : Int) < l.length := by rw [hkm, HMD.out.2.1]; omega
      have HK := Lib.hid hkm
      generalize k * each = q at *
      clear hkm hB
      go_wp2
      go_ret
      refine ⟨ret_bool ?_, HB.out⟩
      symm
      unfold entriesB
      rw [Bool.and_eq_true, List.all_eq_true, ← HMD.out.2.2]
      exact ⟨by simp [HMD.out.1], fun j hj => HA.out j (by have := List.mem_range.1 hj; have := HK.out; omega)⟩
end Go.Proofs.Ytdikdkllbhanfaa
