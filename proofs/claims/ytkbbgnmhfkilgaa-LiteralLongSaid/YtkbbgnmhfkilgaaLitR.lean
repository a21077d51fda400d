/- Walk of the law LiteralLong. -/
import Derived.Test.YtkbbgnmhfkilgaaLitQ
import Derived.ChangeMaps5
import Derived.Laws.MakeOwn
import Derived.Laws.Rows
namespace Go.Proofs.Ytkbbgnmhfkilgaa
set_option linter.all false
open Go.RowKit Go.Sort

/-- what make lays -/
def bigRow : Array Value := madeCells #[.int .u8 0] (65537 * 1)
theorem bigRow_size : bigRow.size = 65537 := by rw [bigRow, size_madeCells]
theorem make_big (w : World) : (Instr.makeSlice 32 (.int .i64 65537) (.int .i64 65537)).run Try.prog w = .ok (.slice (some ⟨w.heap.size, 0, none⟩) 65537 65537) (w.alloc (.cells bigRow 5)) := by
  obtain ⟨i0, hi, hz0, hz1, hz2⟩ := info_parts info_u8
  have := run_make (P := Try.prog) w 32 5 i0 _ Try.underlying32 hi hz0 .i64 .i64 65537 65537 (by omega) (Int.le_refl _) (by rw [hz2]; omega) (by omega)
  rw [hz1] at this
  exact this
/-- block g: a row of 65537 bytes, the first k of them c -/
def Row (w : World) (g k : Nat) (c : UInt8) : Prop := ∃ cur : Array Value, w.heap[g]? = some (.cells cur 5 (0, 0)) ∧ cur.size = 65537 ∧ ∀ j, j < k → cur[j]? = some (.int .u8 (c.toNat : Int))
theorem Row.start (w : World) (c : UInt8) : Row (w.alloc (.cells bigRow 5)) w.heap.size 0 c := ⟨bigRow, heap_alloc_new w _, bigRow_size, fun j h => absurd h (Nat.not_lt_zero j)⟩
theorem Row.at_ {w : World} {g k : Nat} {c : UInt8} (h : Row w g k c) (j : Nat) (hj : j < 65537) : ∃ v, w.cell? ⟨g, j, none⟩ = some v := by
  obtain ⟨cur, h1, h2, _⟩ := h
  exact ⟨cur[j], by rw [Lib.cell_of_heap h1, Array.getElem?_eq_getElem (by omega)]⟩
theorem Row.free {w : World} {g k : Nat} {c : UInt8} (h : Row w g k c) (j : Nat) : w.frozen? ⟨g, j, none⟩ = false := by
  obtain ⟨cur, h1, _⟩ := h
  exact Lib.frozen_of_heap h1 j
theorem Row.next {w : World} {g k : Nat} {c : UInt8} (h : Row w g k c) (hk : k < 65537) : Row (w.setCell ⟨g, k, none⟩ (.int .u8 (c.toNat : Int))) g (k + 1) c := by
  obtain ⟨cur, h1, h2, h3⟩ := h
  refine ⟨_, heap_setCell_same w g k cur _ _ h1, by simpa using h2, fun j hj => ?_⟩
  by_cases e : k = j
  · subst e
    simp [h2, hk]
  · rw [Array.getElem?_setIfInBounds_ne e]
    exact h3 j (by omega)
theorem Row.below {w w' : World} {g k : Nat} {c : UInt8} (h : Row w g k c) (hb : Below w.heap.size w w') : Row w' g k c := by
  obtain ⟨cur, h1, h2, h3⟩ := h
  exact ⟨cur, by rw [hb.block g (Array.getElem?_eq_some_iff.1 h1).1]; exact h1, h2, h3⟩
theorem Row.str {w : World} {g : Nat} {c : UInt8} (h : Row w g 65537 c) (n : Nat) (hn : n ≤ 65537) : (convert 32 9 (.slice (some ⟨g, 0, none⟩) n 65537)).run Try.prog w = .ok (.string (strL (List.replicate n c))) w := by
  obtain ⟨cur, h1, h2, h3⟩ := h
  have := run_convert_bytes_back w 32 9 5 ⟨g, 0, none⟩ 65537 (List.replicate n c) Try.underlying32 Try.underlying5 Try.underlying9 (fun j hj => by
    rw [List.length_replicate] at hj
    rw [List.getElem_replicate]
    have e : (Addr.mk g 0 none).add j = ⟨g, j, none⟩ := by
      unfold Addr.add
      split
      · rename_i h
        subst h
        rfl
      · simp
    rw [e, Lib.cell_of_heap h1]
    exact h3 j (by omega))
  rw [List.length_replicate] at this
  exact this
/-- Quote, then Read, of n bytes c. -/
theorem quote_rep (n : Nat) (c : UInt8) (hn : n ≤ 65537) : ∃ Q : ByteArray, Q.size ≤ 1000000 ∧ (∀ w, Calls Try.prog 9 #[.string (strL (List.replicate n c))] w fun e w' => e = .returned (.string Q) ∧ Below w.heap.size w w') ∧ Q = strL (quoteM (List.replicate n c)) := by
  refine ⟨strL (quoteM (List.replicate n c)), ?_, fun w => ?_, rfl⟩
  · have := quoteM_size (List.replicate n c)
    rw [List.length_replicate] at this
    rw [strL_size]
    omega
  · exact quote_any (strL (List.replicate n c)) w (by rw [strL_size, List.length_replicate]; omega)

set_option maxRecDepth 100000 in
set_option maxHeartbeats 4000000 in
theorem long_w (c : UInt8) (w : World) : Calls Try.prog 7 #[.int .u8 (c.toNat : Int)] w fun e w' => e = .returned (.bool true) ∧ Below w.heap.size w w' := by
  obtain ⟨Q1, hq1, h1, e1⟩ := quote_rep 65536 c (by omega)
  obtain ⟨Q2, hq2, h2, e2⟩ := quote_rep 65537 c (by omega)
  have r1 : readM Q1 0 = ⟨List.replicate 65536 c, ((quoteM (List.replicate 65536 c)).length : Nat), false, 0⟩ := by
    rw [e1]
    have := read_quoted [] (List.replicate 65536 c) [] (by rw [List.length_replicate]; omega)
    simp only [List.nil_append, List.append_nil, List.length_nil, Nat.zero_add] at this
    exact this
  have r2 : readM Q2 0 = redE 9 := by
    rw [e2]
    exact read_quoted_long _ (by rw [List.length_replicate]; omega)
  have k1 := fun w => read_any Q1 0 w (by omega)
  have k2 := fun w => read_any Q2 0 w (by omega)
  rw [r1] at k1
  rw [r2] at k2
  clear e1 e2 r1 r2
  unfold readV at k1 k2
  simp only at k1 k2
  obtain ⟨S1, hS1⟩ : ∃ S : ByteArray, (⟨(List.replicate 65536 c).toArray⟩ : ByteArray) = S := ⟨_, rfl⟩
  obtain ⟨S2, hS2⟩ : ∃ S : ByteArray, strL (List.replicate 65537 c) = S := ⟨_, rfl⟩
  have hS1' : strL (List.replicate 65536 c) = S1 := hS1
  have hs1 : S1.size = 65536 := by rw [← hS1', strL_size, List.length_replicate]
  rw [hS1] at k1
  rw [hS1'] at h1
  rw [hS2] at h2
  generalize (((quoteM (List.replicate 65536 c)).length : Nat) : Int) = N at k1
  have H1 := Lib.hid h1
  have H2 := Lib.hid h2
  have K1 := Lib.hid k1
  have K2 := Lib.hid k2
  have E1 := Lib.hid hS1'
  have E2 := Lib.hid hS2
  clear h1 h2 k1 k2 hS1 hS1' hS2 hq1 hq2
  have hlen : ((S1.size : Int) == 65536) = true := by rw [hs1]; rfl
  have hmk := make_big
  go_enter Try.func7, Try.ntmps7
  go_wp2_with fail
  clear hmk
  have R0 := Lib.hid (Row.start w c)
  have B0 := Lib.hid (bl_al (Below.refl _ w) (.cells bigRow 5))
  generalize hw0 : w.alloc (.cells bigRow 5) = w0 at *
  clear hw0
  go_loopw [4] (fun i wr => ∃ k : Nat, k ≤ 65537 ∧ i = .int .i64 (k : Int) ∧ Row wr w.heap.size k c ∧ Below w.heap.size w wr) (fun i _ => 65537 - (intOf i).toNat)
  case atStart => exact ⟨0, Nat.zero_le _, rfl, R0.out, B0.out⟩
  case round =>
    obtain ⟨k, hk, rfl, hr, hb⟩ := hrel
    have RW := Lib.hid hr
    have HB := Lib.hid hb
    clear hr hb R0 B0
    by_cases hlt : k < 65537
    · obtain ⟨v, hv⟩ := RW.out.at_ k hlt
      have hf := RW.out.free k
      have RN := Lib.hid (RW.out.next hlt)
      have BN := Lib.hid (HB.out.setCell (p := ⟨w.heap.size, k, none⟩) (Nat.le_refl _) (.int .u8 (c.toNat : Int)))
      have HK := Lib.hid hlt
      have hkd : decide ((k : Int) < 65537) = true := by simp; omega
      have hkd' : (k : Int) < 65537 := by omega
      clear hlt hk
      go_wp2_with fail
      go_roundw
      case rel => exact ⟨k + 1, HK.out, by go_num, RN.out, BN.out⟩
      case measure => have := HK.out; simp [intOf]; omega
    · obtain rfl : k = 65537 := by omega
      clear hlt hk
      have hc1 : ∀ p, (convert 32 9 (.slice (some ⟨w.heap.size, 0, none⟩) 65536 65537)).run Try.prog (gr wr p) = .ok (.string S1) (gr wr p) := fun p => by
        rw [← E1.out]
        exact (RW.out.below (below_gr wr p)).str 65536 (by omega)
      have hc2 : ∀ p, (convert 32 9 (.slice (some ⟨w.heap.size, 0, none⟩) 65537 65537)).run Try.prog (gr wr p) = .ok (.string S2) (gr wr p) := fun p => by
        rw [← E2.out]
        exact (RW.out.below (below_gr wr p)).str 65537 (by omega)
      have hc0 : (convert 32 9 (.slice (some ⟨w.heap.size, 0, none⟩) 65536 65537)).run Try.prog wr = .ok (.string S1) wr := by
        rw [← E1.out]
        exact RW.out.str 65536 (by omega)
      go_wp2_with (first | (go_at_call_of 9 (Value.string S1); refine (callGr (H1.out _)).mono ?_; rintro e w' ⟨pp, rfl, rfl⟩) | (go_at_call_of 9 (Value.string S2); refine (callGr (H2.out _)).mono ?_; rintro e w' ⟨pp, rfl, rfl⟩) | (go_at_call_of 12 (Value.string Q1); refine (callGr (K1.out _)).mono ?_; rintro e w' ⟨pp, rfl, rfl⟩) | (go_at_call_of 12 (Value.string Q2); refine (callGr (K2.out _)).mono ?_; rintro e w' ⟨pp, rfl, rfl⟩) | (go_at_call 11; refine (callGr (lives_any _)).mono ?_; rintro e w' ⟨pp, rfl, rfl⟩))
      go_ret
      exact ⟨rfl, bl_tr HB.out (by (repeat (with_reducible first | exact Below.refl _ _ | (refine bl_set ?_ (by first | omega | (simp; done) | (simp; omega)) _) | refine bl_gr ?_ _ | refine bl_al ?_ _ | refine below_setRow ?_ (by first | omega | (simp; done) | (simp; omega)) _ | refine bl_drewN ?_ _ | refine Below.drew ?_ | (refine bl_tr ?_ (by assumption)))))⟩
end Go.Proofs.Ytkbbgnmhfkilgaa
