/- Walks: quoted and Quote of package literal. -/
import Derived.Test.YtkbbgnmhfkilgaaLitH
import Derived.Test.YtkbbgnmhfkilgaaLitG
namespace Go.Proofs.Ytkbbgnmhfkilgaa
set_option linter.all false
open Go.RowKit Go.Sort

theorem u8_eq (c d : UInt8) : ((c.toNat : Int) == (d.toNat : Int)) = (c == d) := by
  rw [Bool.eq_iff_iff, beq_iff_eq, beq_iff_eq, ← UInt8.toNat_inj]
  omega
theorem u8_ne (c d : UInt8) (h : c ≠ d) : ((c.toNat : Int) == (d.toNat : Int)) = false := by rw [u8_eq]; simpa using h
abbrev hexes : ByteArray := ⟨#[48, 49, 50, 51, 52, 53, 54, 55, 56, 57, 97, 98, 99, 100, 101, 102]⟩
theorem hexAt (k : Nat) (h : k < hexes.size) : hexes[k] = hexB k := by
  have : ∀ k : Fin 16, hexes[k.val]'(k.isLt) = hexB k.val := by decide +kernel
  exact this ⟨k, h⟩
set_option maxRecDepth 100000 in
set_option maxHeartbeats 4000000 in
theorem quoted_hex (B b : Nat) (l : List UInt8) (c : UInt8) (w : World) (h : Bld B b l w) (hlen : l.length ≤ 100000000) (hBw : B ≤ w.heap.size) (hc : c < 32 ∨ 126 < c) (h10 : c ≠ 10) (h9 : c ≠ 9) (h13 : c ≠ 13) (h0 : c ≠ 0) :
    Calls Try.prog 23 #[.pointer (some ⟨b, 0, none⟩), .int .u8 (c.toNat : Int)] w fun e w' => e = .returned (.tuple #[]) ∧ Bld B b (l ++ qb c) w' ∧ Below B w w' := by
  have c0 : ((c.toNat : Int) == 10) = false := u8_ne c 10 h10
  have c1 : ((c.toNat : Int) == 9) = false := u8_ne c 9 h9
  have c2 : ((c.toNat : Int) == 13) = false := u8_ne c 13 h13
  have c3 : ((c.toNat : Int) == 0) = false := u8_ne c 0 h0
  have hc' : c.toNat < 32 ∨ 126 < c.toNat := hc.imp (fun h => by simpa using UInt8.lt_iff_toNat_lt.1 h) (fun h => by simpa using UInt8.lt_iff_toNat_lt.1 h)
  have c4 : ((c.toNat : Int) == 34) = false := by rw [beq_eq_false_iff_ne]; omega
  have c5 : ((c.toNat : Int) == 92) = false := by rw [beq_eq_false_iff_ne]; omega
  have HQ := Lib.hid (show qb c = [92, 120, hexB (c.toNat / 16), hexB (c.toNat % 16)] by
    unfold qb
    rw [if_neg h10, if_neg h9, if_neg h13, if_neg h0, if_neg (by rintro (rfl | rfl) <;> simp at c4 c5), if_pos hc])
  clear h10 h9 h13 h0 hc
  have hlt := c.toNat_lt
  have hd : (c.toNat : Int) < 32 ∨ 32 ≤ (c.toNat : Int) ∧ 126 < (c.toNat : Int) := by omega
  clear hc'
  rcases hd with d1 | ⟨d1, d2⟩
  all_goals
    go_enter Try.func23, Try.ntmps23
    go_upto_region 14 with (go_at_call 33; refine (writeString_any B b l ⟨#[92, 120]⟩ _ h (by omega) (by decide) hBw).mono ?_; rintro e w1 ⟨rfl, h1, hb1⟩)
    have l1 : (l ++ (ByteArray.mk #[92, 120]).data.toList).length ≤ 1000000000 := by simp; omega
    have HB1 := Lib.hid hb1
    clear hb1
    go_upto_region 15 with (go_at_call 22; refine (writeByte_any B b _ _ _ h1 l1 (Nat.le_trans hBw HB1.out.size)).mono ?_; rintro e w2 ⟨rfl, h2, hb2⟩)
    have HB2 := Lib.hid (HB1.out.trans hb2)
    clear hb2
    rw [List.append_assoc] at h2
    have p1 : c.toNat / 16 < hexes.size := by show _ < 16; omega
    have l2 : (l ++ ((ByteArray.mk #[92, 120]).data.toList ++ [hexes[c.toNat / 16]])).length ≤ 1000000000 := by simp; omega
    go_wp2_with (go_at_call 22; refine (writeByte_any B b _ _ _ h2 l2 (Nat.le_trans hBw HB2.out.size)).mono ?_; rintro e w3 ⟨rfl, h3, hb3⟩)
    go_end0
    refine ⟨rfl, ?_, HB2.out.trans hb3⟩
    rw [hexAt, hexAt, List.append_assoc] at h3
    rw [HQ.out]
    exact h3

theorem qb_of (c d : UInt8) (h : c = d) : qb c = qb d := by rw [h]
set_option maxRecDepth 100000 in
set_option maxHeartbeats 4000000 in
theorem quoted_esc (B b : Nat) (l : List UInt8) (c : UInt8) (w : World) (h : Bld B b l w) (hlen : l.length ≤ 100000000) (hBw : B ≤ w.heap.size) (hc : c = 10 ∨ c = 9 ∨ c = 13 ∨ c = 0) :
    Calls Try.prog 23 #[.pointer (some ⟨b, 0, none⟩), .int .u8 (c.toNat : Int)] w fun e w' => e = .returned (.tuple #[]) ∧ Bld B b (l ++ qb c) w' ∧ Below B w w' := by
  rcases hc with rfl | rfl | rfl | rfl
  · rw [show (((10 : UInt8).toNat : Nat) : Int) = 10 from rfl]
    go_enter Try.func23, Try.ntmps23
    go_wp2_with (go_at_call 33; refine (writeString_any B b l ⟨#[92, 110]⟩ _ h (by omega) (by decide) hBw).mono ?_; rintro e w1 ⟨rfl, h1, hb1⟩)
    go_end0
    exact ⟨rfl, h1, hb1⟩
  · rw [show (((9 : UInt8).toNat : Nat) : Int) = 9 from rfl]
    go_enter Try.func23, Try.ntmps23
    go_wp2_with (go_at_call 33; refine (writeString_any B b l ⟨#[92, 116]⟩ _ h (by omega) (by decide) hBw).mono ?_; rintro e w1 ⟨rfl, h1, hb1⟩)
    go_end0
    exact ⟨rfl, h1, hb1⟩
  · rw [show (((13 : UInt8).toNat : Nat) : Int) = 13 from rfl]
    go_enter Try.func23, Try.ntmps23
    go_wp2_with (go_at_call 33; refine (writeString_any B b l ⟨#[92, 114]⟩ _ h (by omega) (by decide) hBw).mono ?_; rintro e w1 ⟨rfl, h1, hb1⟩)
    go_end0
    exact ⟨rfl, h1, hb1⟩
  · rw [show (((0 : UInt8).toNat : Nat) : Int) = 0 from rfl]
    go_enter Try.func23, Try.ntmps23
    go_wp2_with (go_at_call 33; refine (writeString_any B b l ⟨#[92, 48]⟩ _ h (by omega) (by decide) hBw).mono ?_; rintro e w1 ⟨rfl, h1, hb1⟩)
    go_end0
    exact ⟨rfl, h1, hb1⟩

set_option maxRecDepth 100000 in
set_option maxHeartbeats 4000000 in
theorem quoted_back (B b : Nat) (l : List UInt8) (c : UInt8) (w : World) (h : Bld B b l w) (hlen : l.length ≤ 100000000) (hBw : B ≤ w.heap.size) (hc : c = 34 ∨ c = 92) :
    Calls Try.prog 23 #[.pointer (some ⟨b, 0, none⟩), .int .u8 (c.toNat : Int)] w fun e w' => e = .returned (.tuple #[]) ∧ Bld B b (l ++ qb c) w' ∧ Below B w w' := by
  have HQ := Lib.hid (show qb c = [92, c] by rcases hc with rfl | rfl <;> rfl)
  have c0 : ((c.toNat : Int) == 10) = false := u8_ne c 10 (by rcases hc with rfl | rfl <;> decide)
  have c1 : ((c.toNat : Int) == 9) = false := u8_ne c 9 (by rcases hc with rfl | rfl <;> decide)
  have c2 : ((c.toNat : Int) == 13) = false := u8_ne c 13 (by rcases hc with rfl | rfl <;> decide)
  have c3 : ((c.toNat : Int) == 0) = false := u8_ne c 0 (by rcases hc with rfl | rfl <;> decide)
  have hd : ((c.toNat : Int) == 34) = true ∨ ((c.toNat : Int) == 34) = false ∧ ((c.toNat : Int) == 92) = true := by rcases hc with rfl | rfl <;> decide
  clear hc
  rcases hd with d1 | ⟨d1, d2⟩
  all_goals
    go_enter Try.func23, Try.ntmps23
    go_upto_region 11 with (go_at_call 22; refine (writeByte_any B b l 92 _ h (by omega) hBw).mono ?_; rintro e w1 ⟨rfl, h1, hb1⟩)
    have l1 : (l ++ [(92 : UInt8)]).length ≤ 1000000000 := by simp; omega
    have HB1 := Lib.hid hb1
    clear hb1
    go_wp2_with (go_at_call 22; refine (writeByte_any B b _ c _ h1 l1 (Nat.le_trans hBw HB1.out.size)).mono ?_; rintro e w2 ⟨rfl, h2, hb2⟩)
    go_end0
    refine ⟨rfl, ?_, HB1.out.trans hb2⟩
    rw [List.append_assoc] at h2
    rw [HQ.out]
    exact h2

set_option maxRecDepth 100000 in
set_option maxHeartbeats 4000000 in
theorem quoted_plain (B b : Nat) (l : List UInt8) (c : UInt8) (w : World) (h : Bld B b l w) (hlen : l.length ≤ 100000000) (hBw : B ≤ w.heap.size) (h10 : c ≠ 10) (h9 : c ≠ 9) (h13 : c ≠ 13) (h0 : c ≠ 0) (h34 : c ≠ 34) (h92 : c ≠ 92) (hc : ¬ (c < 32 ∨ 126 < c)) :
    Calls Try.prog 23 #[.pointer (some ⟨b, 0, none⟩), .int .u8 (c.toNat : Int)] w fun e w' => e = .returned (.tuple #[]) ∧ Bld B b (l ++ qb c) w' ∧ Below B w w' := by
  have HQ := Lib.hid (show qb c = [c] by
    unfold qb
    rw [if_neg h10, if_neg h9, if_neg h13, if_neg h0, if_neg (by rintro (h | h); exact h34 h; exact h92 h), if_neg hc])
  have c0 : ((c.toNat : Int) == 10) = false := u8_ne c 10 h10
  have c1 : ((c.toNat : Int) == 9) = false := u8_ne c 9 h9
  have c2 : ((c.toNat : Int) == 13) = false := u8_ne c 13 h13
  have c3 : ((c.toNat : Int) == 0) = false := u8_ne c 0 h0
  have c4 : ((c.toNat : Int) == 34) = false := u8_ne c 34 h34
  have c5 : ((c.toNat : Int) == 92) = false := u8_ne c 92 h92
  have hc' : ¬ (c.toNat < 32 ∨ 126 < c.toNat) := fun h => hc (h.imp (fun h => UInt8.lt_iff_toNat_lt.2 (by simpa using h)) (fun h => UInt8.lt_iff_toNat_lt.2 (by simpa using h)))
  have d1 : 32 ≤ (c.toNat : Int) := by omega
  have d2 : (c.toNat : Int) ≤ 126 := by omega
  clear hc hc' h10 h9 h13 h0 h34 h92
  go_enter Try.func23, Try.ntmps23
  go_wp2_with (go_at_call 22; refine (writeByte_any B b _ c _ h (by omega) hBw).mono ?_; rintro e w2 ⟨rfl, h2, hb2⟩)
  go_end0
  refine ⟨rfl, ?_, hb2⟩
  rw [HQ.out]
  exact h2

theorem quoted_any (B b : Nat) (l : List UInt8) (c : UInt8) (w : World) (h : Bld B b l w) (hlen : l.length ≤ 100000000) (hBw : B ≤ w.heap.size) :
    Calls Try.prog 23 #[.pointer (some ⟨b, 0, none⟩), .int .u8 (c.toNat : Int)] w fun e w' => e = .returned (.tuple #[]) ∧ Bld B b (l ++ qb c) w' ∧ Below B w w' := by
  by_cases h1 : c = 10 ∨ c = 9 ∨ c = 13 ∨ c = 0
  · exact quoted_esc B b l c w h hlen hBw h1
  by_cases h2 : c = 34 ∨ c = 92
  · exact quoted_back B b l c w h hlen hBw h2
  by_cases h3 : c < 32 ∨ 126 < c
  · exact quoted_hex B b l c w h hlen hBw h3 (fun h => h1 (.inl h)) (fun h => h1 (.inr (.inl h))) (fun h => h1 (.inr (.inr (.inl h)))) (fun h => h1 (.inr (.inr (.inr h))))
  · exact quoted_plain B b l c w h hlen hBw (fun h => h1 (.inl h)) (fun h => h1 (.inr (.inl h))) (fun h => h1 (.inr (.inr (.inl h)))) (fun h => h1 (.inr (.inr (.inr h)))) (fun h => h2 (.inl h)) (fun h => h2 (.inr h)) h3
end Go.Proofs.Ytkbbgnmhfkilgaa
