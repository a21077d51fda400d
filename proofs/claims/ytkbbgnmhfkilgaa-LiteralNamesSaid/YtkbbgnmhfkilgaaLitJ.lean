/- Walks: Quote of package literal and of its reference. -/
import Derived.Test.YtkbbgnmhfkilgaaLitI
namespace Go.Proofs.Ytkbbgnmhfkilgaa
set_option linter.all false
open Go.RowKit Go.Sort

theorem qbs_snoc (l : List UInt8) (c : UInt8) : qbs (l ++ [c]) = qbs l ++ qb c := by simp [qbs]
theorem qb_len (c : UInt8) : (qb c).length ≤ 4 := by unfold qb; repeat' split
                                                     all_goals simp
theorem qbs_len : ∀ l : List UInt8, (qbs l).length ≤ 4 * l.length
  | [] => by simp [qbs]
  | c :: l => by
    have h1 := qbs_len l
    have h2 := qb_len c
    simp only [qbs, List.flatMap_cons, List.length_append, List.length_cons] at *
    omega
theorem take_snoc (s : ByteArray) (k : Nat) (h : k < s.size) : s.data.toList.take (k + 1) = s.data.toList.take k ++ [s[k]] := by
  rw [List.take_succ_eq_append_getElem (by simpa using h)]; rfl

theorem bld_fresh (w : World) : Bld w.heap.size w.heap.size [] (w.alloc (.cells #[.pointer none, .slice none 0 0] 39)) :=
  .inl ⟨Nat.le_refl _, .slice none 0 0, heap_alloc_new w _, World.ownsRow_nil _ _ _ _, by simp [Value.ownBlock]⟩

set_option maxRecDepth 100000 in
set_option maxHeartbeats 4000000 in
theorem quote_any (s : ByteArray) (w : World) (hs : s.size ≤ 20000000) :
    Calls Try.prog 9 #[.string s] w fun e w' => e = .returned (.string ⟨(quoteM s.data.toList).toArray⟩) ∧ Below w.heap.size w w' := by
  go_enter Try.func9, Try.ntmps9
  go_upto_region 3 with (go_at_call 22; go_must (refine (writeByte_any w.heap.size w.heap.size [] 34 _ (bld_fresh w) (by simp) (by simp)).mono ?_); rintro e w1 ⟨rfl, h1, hb1⟩)
  have HB1 := Lib.hid ((bl_al (Below.refl _ w) (.cells #[.pointer none, .slice none 0 0] 39)).trans hb1)
  clear hb1
  have H1 := Lib.hid h1
  clear h1
  go_wp2_with fail
  go_loopw [8] (fun i wr => ∃ k : Nat, k ≤ s.size ∧ i = .int .i64 (k : Int) ∧ Bld w.heap.size w.heap.size (34 :: qbs (s.data.toList.take k)) wr ∧ Below w.heap.size w wr) (fun i _ => s.size - (intOf i).toNat)
  case atStart => exact ⟨0, Nat.zero_le _, rfl, by simpa [qbs] using H1.out, HB1.out⟩
  case round =>
    obtain ⟨k, hk, rfl, h2, hb2⟩ := hrel
    have H2 := Lib.hid h2
    have HB2 := Lib.hid hb2
    clear h2 hb2
    have hql := qbs_len (s.data.toList.take k)
    have hqt : (s.data.toList.take k).length ≤ k := List.length_take_le _ _
    by_cases hlt : k < s.size
    · have hc := quoted_any w.heap.size w.heap.size (34 :: qbs (s.data.toList.take k)) s[k] wr H2.out (by simp; omega) HB2.out.size
      have HC := Lib.hid hc
      clear hc
      go_wp2_with (go_at_call 23; refine HC.out.mono ?_; rintro e w3 ⟨rfl, h3, hb3⟩)
      go_roundw
      case rel => exact ⟨k + 1, by omega, by go_num, by rw [take_snoc s k hlt, qbs_snoc]; exact h3, HB2.out.trans hb3⟩
      case measure => simp [intOf]; omega
    · obtain rfl : k = s.size := by omega
      have hw := writeByte_any w.heap.size w.heap.size (34 :: qbs (s.data.toList.take s.size)) 34 wr H2.out (by simp; omega) HB2.out.size
      have HW := Lib.hid hw
      clear hw
      go_wp2_with (go_at_call 22; refine HW.out.mono ?_; rintro e w3 ⟨rfl, h3, hb3⟩)
      have HS := Lib.hid (Try.Builder_String_any w.heap.size w.heap.size _ w3 h3 (HB2.out.trans hb3).size)
      have HB3 := Lib.hid (HB2.out.trans hb3)
      clear h3 hb3
      go_wp2_with (go_at_call 24; refine HS.out.mono ?_; rintro e w4 ⟨rfl, hb4⟩)
      go_ret
      refine ⟨?_, HB3.out.trans hb4⟩
      rw [List.take_of_length_le (by simp)]
      rfl
end Go.Proofs.Ytkbbgnmhfkilgaa
