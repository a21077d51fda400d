/- Walk of the law LiteralBack. -/
import Derived.Test.YtkbbgnmhfkilgaaLitO
namespace Go.Proofs.Ytkbbgnmhfkilgaa
set_option linter.all false
open Go.RowKit Go.Sort

theorem quoteM_size (l : List UInt8) : (quoteM l).length ≤ 4 * l.length + 2 := by
  have := qbs_len l
  simp [quoteM]
  omega
theorem back_read (a s b : ByteArray) (hs : s.size ≤ 500) : readM (a ++ (⟨(quoteM s.data.toList).toArray⟩ : ByteArray) ++ b) (a.size : Int) = ⟨s.data.toList, (a.size : Int) + (((⟨(quoteM s.data.toList).toArray⟩ : ByteArray)).size : Int), false, 0⟩ := by
  have h := read_quoted a.data.toList s.data.toList b.data.toList (by simp; omega)
  have e : strL (a.data.toList ++ (quoteM s.data.toList ++ b.data.toList)) = a ++ (⟨(quoteM s.data.toList).toArray⟩ : ByteArray) ++ b := by
    rw [ByteArray.append_assoc, strL_append, strL_append]
    rfl
  rw [e] at h
  have e2 : (a.data.toList.length : Int) = (a.size : Int) := by simp
  have e3 : (⟨(quoteM s.data.toList).toArray⟩ : ByteArray).size = (quoteM s.data.toList).length := by
    show (quoteM s.data.toList).toArray.size = _
    rw [List.size_toArray]
  rw [e2] at h
  rw [h, Red.mk.injEq]
  refine ⟨rfl, ?_, rfl, rfl⟩
  rw [e3, Int.natCast_add, e2]

set_option maxRecDepth 100000 in
set_option maxHeartbeats 4000000 in
theorem back_w (a s b : ByteArray) (w : World) (ha : a.size ≤ maxLen) (hs : s.size ≤ maxLen) (hb : b.size ≤ maxLen) :
    Calls Try.prog 6 #[.string a, .string s, .string b] w fun e w' => e = .returned (.bool true) ∧ Below w.heap.size w w' := by
  unfold maxLen at ha hs hb
  by_cases h : 500 < a.size ∨ 500 < s.size ∨ 500 < b.size
  · have hg : 500 < a.size ∨ ¬ 500 < a.size ∧ 500 < s.size ∨ ¬ 500 < a.size ∧ ¬ 500 < s.size ∧ 500 < b.size := by omega
    clear h
    rcases hg with h | ⟨h, h2⟩ | ⟨h, h2, h3⟩
    all_goals
      go_enter Try.func6, Try.ntmps6
      go_wp2_with (go_at_call 11; refine (callGr (lives_any _)).mono ?_; rintro e w' ⟨pp, rfl, rfl⟩)
      go_ret
      exact ⟨rfl, by (repeat (with_reducible first | exact Below.refl _ _ | (refine bl_set ?_ (by first | omega | (simp; done) | (simp; omega)) _) | refine bl_gr ?_ _ | refine bl_al ?_ _ | refine below_setRow ?_ (by first | omega | (simp; done) | (simp; omega)) _ | refine bl_drewN ?_ _ | refine Below.drew ?_ | (refine bl_tr ?_ (by assumption))))⟩
  · have a5 : a.size ≤ 500 := by omega
    have s5 : s.size ≤ 500 := by omega
    have b5 : b.size ≤ 500 := by omega
    clear h ha hs hb
    have h1 := fun w => quote_any s w (by omega)
    have hqs := quoteM_size s.data.toList
    have hr := back_read a s b s5
    have hq : (⟨(quoteM s.data.toList).toArray⟩ : ByteArray).size ≤ 2002 := by
      have : (⟨(quoteM s.data.toList).toArray⟩ : ByteArray).size = (quoteM s.data.toList).length := by
        show (quoteM s.data.toList).toArray.size = _
        rw [List.size_toArray]
      have h3 : s.data.toList.length = s.size := by simp
      omega
    generalize (⟨(quoteM s.data.toList).toArray⟩ : ByteArray) = Q at h1 hr hq
    clear hqs
    have h2 := fun w => read_any (a ++ Q ++ b) (a.size : Int) w (by simp; omega)
    rw [hr] at h2
    unfold readV at h2
    have hsa : (⟨s.data.toList.toArray⟩ : ByteArray) = s := by simp
    simp only [hsa] at h2
    have H1 := Lib.hid h1
    have H2 := Lib.hid h2
    clear h1 h2 hsa hr
    have q1 : ¬ 9223372036854775807 < a.size + Q.size := by omega
    have q2 : ¬ 9223372036854775807 < a.size + Q.size + b.size := by omega
    go_enter Try.func6, Try.ntmps6
    go_wp2_with (first | (go_at_call 9; refine (callGr (H1.out _)).mono ?_; rintro e w' ⟨pp, rfl, rfl⟩) | (go_at_call 12; refine (callGr (H2.out _)).mono ?_; rintro e w' ⟨pp, rfl, rfl⟩) | (go_at_call 11; refine (callGr (lives_any _)).mono ?_; rintro e w' ⟨pp, rfl, rfl⟩))
    go_ret
    exact ⟨rfl, by (repeat (with_reducible first | exact Below.refl _ _ | (refine bl_set ?_ (by first | omega | (simp; done) | (simp; omega)) _) | refine bl_gr ?_ _ | refine bl_al ?_ _ | refine below_setRow ?_ (by first | omega | (simp; done) | (simp; omega)) _ | refine bl_drewN ?_ _ | refine Below.drew ?_ | (refine bl_tr ?_ (by assumption))))⟩
end Go.Proofs.Ytkbbgnmhfkilgaa
