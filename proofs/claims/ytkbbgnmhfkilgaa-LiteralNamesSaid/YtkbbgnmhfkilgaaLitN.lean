/- Walks of the laws of package literal: the examples; LiteralQuotes, LiteralReads, LiteralPieces. -/
import Derived.Test.YtkbbgnmhfkilgaaLitM
namespace Go.Proofs.Ytkbbgnmhfkilgaa
set_option linter.all false
open Go.RowKit Go.Sort

theorem ex_read : readM ⟨#[39, 97, 92, 120, 52, 49, 39]⟩ 0 = ⟨[97, 65], 7, false, 0⟩ := by decide +kernel
theorem ex_piece : pieceM ⟨#[96, 97, 36, 123, 98]⟩ 0 = ⟨[97], 4, true, 0⟩ := by decide +kernel
theorem ex_quote : quoteM (ByteArray.mk #[97, 10, 34]).data.toList = [34, 97, 92, 110, 92, 34, 34] := by decide +kernel
theorem read_ex (w : World) : Calls Try.prog 12 #[.string ⟨#[39, 97, 92, 120, 52, 49, 39]⟩, .int .i64 0] w fun e w' => e = .returned (.tuple #[.string ⟨#[97, 65]⟩, .int .i64 7, .int .i64 0]) ∧ Below w.heap.size w w' := by
  have h := read_any ⟨#[39, 97, 92, 120, 52, 49, 39]⟩ 0 w (by decide)
  rw [ex_read] at h
  exact h
theorem piece_ex (w : World) : Calls Try.prog 14 #[.string ⟨#[96, 97, 36, 123, 98]⟩, .int .i64 0] w fun e w' => e = .returned (.tuple #[.string ⟨#[97]⟩, .int .i64 4, .bool true, .int .i64 0]) ∧ Below w.heap.size w w' := by
  have h := piece_any ⟨#[96, 97, 36, 123, 98]⟩ 0 w (by decide)
  rw [ex_piece] at h
  exact h
theorem quote_ex (w : World) : Calls Try.prog 9 #[.string ⟨#[97, 10, 34]⟩] w fun e w' => e = .returned (.string ⟨#[34, 97, 92, 110, 92, 34, 34]⟩) ∧ Below w.heap.size w w' := by
  have h := quote_any ⟨#[97, 10, 34]⟩ w (by decide)
  rw [ex_quote] at h
  exact h

set_option maxRecDepth 100000 in
set_option maxHeartbeats 4000000 in
theorem lives_any (w : World) : Calls Try.prog 11 #[] w fun e w' => e = .returned (.bool true) ∧ Below w.heap.size w w' := by
  go_enter Try.func11, Try.ntmps11
  go_wp2_with (first | (go_at_call 12; refine (callGr (read_ex _)).mono ?_; rintro e w' ⟨pp, rfl, rfl⟩) | (go_at_call 14; refine (callGr (piece_ex _)).mono ?_; rintro e w' ⟨pp, rfl, rfl⟩) | (go_at_call 9; refine (callGr (quote_ex _)).mono ?_; rintro e w' ⟨pp, rfl, rfl⟩))
  go_ret
  exact ⟨rfl, by (repeat (with_reducible first | exact Below.refl _ _ | (refine bl_set ?_ (by first | omega | (simp; done) | (simp; omega)) _) | refine bl_gr ?_ _ | refine bl_al ?_ _ | refine below_setRow ?_ (by first | omega | (simp; done) | (simp; omega)) _ | refine bl_drewN ?_ _ | refine Below.drew ?_ | (refine bl_tr ?_ (by assumption))))⟩

theorem cut_size (s : ByteArray) : (s.extract 0 2000).size ≤ 2000 := by simp; omega

set_option maxRecDepth 100000 in
set_option maxHeartbeats 4000000 in
theorem quotes_w (s : ByteArray) (w : World) (hs : s.size ≤ maxLen) :
    Calls Try.prog 3 #[.string s] w fun e w' => e = .returned (.bool true) ∧ Below w.heap.size w w' := by
  unfold maxLen at hs
  by_cases hl : 2000 < s.size
  · have hc := cut_size s
    have h1 := fun w => quote_any (s.extract 0 2000) w (by omega)
    have h2 := fun w => rquote_any (s.extract 0 2000) w (by omega)
    unfold strL at h2
    generalize (⟨(quoteM (s.extract 0 2000).data.toList).toArray⟩ : ByteArray) = R at h1 h2
    have H1 := Lib.hid h1
    have H2 := Lib.hid h2
    clear h1 h2
    go_enter Try.func3, Try.ntmps3
    go_wp2_with (first | (go_at_call 9; refine (callGr (H1.out _)).mono ?_; rintro e w' ⟨pp, rfl, rfl⟩) | (go_at_call 10; refine (callGr (H2.out _)).mono ?_; rintro e w' ⟨pp, rfl, rfl⟩) | (go_at_call 11; refine (callGr (lives_any _)).mono ?_; rintro e w' ⟨pp, rfl, rfl⟩))
    go_ret
    exact ⟨rfl, by (repeat (with_reducible first | exact Below.refl _ _ | (refine bl_set ?_ (by first | omega | (simp; done) | (simp; omega)) _) | refine bl_gr ?_ _ | refine bl_al ?_ _ | refine below_setRow ?_ (by first | omega | (simp; done) | (simp; omega)) _ | refine bl_drewN ?_ _ | refine Below.drew ?_ | (refine bl_tr ?_ (by assumption))))⟩
  · have h1 := fun w => quote_any s w (by omega)
    have h2 := fun w => rquote_any s w (by omega)
    unfold strL at h2
    generalize (⟨(quoteM s.data.toList).toArray⟩ : ByteArray) = R at h1 h2
    have H1 := Lib.hid h1
    have H2 := Lib.hid h2
    clear h1 h2
    go_enter Try.func3, Try.ntmps3
    go_wp2_with (first | (go_at_call 9; refine (callGr (H1.out _)).mono ?_; rintro e w' ⟨pp, rfl, rfl⟩) | (go_at_call 10; refine (callGr (H2.out _)).mono ?_; rintro e w' ⟨pp, rfl, rfl⟩) | (go_at_call 11; refine (callGr (lives_any _)).mono ?_; rintro e w' ⟨pp, rfl, rfl⟩))
    go_ret
    exact ⟨rfl, by (repeat (with_reducible first | exact Below.refl _ _ | (refine bl_set ?_ (by first | omega | (simp; done) | (simp; omega)) _) | refine bl_gr ?_ _ | refine bl_al ?_ _ | refine below_setRow ?_ (by first | omega | (simp; done) | (simp; omega)) _ | refine bl_drewN ?_ _ | refine Below.drew ?_ | (refine bl_tr ?_ (by assumption))))⟩

set_option maxRecDepth 100000 in
set_option maxHeartbeats 4000000 in
theorem reads_w (s : ByteArray) (a : Int) (w : World) (hs : s.size ≤ maxLen) :
    Calls Try.prog 4 #[.string s, .int .i64 a] w fun e w' => e = .returned (.bool true) ∧ Below w.heap.size w w' := by
  unfold maxLen at hs
  by_cases hl : 2000 < s.size
  · have hc := cut_size s
    have h1 := fun w => read_any (s.extract 0 2000) a w (by omega)
    have h2 := fun w => rread_any (s.extract 0 2000) a w (by omega)
    generalize readM (s.extract 0 2000) a = R at h1 h2
    have H1 := Lib.hid h1
    have H2 := Lib.hid h2
    clear h1 h2
    unfold readV at H1 H2
    go_enter Try.func4, Try.ntmps4
    go_wp2_with (first | (go_at_call 12; refine (callGr (H1.out _)).mono ?_; rintro e w' ⟨pp, rfl, rfl⟩) | (go_at_call 13; refine (callGr (H2.out _)).mono ?_; rintro e w' ⟨pp, rfl, rfl⟩) | (go_at_call 11; refine (callGr (lives_any _)).mono ?_; rintro e w' ⟨pp, rfl, rfl⟩))
    go_ret
    exact ⟨rfl, by (repeat (with_reducible first | exact Below.refl _ _ | (refine bl_set ?_ (by first | omega | (simp; done) | (simp; omega)) _) | refine bl_gr ?_ _ | refine bl_al ?_ _ | refine below_setRow ?_ (by first | omega | (simp; done) | (simp; omega)) _ | refine bl_drewN ?_ _ | refine Below.drew ?_ | (refine bl_tr ?_ (by assumption))))⟩
  · have h1 := fun w => read_any s a w (by omega)
    have h2 := fun w => rread_any s a w (by omega)
    generalize readM s a = R at h1 h2
    have H1 := Lib.hid h1
    have H2 := Lib.hid h2
    clear h1 h2
    unfold readV at H1 H2
    go_enter Try.func4, Try.ntmps4
    go_wp2_with (first | (go_at_call 12; refine (callGr (H1.out _)).mono ?_; rintro e w' ⟨pp, rfl, rfl⟩) | (go_at_call 13; refine (callGr (H2.out _)).mono ?_; rintro e w' ⟨pp, rfl, rfl⟩) | (go_at_call 11; refine (callGr (lives_any _)).mono ?_; rintro e w' ⟨pp, rfl, rfl⟩))
    go_ret
    exact ⟨rfl, by (repeat (with_reducible first | exact Below.refl _ _ | (refine bl_set ?_ (by first | omega | (simp; done) | (simp; omega)) _) | refine bl_gr ?_ _ | refine bl_al ?_ _ | refine below_setRow ?_ (by first | omega | (simp; done) | (simp; omega)) _ | refine bl_drewN ?_ _ | refine Below.drew ?_ | (refine bl_tr ?_ (by assumption))))⟩

set_option maxRecDepth 100000 in
set_option maxHeartbeats 4000000 in
theorem pieces_w (s : ByteArray) (a : Int) (w : World) (hs : s.size ≤ maxLen) :
    Calls Try.prog 5 #[.string s, .int .i64 a] w fun e w' => e = .returned (.bool true) ∧ Below w.heap.size w w' := by
  unfold maxLen at hs
  by_cases hl : 2000 < s.size
  · have hc := cut_size s
    have h1 := fun w => piece_any (s.extract 0 2000) a w (by omega)
    have h2 := fun w => rpiece_any (s.extract 0 2000) a w (by omega)
    generalize pieceM (s.extract 0 2000) a = R at h1 h2
    have H1 := Lib.hid h1
    have H2 := Lib.hid h2
    clear h1 h2
    unfold pieceV at H1 H2
    go_enter Try.func5, Try.ntmps5
    go_wp2_with (first | (go_at_call 14; refine (callGr (H1.out _)).mono ?_; rintro e w' ⟨pp, rfl, rfl⟩) | (go_at_call 15; refine (callGr (H2.out _)).mono ?_; rintro e w' ⟨pp, rfl, rfl⟩) | (go_at_call 11; refine (callGr (lives_any _)).mono ?_; rintro e w' ⟨pp, rfl, rfl⟩))
    go_ret
    exact ⟨rfl, by (repeat (with_reducible first | exact Below.refl _ _ | (refine bl_set ?_ (by first | omega | (simp; done) | (simp; omega)) _) | refine bl_gr ?_ _ | refine bl_al ?_ _ | refine below_setRow ?_ (by first | omega | (simp; done) | (simp; omega)) _ | refine bl_drewN ?_ _ | refine Below.drew ?_ | (refine bl_tr ?_ (by assumption))))⟩
  · have h1 := fun w => piece_any s a w (by omega)
    have h2 := fun w => rpiece_any s a w (by omega)
    generalize pieceM s a = R at h1 h2
    have H1 := Lib.hid h1
    have H2 := Lib.hid h2
    clear h1 h2
    unfold pieceV at H1 H2
    go_enter Try.func5, Try.ntmps5
    go_wp2_with (first | (go_at_call 14; refine (callGr (H1.out _)).mono ?_; rintro e w' ⟨pp, rfl, rfl⟩) | (go_at_call 15; refine (callGr (H2.out _)).mono ?_; rintro e w' ⟨pp, rfl, rfl⟩) | (go_at_call 11; refine (callGr (lives_any _)).mono ?_; rintro e w' ⟨pp, rfl, rfl⟩))
    go_ret
    exact ⟨rfl, by (repeat (with_reducible first | exact Below.refl _ _ | (refine bl_set ?_ (by first | omega | (simp; done) | (simp; omega)) _) | refine bl_gr ?_ _ | refine bl_al ?_ _ | refine below_setRow ?_ (by first | omega | (simp; done) | (simp; omega)) _ | refine bl_drewN ?_ _ | refine Below.drew ?_ | (refine bl_tr ?_ (by assumption))))⟩
end Go.Proofs.Ytkbbgnmhfkilgaa
