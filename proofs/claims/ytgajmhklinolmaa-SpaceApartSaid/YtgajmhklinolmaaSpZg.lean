/- Walk of the law's goes. -/
import Derived.Test.YtgajmhklinolmaaSpZf
namespace Go.Proofs.Ytgajmhklinolmaa
set_option linter.all false
open Go.RowKit Go.Sort Go.Deep

/-- An arena that the call has made. -/
def Held (w wi : World) (s : Nat) (room : Int) (l : List CellD) : Prop := ∃ F, Arena wi F s room l ∧ (∀ b, F b → w.heap.size ≤ b) ∧ Below w.heap.size w wi
theorem Held.below {w wi w' : World} {s : Nat} {room : Int} {l : List CellD} (h : Held w wi s room l) (hb : Below wi.heap.size wi w') : Held w w' s room l := by
  obtain ⟨F, hA, hF, hB⟩ := h
  exact ⟨F, hA.below hb, hF, bl_tr hB hb⟩
theorem Held.step {w wi w' : World} {s : Nat} {room : Int} {l : List CellD} {F : Nat → Prop} (hF : ∀ b, F b → w.heap.size ≤ b) (hB : Below w.heap.size w wi) (h : (∃ F', Arena w' F' s room l ∧ ∀ b, F' b → F b ∨ wi.heap.size ≤ b)) (ht : Touch F wi w') : Held w w' s room l := by
  obtain ⟨F', hA, hF'⟩ := h
  refine ⟨F', hA, fun b hb => ?_, hB.trans (ht.below hB.size hF)⟩
  rcases hF' b hb with h | h
  · exact hF b h
  · exact Nat.le_trans hB.size h
theorem Held.new (w wi : World) (hb : Below w.heap.size w wi) (room : Int) : Held w (wi.alloc (newSpace room)) wi.heap.size room [] :=
  ⟨_, Arena.new wi room, fun b hb' => by rw [hb']; exact hb.size, bl_al hb _⟩

abbrev kindD (k : Int) : CellD := ⟨k, 0, 0, 0, [], []⟩
abbrev kindV (k : Int) : Value := cellV k 0 0 0 (.slice none 0 0) (.slice none 0 0)
theorem hput_ok (w wi : World) (s : Nat) (room : Int) (l : List CellD) (k : Int) (h : Held w wi s room l) (hl : l.length < room) (hr : room ≤ 1048576) :
    Calls Try.prog 14 #[.pointer (some ⟨s, 0, none⟩), kindV k] wi fun e w' => e = .returned (.tuple #[.int .i64 l.length, .int .i64 0]) ∧ Held w w' s room (l ++ [kindD k]) := by
  obtain ⟨F, hA, hF, hB⟩ := h
  exact (put_ok F s room l (kindD k) none none 0 0 wi hA hl hr .nil_ .nil_ ⟨by simp [fitV], by simp [fitV]⟩).mono fun _ _ ⟨a, b, c⟩ => ⟨a, Held.step hF hB b c⟩
theorem hput_full (w wi : World) (s : Nat) (room : Int) (l : List CellD) (k : Int) (h : Held w wi s room l) (hl : room ≤ l.length) :
    Calls Try.prog 14 #[.pointer (some ⟨s, 0, none⟩), kindV k] wi fun e w' => e = .returned (.tuple #[.int .i64 0, .int .i64 5]) ∧ Held w w' s room l := by
  have H := h
  obtain ⟨F, hA, hF, hB⟩ := h
  exact (put_full F s room l k 0 0 0 none none 0 0 0 0 wi hA hl).mono fun _ _ ⟨a, b⟩ => ⟨a, H.below b⟩
theorem hset_out (w wi : World) (s : Nat) (room : Int) (l : List CellD) (i k : Int) (h : Held w wi s room l) (hl : l.length ≤ i) :
    Calls Try.prog 17 #[.pointer (some ⟨s, 0, none⟩), .int .i64 i, kindV k] wi fun e w' => e = .returned (.int .i64 3) ∧ Held w w' s room l := by
  have H := h
  obtain ⟨F, hA, hF, hB⟩ := h
  exact (set_out F s room l i k 0 0 0 none none 0 0 0 0 wi hA (.inr hl)).mono fun _ _ ⟨a, b⟩ => ⟨a, H.below b⟩
theorem hclear (w wi : World) (s : Nat) (room : Int) (l : List CellD) (h : Held w wi s room l) :
    Calls Try.prog 21 #[.pointer (some ⟨s, 0, none⟩)] wi fun e w' => e = .returned (.tuple #[]) ∧ Held w w' s room [] := by
  obtain ⟨F, hA, hF, hB⟩ := h
  exact (clear_any F s room l wi hA).mono fun _ _ ⟨a, b, c⟩ => ⟨a, Held.step hF hB ⟨F, b, fun _ h => .inl h⟩ c⟩
theorem hlen (w wi : World) (s : Nat) (room : Int) (l : List CellD) (h : Held w wi s room l) :
    Calls Try.prog 20 #[.pointer (some ⟨s, 0, none⟩)] wi fun e w' => e = .returned (.int .i64 l.length) ∧ Held w w' s room l := by
  have H := h
  obtain ⟨F, hA, hF, hB⟩ := h
  exact (len_any F s room l wi hA).mono fun _ _ ⟨a, b⟩ => ⟨a, H.below b⟩
theorem hroom (w wi : World) (s : Nat) (room : Int) (l : List CellD) (h : Held w wi s room l) :
    Calls Try.prog 22 #[.pointer (some ⟨s, 0, none⟩)] wi fun e w' => e = .returned (.int .i64 room) ∧ Held w w' s room l := by
  have H := h
  obtain ⟨F, hA, hF, hB⟩ := h
  exact (room_any F s room l wi hA).mono fun _ _ ⟨a, b⟩ => ⟨a, H.below b⟩

set_option maxRecDepth 100000 in
set_option maxHeartbeats 2000000 in
theorem goes_any (w : World) : Calls Try.prog 8 #[] w fun e w' => e = .returned (.bool true) ∧ Below w.heap.size w w' := by
  go_enter Try.func8, Try.ntmps8
  go_upto_region 2 with (go_at_call 9; refine (new_ok 2 _ (by omega) (by omega)).mono ?_; rintro e w1 ⟨rfl, rfl⟩; have H := Lib.hid (Held.new w w (Below.refl _ _) 2))
  generalize w.alloc (newSpace 2) = w1 at *
  go_upto_region 5 with (go_at_call 14; refine (hput_ok w _ _ 2 _ 1 H.out (by simp) (by omega)).mono ?_; rintro e w2 ⟨rfl, h⟩; have H2 := Lib.hid h; clear h)
  go_upto_region 6 with (go_at_call 14; refine (hput_ok w _ _ 2 _ 2 H2.out (by simp) (by omega)).mono ?_; rintro e w3 ⟨rfl, h⟩; have H3 := Lib.hid h; clear h)
  go_upto_region 7 with (go_at_call 14; refine (hput_full w _ _ 2 _ 3 H3.out (by simp)).mono ?_; rintro e w4 ⟨rfl, h⟩; have H4 := Lib.hid h; clear h)
  go_upto_region 8 with (go_at_call 17; refine (hset_out w _ _ 2 _ 5 0 H4.out (by simp)).mono ?_; rintro e w5 ⟨rfl, h⟩; have H5 := Lib.hid h; clear h)
  go_upto_region 9 with (go_at_call 21; refine (hclear w _ _ 2 _ H5.out).mono ?_; rintro e w6 ⟨rfl, h⟩; have H6 := Lib.hid h; clear h)
  go_upto_region 10 with (go_at_call 14; refine (hput_ok w _ _ 2 _ 4 H6.out (by simp) (by omega)).mono ?_; rintro e w7 ⟨rfl, h⟩; have H7 := Lib.hid h; clear h)
  go_wp2_with (first
    | (go_at_call 20; refine (hlen w _ _ 2 _ H7.out).mono ?_; rintro e w8 ⟨rfl, h⟩; have H8 := Lib.hid h; clear h)
    | (go_at_call 22; refine (hroom w _ _ 2 _ H8.out).mono ?_; rintro e w9 ⟨rfl, h⟩; have H9 := Lib.hid h; clear h))
  go_ret
  exact ⟨rfl, by obtain ⟨F, _, _, hB⟩ := H9.out; exact hB⟩
end Go.Proofs.Ytgajmhklinolmaa
