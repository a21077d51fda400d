/- Walk of the law's does. -/
import Derived.Test.YtgajmhklinolmaaSpU
namespace Go.Proofs.Ytgajmhklinolmaa
set_option linter.all false
open Go.RowKit Go.Sort Go.Deep

abbrev actV (kd n k sh fl ag : Int) (sv mv : Value) : Value := .agg #[.int .i64 kd, .int .i64 n, .int .i64 k, .int .i64 sh, .int .i64 fl, .int .i64 ag, sv, mv]

theorem Arena.low {w : World} {F : Nat → Prop} {s : Nat} {room : Int} {l : List CellD} (h : Arena w F s room l) : ∀ b, F b → b < w.heap.size := by
  obtain ⟨rs, v, h⟩ := h
  exact h.low
theorem box8 {w w1 : World} {kd n k sh fl ag : Int} {sv mv : Value} (hb : Below (w.alloc (.cells #[.int .i64 kd, .int .i64 n, .int .i64 k, .int .i64 sh, .int .i64 fl, .int .i64 ag, sv, mv] 40)).heap.size (w.alloc (.cells #[.int .i64 kd, .int .i64 n, .int .i64 k, .int .i64 sh, .int .i64 fl, .int .i64 ag, sv, mv] 40)) w1) :
    w1.cell? ⟨w.heap.size, 0, none⟩ = some (.int .i64 kd) ∧ w1.cell? ⟨w.heap.size, 1, none⟩ = some (.int .i64 n) ∧ Below w.heap.size w w1 ∧ w.heap.size < w1.heap.size := by
  have h : w1.heap[w.heap.size]? = _ := (hb.block w.heap.size (by simp)).trans (heap_alloc_new w _)
  refine ⟨by rw [cell_of_row w1 _ _ _ _ _ h]; rfl, by rw [cell_of_row w1 _ _ _ _ _ h]; rfl, ?_, ?_⟩
  · exact bl_tr (bl_al (Below.refl _ _) _) hb
  · have := hb.size
    simp at this
    omega
/-- the end of does: the copy is overwritten -/
theorem does_end {w w1 W w3 : World} {F F' : Nat → Prop} {s : Nat} {room : Int} {l : List CellD} {lo : Nat} {sv mv : Value} {xs ys : List Val} (hF : ∀ b, F b → b < w.heap.size) (hw : w.heap.size ≤ lo) (hw1 : w.heap.size < w1.heap.size) (o1 : OwnV w1 lo sv xs) (o2 : OwnV w1 lo mv ys) (hA : Arena W F' s room l) (hF' : ∀ b, F' b → F b ∨ w1.heap.size ≤ b) (ht : Touch F w W)
    (h3 : Touch (fun b => sv.ownBlock = some b ∨ mv.ownBlock = some b) W w3) : (∃ F', Arena w3 F' s room l ∧ ∀ b, F' b → F b ∨ w.heap.size ≤ b) ∧ Touch F w w3 := by
  have far : ∀ b, (sv.ownBlock = some b ∨ mv.ownBlock = some b) → lo ≤ b ∧ b < w1.heap.size := fun b h => by
    rcases h with h | h
    · exact o1.lt b h
    · exact o2.lt b h
  have A3 : Arena w3 F' s room l := hA.touch h3 fun b hb e => by
    have q := far b e
    rcases hF' b hb with h | h
    · have := hF b h
      omega
    · omega
  refine ⟨⟨F', A3, fun b hb => ?_⟩, ht.trans h3 fun b hb e => ?_⟩
  · rcases hF' b hb with h | h
    · exact .inl h
    · exact .inr (by omega)
  · have q := far b e
    omega

set_option maxRecDepth 100000 in
set_option maxHeartbeats 2000000 in
theorem does_none (F : Nat → Prop) (s : Nat) (room : Int) (l : List CellD) (kd n : Int) (c : CellD) (A B : Option Addr) (ca cb : Nat) (w : World) (h : Arena w F s room l) (h1 : IsV w (.slice A c.sl.length ca) c.sl) (h2 : IsV w (.slice B c.mo.length cb) c.mo) (hf : c.fit)
    (k0 : (kd == 0) = false) (k1 : (kd == 1) = false) (k2 : (kd == 2) = false) :
    Calls Try.prog 11 #[.pointer (some ⟨s, 0, none⟩), actV kd n c.k c.sh c.fl c.ag (.slice A c.sl.length ca) (.slice B c.mo.length cb)] w fun e w' => e = .returned (.tuple #[.int .i64 0, .int .i64 0]) ∧ (∃ F', Arena w' F' s room l ∧ ∀ b, F' b → F b ∨ w.heap.size ≤ b) ∧ Touch F w w' := by
  have H := Lib.hid h
  have HV := Lib.hid (And.intro h1 (And.intro h2 hf))
  clear h h1 h2 hf
  go_enter Try.func11, Try.ntmps11
  go_wp2_with (first
    | (go_at_call 23; refine (lown_any _ _ c _ (HV.out.1.below (by (repeat (with_reducible first | exact Below.refl _ _ | (refine bl_set ?_ (by first | omega | (simp; done) | (simp; omega)) _) | refine bl_gr ?_ _ | refine bl_al ?_ _ | refine below_setRow ?_ (by first | omega | (simp; done) | (simp; omega)) _ | refine bl_drewN ?_ _ | refine Below.drew ?_ | (refine bl_tr ?_ (by assumption)))))) (HV.out.2.1.below (by (repeat (with_reducible first | exact Below.refl _ _ | (refine bl_set ?_ (by first | omega | (simp; done) | (simp; omega)) _) | refine bl_gr ?_ _ | refine bl_al ?_ _ | refine below_setRow ?_ (by first | omega | (simp; done) | (simp; omega)) _ | refine bl_drewN ?_ _ | refine Below.drew ?_ | (refine bl_tr ?_ (by assumption)))))) HV.out.2.2).mono ?_; rintro e w1 ⟨sv, mv, rfl, o1, o2, od, hb⟩; obtain ⟨A1, n1, rfl⟩ := o1.form; obtain ⟨A2, n2, rfl⟩ := o2.form; obtain ⟨b0, b1, b2, b3⟩ := box8 hb; have O := Lib.hid (And.intro o1 (And.intro o2 (And.intro b2 b3))); have n3 : w.heap.size ≠ w1.heap.size := (by omega); clear o1 o2 od hb b2)
    | (go_at_call 24; refine (touched_any _ _ _ _ _ _ _ _ _ (OwnN.of (ownsRow_below O.out.1 (bl_al (Below.refl _ _) _))) (OwnN.of (ownsRow_below O.out.2.1 (bl_al (Below.refl _ _) _)))).mono ?_; rintro e w3 ⟨rfl, ht⟩; have T := Lib.hid ht; clear ht))
  go_ret2
  exact ⟨rfl, does_end (lo := w.heap.size + 1) H.out.low (by omega) (by assumption) (ownsRow_low O.out.1 (by simp)) (ownsRow_low O.out.2.1 (by simp)) (H.out.below (bl_al O.out.2.2.1 _)) (fun b h => .inl h) (Touch.of_below (bl_al O.out.2.2.1 _)) T.out⟩
end Go.Proofs.Ytgajmhklinolmaa
