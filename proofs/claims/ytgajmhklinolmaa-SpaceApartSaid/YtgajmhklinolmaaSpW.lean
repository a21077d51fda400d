/- Walks of the law's does (printed by genw.py). -/
import Derived.Test.YtgajmhklinolmaaSpV
namespace Go.Proofs.Ytgajmhklinolmaa
set_option linter.all false
open Go.RowKit Go.Sort Go.Deep

theorem does_mid {w w1 W2 : World} {F : Nat → Prop} {k sh fl ag : Int} {sv mv : Value} (hF : ∀ b, F b → b < w.heap.size) (hb : Below w.heap.size w w1) (hlt : w.heap.size < w1.heap.size) (ht : Touch F (w1.alloc (cellO k sh fl ag sv mv)) W2) :
    (W2.cell? ⟨w1.heap.size, 0, none⟩ = some (.int .i64 k) ∧ W2.cell? ⟨w1.heap.size, 1, none⟩ = some (.int .i64 sh) ∧ W2.cell? ⟨w1.heap.size, 2, none⟩ = some (.int .i64 fl) ∧ W2.cell? ⟨w1.heap.size, 3, none⟩ = some (.int .i64 ag) ∧ W2.cell? ⟨w1.heap.size, 4, none⟩ = some sv ∧ W2.cell? ⟨w1.heap.size, 5, none⟩ = some mv) ∧
    Touch F w W2 ∧ (∀ v xs lo, w.heap.size ≤ lo → OwnV w1 lo v xs → OwnV W2 lo v xs) := by
  have h := (ht.block w1.heap.size (by simp) fun e => by have := hF _ e; omega).trans (heap_alloc_new w1 _)
  refine ⟨(cells6 h).1, (Touch.of_below (bl_al hb _)).trans ht fun _ _ h => h, fun v xs lo hlo o => ownsRow_touch (ownsRow_below o (bl_al (Below.refl _ _) _)) ht fun g hg e => ?_⟩
  have q := o.lt g hg
  have := hF _ e
  omega

set_option maxRecDepth 100000 in
set_option maxHeartbeats 2000000 in
theorem does_full (F : Nat → Prop) (s : Nat) (room : Int) (l : List CellD) (n : Int) (c : CellD) (A B : Option Addr) (ca cb : Nat) (w : World) (h : Arena w F s room l) (h1 : IsV w (.slice A c.sl.length ca) c.sl) (h2 : IsV w (.slice B c.mo.length cb) c.mo) (hf : c.fit) (hr : room ≤ l.length) :
    Calls Try.prog 11 #[.pointer (some ⟨s, 0, none⟩), actV 0 n c.k c.sh c.fl c.ag (.slice A c.sl.length ca) (.slice B c.mo.length cb)] w fun e w' => e = .returned (.tuple #[.int .i64 0, .int .i64 5]) ∧ (∃ F', Arena w' F' s room (l) ∧ ∀ b, F' b → F b ∨ w.heap.size ≤ b) ∧ Touch F w w' := by
  have H := Lib.hid h
  have HV := Lib.hid (And.intro h1 (And.intro h2 hf))
  clear h h1 h2 hf
  go_enter Try.func11, Try.ntmps11
  go_wp2_with (first
    | (go_at_call 23; refine (lown_any _ _ c _ (HV.out.1.below (by (repeat (with_reducible first | exact Below.refl _ _ | (refine bl_set ?_ (by first | omega | (simp; done) | (simp; omega)) _) | refine bl_gr ?_ _ | refine bl_al ?_ _ | refine below_setRow ?_ (by first | omega | (simp; done) | (simp; omega)) _ | refine bl_drewN ?_ _ | refine Below.drew ?_ | (refine bl_tr ?_ (by assumption)))))) (HV.out.2.1.below (by (repeat (with_reducible first | exact Below.refl _ _ | (refine bl_set ?_ (by first | omega | (simp; done) | (simp; omega)) _) | refine bl_gr ?_ _ | refine bl_al ?_ _ | refine below_setRow ?_ (by first | omega | (simp; done) | (simp; omega)) _ | refine bl_drewN ?_ _ | refine Below.drew ?_ | (refine bl_tr ?_ (by assumption)))))) HV.out.2.2).mono ?_; rintro e w1 ⟨sv, mv, rfl, o1, o2, od, hb⟩; obtain ⟨A1, n1, rfl⟩ := o1.form; obtain ⟨A2, n2, rfl⟩ := o2.form; obtain ⟨b0, b1, b2, b3⟩ := box8 hb; have O := Lib.hid (And.intro o1 (And.intro o2 (And.intro b2 b3))); have n3 : w.heap.size ≠ w1.heap.size := (by omega); clear o1 o2 od hb b2)
    | (go_at_call 14; refine (put_full F s room l _ _ _ _ _ _ _ _ _ _ _ (H.out.below (bl_al O.out.2.2.1 _)) hr).mono ?_; rintro e w2 ⟨rfl, hb2⟩; have ht2 : Touch F _ w2 := Touch.of_below hb2; have hA2 := (H.out.below (bl_al O.out.2.2.1 _)).below hb2; have hF2 : ∀ b, F b → F b ∨ (w1.alloc (cellO c.k c.sh c.fl c.ag (.slice A1 c.sl.length n1) (.slice A2 c.mo.length n2))).heap.size ≤ b := fun b h => .inl h; clear hb2; obtain ⟨⟨a0, a1, a2, a3, a4, a5⟩, tw, ko⟩ := does_mid H.out.low O.out.2.2.1 O.out.2.2.2 ht2; have M := Lib.hid (And.intro hA2 (And.intro hF2 tw)); have K := Lib.hid (And.intro (ko _ _ (w.heap.size + 1) (by omega) (ownsRow_low O.out.1 (by simp))) (ko _ _ (w.heap.size + 1) (by omega) (ownsRow_low O.out.2.1 (by simp)))); clear hA2 hF2 ht2 tw ko)
    | (go_at_call 24; refine (touched_any _ _ _ _ _ _ _ _ _ (OwnN.of K.out.1) (OwnN.of K.out.2)).mono ?_; rintro e w3 ⟨rfl, ht⟩; have T := Lib.hid ht; clear ht))
  go_ret2
  exact ⟨rfl, does_end (lo := w.heap.size + 1) H.out.low (by omega) (by assumption) (ownsRow_low O.out.1 (by simp)) (ownsRow_low O.out.2.1 (by simp)) M.out.1 (fun b h => (M.out.2.1 b h).imp_right (fun q => by simp at q; omega)) M.out.2.2 T.out⟩

set_option maxRecDepth 100000 in
set_option maxHeartbeats 2000000 in
theorem does_put (F : Nat → Prop) (s : Nat) (room : Int) (l : List CellD) (n : Int) (c : CellD) (A B : Option Addr) (ca cb : Nat) (w : World) (h : Arena w F s room l) (h1 : IsV w (.slice A c.sl.length ca) c.sl) (h2 : IsV w (.slice B c.mo.length cb) c.mo) (hf : c.fit) (hl : l.length < room) (hr : room ≤ 1048576) :
    Calls Try.prog 11 #[.pointer (some ⟨s, 0, none⟩), actV 0 n c.k c.sh c.fl c.ag (.slice A c.sl.length ca) (.slice B c.mo.length cb)] w fun e w' => e = .returned (.tuple #[.int .i64 l.length, .int .i64 0]) ∧ (∃ F', Arena w' F' s room (l ++ [c]) ∧ ∀ b, F' b → F b ∨ w.heap.size ≤ b) ∧ Touch F w w' := by
  have H := Lib.hid h
  have HV := Lib.hid (And.intro h1 (And.intro h2 hf))
  clear h h1 h2 hf
  go_enter Try.func11, Try.ntmps11
  go_wp2_with (first
    | (go_at_call 23; refine (lown_any _ _ c _ (HV.out.1.below (by (repeat (with_reducible first | exact Below.refl _ _ | (refine bl_set ?_ (by first | omega | (simp; done) | (simp; omega)) _) | refine bl_gr ?_ _ | refine bl_al ?_ _ | refine below_setRow ?_ (by first | omega | (simp; done) | (simp; omega)) _ | refine bl_drewN ?_ _ | refine Below.drew ?_ | (refine bl_tr ?_ (by assumption)))))) (HV.out.2.1.below (by (repeat (with_reducible first | exact Below.refl _ _ | (refine bl_set ?_ (by first | omega | (simp; done) | (simp; omega)) _) | refine bl_gr ?_ _ | refine bl_al ?_ _ | refine below_setRow ?_ (by first | omega | (simp; done) | (simp; omega)) _ | refine bl_drewN ?_ _ | refine Below.drew ?_ | (refine bl_tr ?_ (by assumption)))))) HV.out.2.2).mono ?_; rintro e w1 ⟨sv, mv, rfl, o1, o2, od, hb⟩; obtain ⟨A1, n1, rfl⟩ := o1.form; obtain ⟨A2, n2, rfl⟩ := o2.form; obtain ⟨b0, b1, b2, b3⟩ := box8 hb; have O := Lib.hid (And.intro o1 (And.intro o2 (And.intro b2 b3))); have n3 : w.heap.size ≠ w1.heap.size := (by omega); clear o1 o2 od hb b2)
    | (go_at_call 14; refine (put_ok F s room l c _ _ _ _ _ (H.out.below (bl_al O.out.2.2.1 _)) hl hr (OwnV.isV (ownsRow_below O.out.1 (bl_al (Below.refl _ _) _))) (OwnV.isV (ownsRow_below O.out.2.1 (bl_al (Below.refl _ _) _))) HV.out.2.2).mono ?_; rintro e w2 ⟨rfl, ⟨F2, hA2, hF2⟩, ht2⟩; obtain ⟨⟨a0, a1, a2, a3, a4, a5⟩, tw, ko⟩ := does_mid H.out.low O.out.2.2.1 O.out.2.2.2 ht2; have M := Lib.hid (And.intro hA2 (And.intro hF2 tw)); have K := Lib.hid (And.intro (ko _ _ (w.heap.size + 1) (by omega) (ownsRow_low O.out.1 (by simp))) (ko _ _ (w.heap.size + 1) (by omega) (ownsRow_low O.out.2.1 (by simp)))); clear hA2 hF2 ht2 tw ko)
    | (go_at_call 24; refine (touched_any _ _ _ _ _ _ _ _ _ (OwnN.of K.out.1) (OwnN.of K.out.2)).mono ?_; rintro e w3 ⟨rfl, ht⟩; have T := Lib.hid ht; clear ht))
  go_ret2
  exact ⟨rfl, does_end (lo := w.heap.size + 1) H.out.low (by omega) (by assumption) (ownsRow_low O.out.1 (by simp)) (ownsRow_low O.out.2.1 (by simp)) M.out.1 (fun b h => (M.out.2.1 b h).imp_right (fun q => by simp at q; omega)) M.out.2.2 T.out⟩

set_option maxRecDepth 100000 in
set_option maxHeartbeats 2000000 in
theorem does_sout (F : Nat → Prop) (s : Nat) (room : Int) (l : List CellD) (n : Int) (c : CellD) (A B : Option Addr) (ca cb : Nat) (w : World) (h : Arena w F s room l) (h1 : IsV w (.slice A c.sl.length ca) c.sl) (h2 : IsV w (.slice B c.mo.length cb) c.mo) (hf : c.fit) (hi : n < 0 ∨ l.length ≤ n) :
    Calls Try.prog 11 #[.pointer (some ⟨s, 0, none⟩), actV 1 n c.k c.sh c.fl c.ag (.slice A c.sl.length ca) (.slice B c.mo.length cb)] w fun e w' => e = .returned (.tuple #[.int .i64 0, .int .i64 3]) ∧ (∃ F', Arena w' F' s room (l) ∧ ∀ b, F' b → F b ∨ w.heap.size ≤ b) ∧ Touch F w w' := by
  have H := Lib.hid h
  have HV := Lib.hid (And.intro h1 (And.intro h2 hf))
  clear h h1 h2 hf
  go_enter Try.func11, Try.ntmps11
  go_wp2_with (first
    | (go_at_call 23; refine (lown_any _ _ c _ (HV.out.1.below (by (repeat (with_reducible first | exact Below.refl _ _ | (refine bl_set ?_ (by first | omega | (simp; done) | (simp; omega)) _) | refine bl_gr ?_ _ | refine bl_al ?_ _ | refine below_setRow ?_ (by first | omega | (simp; done) | (simp; omega)) _ | refine bl_drewN ?_ _ | refine Below.drew ?_ | (refine bl_tr ?_ (by assumption)))))) (HV.out.2.1.below (by (repeat (with_reducible first | exact Below.refl _ _ | (refine bl_set ?_ (by first | omega | (simp; done) | (simp; omega)) _) | refine bl_gr ?_ _ | refine bl_al ?_ _ | refine below_setRow ?_ (by first | omega | (simp; done) | (simp; omega)) _ | refine bl_drewN ?_ _ | refine Below.drew ?_ | (refine bl_tr ?_ (by assumption)))))) HV.out.2.2).mono ?_; rintro e w1 ⟨sv, mv, rfl, o1, o2, od, hb⟩; obtain ⟨A1, n1, rfl⟩ := o1.form; obtain ⟨A2, n2, rfl⟩ := o2.form; obtain ⟨b0, b1, b2, b3⟩ := box8 hb; have O := Lib.hid (And.intro o1 (And.intro o2 (And.intro b2 b3))); have n3 : w.heap.size ≠ w1.heap.size := (by omega); clear o1 o2 od hb b2)
    | (go_at_call 17; refine (set_out F s room l _ _ _ _ _ _ _ _ _ _ _ _ (H.out.below (bl_al O.out.2.2.1 _)) hi).mono ?_; rintro e w2 ⟨rfl, hb2⟩; have ht2 : Touch F _ w2 := Touch.of_below hb2; have hA2 := (H.out.below (bl_al O.out.2.2.1 _)).below hb2; have hF2 : ∀ b, F b → F b ∨ (w1.alloc (cellO c.k c.sh c.fl c.ag (.slice A1 c.sl.length n1) (.slice A2 c.mo.length n2))).heap.size ≤ b := fun b h => .inl h; clear hb2; obtain ⟨⟨a0, a1, a2, a3, a4, a5⟩, tw, ko⟩ := does_mid H.out.low O.out.2.2.1 O.out.2.2.2 ht2; have M := Lib.hid (And.intro hA2 (And.intro hF2 tw)); have K := Lib.hid (And.intro (ko _ _ (w.heap.size + 1) (by omega) (ownsRow_low O.out.1 (by simp))) (ko _ _ (w.heap.size + 1) (by omega) (ownsRow_low O.out.2.1 (by simp)))); clear hA2 hF2 ht2 tw ko)
    | (go_at_call 24; refine (touched_any _ _ _ _ _ _ _ _ _ (OwnN.of K.out.1) (OwnN.of K.out.2)).mono ?_; rintro e w3 ⟨rfl, ht⟩; have T := Lib.hid ht; clear ht))
  go_ret2
  exact ⟨rfl, does_end (lo := w.heap.size + 1) H.out.low (by omega) (by assumption) (ownsRow_low O.out.1 (by simp)) (ownsRow_low O.out.2.1 (by simp)) M.out.1 (fun b h => (M.out.2.1 b h).imp_right (fun q => by simp at q; omega)) M.out.2.2 T.out⟩

set_option maxRecDepth 100000 in
set_option maxHeartbeats 2000000 in
theorem does_set (F : Nat → Prop) (s : Nat) (room : Int) (l : List CellD) (n : Int) (c : CellD) (A B : Option Addr) (ca cb : Nat) (w : World) (h : Arena w F s room l) (h1 : IsV w (.slice A c.sl.length ca) c.sl) (h2 : IsV w (.slice B c.mo.length cb) c.mo) (hf : c.fit) (i : Nat) (hn : n = i) (hi : i < l.length) :
    Calls Try.prog 11 #[.pointer (some ⟨s, 0, none⟩), actV 1 n c.k c.sh c.fl c.ag (.slice A c.sl.length ca) (.slice B c.mo.length cb)] w fun e w' => e = .returned (.tuple #[.int .i64 0, .int .i64 0]) ∧ (∃ F', Arena w' F' s room (l.set i c) ∧ ∀ b, F' b → F b ∨ w.heap.size ≤ b) ∧ Touch F w w' := by
  have H := Lib.hid h
  have HV := Lib.hid (And.intro h1 (And.intro h2 hf))
  clear h h1 h2 hf
  go_enter Try.func11, Try.ntmps11
  go_wp2_with (first
    | (go_at_call 23; refine (lown_any _ _ c _ (HV.out.1.below (by (repeat (with_reducible first | exact Below.refl _ _ | (refine bl_set ?_ (by first | omega | (simp; done) | (simp; omega)) _) | refine bl_gr ?_ _ | refine bl_al ?_ _ | refine below_setRow ?_ (by first | omega | (simp; done) | (simp; omega)) _ | refine bl_drewN ?_ _ | refine Below.drew ?_ | (refine bl_tr ?_ (by assumption)))))) (HV.out.2.1.below (by (repeat (with_reducible first | exact Below.refl _ _ | (refine bl_set ?_ (by first | omega | (simp; done) | (simp; omega)) _) | refine bl_gr ?_ _ | refine bl_al ?_ _ | refine below_setRow ?_ (by first | omega | (simp; done) | (simp; omega)) _ | refine bl_drewN ?_ _ | refine Below.drew ?_ | (refine bl_tr ?_ (by assumption)))))) HV.out.2.2).mono ?_; rintro e w1 ⟨sv, mv, rfl, o1, o2, od, hb⟩; obtain ⟨A1, n1, rfl⟩ := o1.form; obtain ⟨A2, n2, rfl⟩ := o2.form; obtain ⟨b0, b1, b2, b3⟩ := box8 hb; have O := Lib.hid (And.intro o1 (And.intro o2 (And.intro b2 b3))); have n3 : w.heap.size ≠ w1.heap.size := (by omega); clear o1 o2 od hb b2)
    | (go_at_call 17; subst hn; refine (set_in F s room l i c _ _ _ _ _ (H.out.below (bl_al O.out.2.2.1 _)) hi (OwnV.isV (ownsRow_below O.out.1 (bl_al (Below.refl _ _) _))) (OwnV.isV (ownsRow_below O.out.2.1 (bl_al (Below.refl _ _) _))) HV.out.2.2).mono ?_; rintro e w2 ⟨rfl, ⟨F2, hA2, hF2⟩, ht2⟩; obtain ⟨⟨a0, a1, a2, a3, a4, a5⟩, tw, ko⟩ := does_mid H.out.low O.out.2.2.1 O.out.2.2.2 ht2; have M := Lib.hid (And.intro hA2 (And.intro hF2 tw)); have K := Lib.hid (And.intro (ko _ _ (w.heap.size + 1) (by omega) (ownsRow_low O.out.1 (by simp))) (ko _ _ (w.heap.size + 1) (by omega) (ownsRow_low O.out.2.1 (by simp)))); clear hA2 hF2 ht2 tw ko)
    | (go_at_call 24; refine (touched_any _ _ _ _ _ _ _ _ _ (OwnN.of K.out.1) (OwnN.of K.out.2)).mono ?_; rintro e w3 ⟨rfl, ht⟩; have T := Lib.hid ht; clear ht))
  go_ret2
  exact ⟨rfl, does_end (lo := w.heap.size + 1) H.out.low (by omega) (by assumption) (ownsRow_low O.out.1 (by simp)) (ownsRow_low O.out.2.1 (by simp)) M.out.1 (fun b h => (M.out.2.1 b h).imp_right (fun q => by simp at q; omega)) M.out.2.2 T.out⟩

set_option maxRecDepth 100000 in
set_option maxHeartbeats 2000000 in
theorem does_clear (F : Nat → Prop) (s : Nat) (room : Int) (l : List CellD) (n : Int) (c : CellD) (A B : Option Addr) (ca cb : Nat) (w : World) (h : Arena w F s room l) (h1 : IsV w (.slice A c.sl.length ca) c.sl) (h2 : IsV w (.slice B c.mo.length cb) c.mo) (hf : c.fit) :
    Calls Try.prog 11 #[.pointer (some ⟨s, 0, none⟩), actV 2 n c.k c.sh c.fl c.ag (.slice A c.sl.length ca) (.slice B c.mo.length cb)] w fun e w' => e = .returned (.tuple #[.int .i64 0, .int .i64 0]) ∧ (∃ F', Arena w' F' s room ([]) ∧ ∀ b, F' b → F b ∨ w.heap.size ≤ b) ∧ Touch F w w' := by
  have H := Lib.hid h
  have HV := Lib.hid (And.intro h1 (And.intro h2 hf))
  clear h h1 h2 hf
  go_enter Try.func11, Try.ntmps11
  go_wp2_with (first
    | (go_at_call 23; refine (lown_any _ _ c _ (HV.out.1.below (by (repeat (with_reducible first | exact Below.refl _ _ | (refine bl_set ?_ (by first | omega | (simp; done) | (simp; omega)) _) | refine bl_gr ?_ _ | refine bl_al ?_ _ | refine below_setRow ?_ (by first | omega | (simp; done) | (simp; omega)) _ | refine bl_drewN ?_ _ | refine Below.drew ?_ | (refine bl_tr ?_ (by assumption)))))) (HV.out.2.1.below (by (repeat (with_reducible first | exact Below.refl _ _ | (refine bl_set ?_ (by first | omega | (simp; done) | (simp; omega)) _) | refine bl_gr ?_ _ | refine bl_al ?_ _ | refine below_setRow ?_ (by first | omega | (simp; done) | (simp; omega)) _ | refine bl_drewN ?_ _ | refine Below.drew ?_ | (refine bl_tr ?_ (by assumption)))))) HV.out.2.2).mono ?_; rintro e w1 ⟨sv, mv, rfl, o1, o2, od, hb⟩; obtain ⟨A1, n1, rfl⟩ := o1.form; obtain ⟨A2, n2, rfl⟩ := o2.form; obtain ⟨b0, b1, b2, b3⟩ := box8 hb; have O := Lib.hid (And.intro o1 (And.intro o2 (And.intro b2 b3))); have n3 : w.heap.size ≠ w1.heap.size := (by omega); clear o1 o2 od hb b2)
    | (go_at_call 21; refine (clear_any F s room l _ (H.out.below (bl_al O.out.2.2.1 _))).mono ?_; rintro e w2 ⟨rfl, hA2, ht2⟩; have hF2 : ∀ b, F b → F b ∨ (w1.alloc (cellO c.k c.sh c.fl c.ag (.slice A1 c.sl.length n1) (.slice A2 c.mo.length n2))).heap.size ≤ b := fun b h => .inl h; obtain ⟨⟨a0, a1, a2, a3, a4, a5⟩, tw, ko⟩ := does_mid H.out.low O.out.2.2.1 O.out.2.2.2 ht2; have M := Lib.hid (And.intro hA2 (And.intro hF2 tw)); have K := Lib.hid (And.intro (ko _ _ (w.heap.size + 1) (by omega) (ownsRow_low O.out.1 (by simp))) (ko _ _ (w.heap.size + 1) (by omega) (ownsRow_low O.out.2.1 (by simp)))); clear hA2 hF2 ht2 tw ko)
    | (go_at_call 24; refine (touched_any _ _ _ _ _ _ _ _ _ (OwnN.of K.out.1) (OwnN.of K.out.2)).mono ?_; rintro e w3 ⟨rfl, ht⟩; have T := Lib.hid ht; clear ht))
  go_ret2
  exact ⟨rfl, does_end (lo := w.heap.size + 1) H.out.low (by omega) (by assumption) (ownsRow_low O.out.1 (by simp)) (ownsRow_low O.out.2.1 (by simp)) M.out.1 (fun b h => (M.out.2.1 b h).imp_right (fun q => by simp at q; omega)) M.out.2.2 T.out⟩
end Go.Proofs.Ytgajmhklinolmaa
