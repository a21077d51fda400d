/- Walk of the law LiteralNames. -/
import Derived.Test.YtkbbgnmhfkilgaaLitV
import Derived.ChangeMaps5
import Derived.HandedShaped
import Derived.Shelf.Vars
namespace Go.Proofs.Ytkbbgnmhfkilgaa
set_option linter.all false
open Go.RowKit Go.Sort

theorem cell0 {w : World} (h : w.ShapedOpen Try.prog) : ∃ m, w.cell? ⟨0, 0, none⟩ = some (.int .i64 m) :=
  cell_of_shapedOpen_int (P := Try.prog) (g := 0) (t := 3) (zero := #[.int .i64 0]) (k := .i64) h (of_decide_eq_true (by kernel_rfl)) (by kernel_rfl) rfl (by kernel_rfl) (by kernel_rfl) Try.underlying3

set_option maxRecDepth 100000 in
set_option maxHeartbeats 4000000 in
theorem names_w (s : ByteArray) (a : Int) (m : Int) (w : World) (hs : s.size ≤ maxLen) (hm : w.cell? ⟨0, 0, none⟩ = some (.int .i64 m)) :
    Calls Try.prog 8 #[.string s, .int .i64 a] w fun e w' => e = .returned (.bool true) ∧ Below w.heap.size w w' := by
  unfold maxLen at hs
  by_cases hl : 2000 < s.size
  · have hc := cut_size s
    have h1 := name_any (s.extract 0 2000) a w (by omega)
    have h2 := rname_any (s.extract 0 2000) a w (by omega)
    have h3 := isName_any (s.extract 0 2000) m w (by omega) hm
    have h4 := risName_any (s.extract 0 2000) w (by omega)
    have h5 := word_any (s.extract 0 2000) m w (by omega) hm
    have h6 := rword_any (s.extract 0 2000) w
    generalize nameM (s.extract 0 2000) a = N at h1 h2
    generalize isNameM (s.extract 0 2000).data.toList = X at h3 h4
    generalize wordM (s.extract 0 2000).data.toList = Y at h5 h6
    unfold namV at h1 h2
    have H1 := Lib.hid h1
    have H2 := Lib.hid h2
    have H3 := Lib.hid h3
    have H4 := Lib.hid h4
    have H5 := Lib.hid h5
    have H6 := Lib.hid h6
    clear h1 h2 h3 h4 h5 h6 hm
    go_enter Try.func8, Try.ntmps8
    go_wp2_with (first | (go_at_call 16; refine (H1.out).mono ?_; rintro e w' ⟨rfl, rfl⟩) | (go_at_call 17; refine (H2.out).mono ?_; rintro e w' ⟨rfl, rfl⟩) | (go_at_call 18; refine (H3.out).mono ?_; rintro e w' ⟨rfl, rfl⟩) | (go_at_call 19; refine (H4.out).mono ?_; rintro e w' ⟨rfl, rfl⟩) | (go_at_call 20; refine (H5.out).mono ?_; rintro e w' ⟨rfl, rfl⟩) | (go_at_call 21; refine (H6.out).mono ?_; rintro e w' ⟨rfl, rfl⟩) | (go_at_call 11; refine (callGr (lives_any _)).mono ?_; rintro e w' ⟨pp, rfl, rfl⟩))
    go_ret
    exact ⟨rfl, by (repeat (with_reducible first | exact Below.refl _ _ | (refine bl_set ?_ (by first | omega | (simp; done) | (simp; omega)) _) | refine bl_gr ?_ _ | refine bl_al ?_ _ | refine below_setRow ?_ (by first | omega | (simp; done) | (simp; omega)) _ | refine bl_drewN ?_ _ | refine Below.drew ?_ | (refine bl_tr ?_ (by assumption))))⟩
  · have h1 := name_any s a w (by omega)
    have h2 := rname_any s a w (by omega)
    have h3 := isName_any s m w (by omega) hm
    have h4 := risName_any s w (by omega)
    have h5 := word_any s m w (by omega) hm
    have h6 := rword_any s w
    generalize nameM s a = N at h1 h2
    generalize isNameM s.data.toList = X at h3 h4
    generalize wordM s.data.toList = Y at h5 h6
    unfold namV at h1 h2
    have H1 := Lib.hid h1
    have H2 := Lib.hid h2
    have H3 := Lib.hid h3
    have H4 := Lib.hid h4
    have H5 := Lib.hid h5
    have H6 := Lib.hid h6
    clear h1 h2 h3 h4 h5 h6 hm
    go_enter Try.func8, Try.ntmps8
    go_wp2_with (first | (go_at_call 16; refine (H1.out).mono ?_; rintro e w' ⟨rfl, rfl⟩) | (go_at_call 17; refine (H2.out).mono ?_; rintro e w' ⟨rfl, rfl⟩) | (go_at_call 18; refine (H3.out).mono ?_; rintro e w' ⟨rfl, rfl⟩) | (go_at_call 19; refine (H4.out).mono ?_; rintro e w' ⟨rfl, rfl⟩) | (go_at_call 20; refine (H5.out).mono ?_; rintro e w' ⟨rfl, rfl⟩) | (go_at_call 21; refine (H6.out).mono ?_; rintro e w' ⟨rfl, rfl⟩) | (go_at_call 11; refine (callGr (lives_any _)).mono ?_; rintro e w' ⟨pp, rfl, rfl⟩))
    go_ret
    exact ⟨rfl, by (repeat (with_reducible first | exact Below.refl _ _ | (refine bl_set ?_ (by first | omega | (simp; done) | (simp; omega)) _) | refine bl_gr ?_ _ | refine bl_al ?_ _ | refine below_setRow ?_ (by first | omega | (simp; done) | (simp; omega)) _ | refine bl_drewN ?_ _ | refine Below.drew ?_ | (refine bl_tr ?_ (by assumption))))⟩
end Go.Proofs.Ytkbbgnmhfkilgaa
