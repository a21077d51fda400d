/- Walks of package key and of its reference: word, Of. -/
import Derived.Test.YtaebjgjocldldaaDoorKeyD
namespace Go.Proofs.YtaebjgjocldldaaDoor
set_option linter.all false
open Go.RowKit Go.Sort

structure OfR where
  v : Val
  ok : Bool
def ofR (r : OfR) : Value := .tuple #[r.v.agg, .bool r.ok]
def txtB (v : Val) : Bool := v.k == 5 && (v.n == 0 && decide (v.s.size ≤ 65536))
def symB (v : Val) : Bool := v.k == 6 && (v.s.toList.isEmpty && decide (1 ≤ v.n))
def ofM (v : Val) : OfR := if isNumM v then ⟨wordM (numTextM v), true⟩ else if txtB v then ⟨wordM v.s, true⟩ else if symB v then ⟨⟨2, v.n, ⟨#[]⟩⟩, true⟩ else ⟨.zero, false⟩

set_option maxRecDepth 100000 in
set_option maxHeartbeats 4000000 in
theorem word_any (s : ByteArray) (w : World) (hs : s.size ≤ maxLen) : Calls Tryd.prog 24 #[.string s] w fun e w' => e = .returned (wordM s).agg ∧ Below w.heap.size w w' := by
  have hi := fun w => index_any s w hs
  unfold wordM
  generalize indexM s.data.toList = I at *
  obtain ⟨n, ok⟩ := I
  unfold idxV at hi
  simp only at hi ⊢
  have HI := Lib.hid hi
  clear hi
  cases ok
  · simp only [Bool.false_eq_true, if_false]
    go_enter Tryd.func24, Tryd.ntmps24
    go_wp2_with (go_at_call 12; refine (HI.out _).mono ?_; rintro e w' ⟨rfl, rfl⟩)
    exact bodyPost_ret (v := .agg #[.int .i64 1, .int .i64 0, .string s]) (by simp [results, Tryd.results24, go_sem]) rfl ⟨rfl, by (repeat (with_reducible first | exact Below.refl _ _ | (refine bl_set ?_ (by first | omega | (simp; done) | (simp; omega)) _) | refine bl_gr ?_ _ | refine bl_al ?_ _ | refine below_setRow ?_ (by first | omega | (simp; done) | (simp; omega)) _ | refine bl_drewN ?_ _ | refine Below.drew ?_ | (refine bl_tr ?_ (by assumption))))⟩
  · simp only [if_true]
    go_enter Tryd.func24, Tryd.ntmps24
    go_wp2_with (go_at_call 12; refine (HI.out _).mono ?_; rintro e w' ⟨rfl, rfl⟩)
    exact bodyPost_ret (v := .agg #[.int .i64 0, .int .i64 n, .string ⟨#[]⟩]) (by simp [results, Tryd.results24, go_sem]) rfl ⟨rfl, by (repeat (with_reducible first | exact Below.refl _ _ | (refine bl_set ?_ (by first | omega | (simp; done) | (simp; omega)) _) | refine bl_gr ?_ _ | refine bl_al ?_ _ | refine below_setRow ?_ (by first | omega | (simp; done) | (simp; omega)) _ | refine bl_drewN ?_ _ | refine Below.drew ?_ | (refine bl_tr ?_ (by assumption))))⟩

set_option maxRecDepth 100000 in
set_option maxHeartbeats 4000000 in
theorem text_any (s : ByteArray) (w : World) (hs : s.size ≤ maxLen) (h6 : s.size ≤ 65536) : Calls Tryd.prog 27 #[.string s] w fun e w' => e = .returned (ofR ⟨wordM s, true⟩) ∧ Below w.heap.size w w' := by
  have hi := fun w => rindex_any s w hs
  have hd : decide (65536 < s.size) = false := decide_eq_false (by omega)
  have hd2 : decide ((65536 : Int) < (s.size : Int)) = false := decide_eq_false (by omega)
  clear hs h6
  unfold wordM
  generalize indexM s.data.toList = I at *
  obtain ⟨n, ok⟩ := I
  unfold idxV at hi
  simp only at hi ⊢
  have HI := Lib.hid hi
  clear hi
  cases ok
  · simp only [Bool.false_eq_true, if_false]
    go_enter Tryd.func27, Tryd.ntmps27
    go_wp2_with (go_at_call 13; refine (HI.out _).mono ?_; rintro e w' ⟨rfl, rfl⟩)
    exact bodyPost_ret (v := .tuple #[.agg #[.int .i64 1, .int .i64 0, .string s], .bool true]) (by simp [results, Tryd.results27, go_sem]) rfl ⟨rfl, by (repeat (with_reducible first | exact Below.refl _ _ | (refine bl_set ?_ (by first | omega | (simp; done) | (simp; omega)) _) | refine bl_gr ?_ _ | refine bl_al ?_ _ | refine below_setRow ?_ (by first | omega | (simp; done) | (simp; omega)) _ | refine bl_drewN ?_ _ | refine Below.drew ?_ | (refine bl_tr ?_ (by assumption))))⟩
  · simp only [if_true]
    go_enter Tryd.func27, Tryd.ntmps27
    go_wp2_with (go_at_call 13; refine (HI.out _).mono ?_; rintro e w' ⟨rfl, rfl⟩)
    exact bodyPost_ret (v := .tuple #[.agg #[.int .i64 0, .int .i64 n, .string ⟨#[]⟩], .bool true]) (by simp [results, Tryd.results27, go_sem]) rfl ⟨rfl, by (repeat (with_reducible first | exact Below.refl _ _ | (refine bl_set ?_ (by first | omega | (simp; done) | (simp; omega)) _) | refine bl_gr ?_ _ | refine bl_al ?_ _ | refine below_setRow ?_ (by first | omega | (simp; done) | (simp; omega)) _ | refine bl_drewN ?_ _ | refine Below.drew ?_ | (refine bl_tr ?_ (by assumption))))⟩
set_option maxRecDepth 100000 in
set_option maxHeartbeats 4000000 in
theorem text_long (s : ByteArray) (w : World) (h6 : ¬ s.size ≤ 65536) : Calls Tryd.prog 27 #[.string s] w fun e w' => e = .returned (ofR ⟨.zero, false⟩) ∧ Below w.heap.size w w' := by
  have hd : decide (65536 < s.size) = true := decide_eq_true (by omega)
  have hd2 : decide ((65536 : Int) < (s.size : Int)) = true := decide_eq_true (by omega)
  clear h6
  go_enter Tryd.func27, Tryd.ntmps27
  go_wp2_with fail
  exact bodyPost_ret (v := .tuple #[.agg #[.int .i64 0, .int .i64 0, .string ⟨#[]⟩], .bool false]) (by simp [results, Tryd.results27, go_sem]) rfl ⟨rfl, by (repeat (with_reducible first | exact Below.refl _ _ | (refine bl_set ?_ (by first | omega | (simp; done) | (simp; omega)) _) | refine bl_gr ?_ _ | refine bl_al ?_ _ | refine below_setRow ?_ (by first | omega | (simp; done) | (simp; omega)) _ | refine bl_drewN ?_ _ | refine Below.drew ?_ | (refine bl_tr ?_ (by assumption))))⟩
end Go.Proofs.YtaebjgjocldldaaDoor
