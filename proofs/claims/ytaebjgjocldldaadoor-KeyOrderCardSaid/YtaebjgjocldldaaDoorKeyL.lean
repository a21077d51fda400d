/- Walks: Before; the examples; the laws KeyOf and KeyTells. -/
import Derived.Test.YtaebjgjocldldaaDoorKeyK
namespace Go.Proofs.YtaebjgjocldldaaDoor
set_option linter.all false
open Go.RowKit Go.Sort

theorem key_eql (a b a' b' : Int) (s s' : ByteArray) (w : World) : (binOp .eql 25 (.agg #[.int .i64 a, .int .i64 b, .string s]) (.agg #[.int .i64 a', .int .i64 b', .string s'])).run Tryd.prog w = .ok (.bool ((Val.mk a b s).eq ⟨a', b', s'⟩)) w := by
  simp [go_sem, Val.eq]
  by_cases h1 : a = a' <;> by_cases h2 : b = b' <;> by_cases h3 : s.toList = s'.toList <;> simp [h1, h2, h3]
theorem key_neq (a b a' b' : Int) (s s' : ByteArray) (w : World) : (binOp .neq 25 (.agg #[.int .i64 a, .int .i64 b, .string s]) (.agg #[.int .i64 a', .int .i64 b', .string s'])).run Tryd.prog w = .ok (.bool (!(Val.mk a b s).eq ⟨a', b', s'⟩)) w := by
  simp [go_sem, Val.eq]
  by_cases h1 : a = a' <;> by_cases h2 : b = b' <;> by_cases h3 : s.toList = s'.toList <;> simp [h1, h2, h3]
attribute [simp] key_eql key_neq Val.eq_self

def cmpM (a b : Int) : Int := if a < b then -1 else if b < a then 1 else 0
set_option maxRecDepth 100000 in
set_option maxHeartbeats 4000000 in
theorem cmp_any (a b : Int) (w : World) : Calls Tryd.prog 41 #[.int .i64 a, .int .i64 b] w fun e w' => e = .returned (.int .i64 (cmpM a b)) ∧ w = w' := by
  go_enter Tryd.func41, Tryd.ntmps41
  go_wp2
  all_goals go_ret
  all_goals exact ⟨ret_int (by unfold cmpM; (repeat' split) <;> first | rfl | omega), rfl⟩
def orderM (a b : Val) : Int := if a.k = 0 ∧ b.k = 0 then cmpM a.n b.n else cmpM a.k b.k
set_option maxRecDepth 100000 in
set_option maxHeartbeats 4000000 in
theorem order_any (a b : Val) (w : World) : Calls Tryd.prog 33 #[a.agg, b.agg] w fun e w' => e = .returned (.int .i64 (orderM a b)) ∧ Below w.heap.size w w' := by
  obtain ⟨ak, an, as_⟩ := a
  obtain ⟨bk, bn, bs⟩ := b
  by_cases h1 : ak = 0
  · by_cases h2 : bk = 0
    · have RES := Lib.hid (show orderM ⟨ak, an, as_⟩ ⟨bk, bn, bs⟩ = cmpM an bn by rw [orderM, if_pos ⟨h1, h2⟩])
      have e1 : (ak == 0) = true := by simpa using h1
      have e2 : (bk == 0) = true := by simpa using h2
      clear h1 h2
      go_enter Tryd.func33, Tryd.ntmps33
      go_wp2_with (go_at_call 41; refine (cmp_any _ _ _).mono ?_; rintro e w' ⟨rfl, rfl⟩)
      go_ret
      exact ⟨ret_int RES.out.symm, by (repeat (with_reducible first | exact Below.refl _ _ | (refine bl_set ?_ (by first | omega | (simp; done) | (simp; omega)) _) | refine bl_gr ?_ _ | refine bl_al ?_ _ | refine below_setRow ?_ (by first | omega | (simp; done) | (simp; omega)) _ | refine bl_drewN ?_ _ | refine Below.drew ?_ | (refine bl_tr ?_ (by assumption))))⟩
    · have RES := Lib.hid (show orderM ⟨ak, an, as_⟩ ⟨bk, bn, bs⟩ = cmpM ak bk by rw [orderM, if_neg (fun h => h2 h.2)])
      have e1 : (ak == 0) = true := by simpa using h1
      have e2 : (bk == 0) = false := by simpa using h2
      clear h1 h2
      go_enter Tryd.func33, Tryd.ntmps33
      go_wp2_with (go_at_call 41; refine (cmp_any _ _ _).mono ?_; rintro e w' ⟨rfl, rfl⟩)
      go_ret
      exact ⟨ret_int RES.out.symm, by (repeat (with_reducible first | exact Below.refl _ _ | (refine bl_set ?_ (by first | omega | (simp; done) | (simp; omega)) _) | refine bl_gr ?_ _ | refine bl_al ?_ _ | refine below_setRow ?_ (by first | omega | (simp; done) | (simp; omega)) _ | refine bl_drewN ?_ _ | refine Below.drew ?_ | (refine bl_tr ?_ (by assumption))))⟩
  · have RES := Lib.hid (show orderM ⟨ak, an, as_⟩ ⟨bk, bn, bs⟩ = cmpM ak bk by rw [orderM, if_neg (fun h => h1 h.1)])
    have e1 : (ak == 0) = false := by simpa using h1
    clear h1
    go_enter Tryd.func33, Tryd.ntmps33
    go_wp2_with (go_at_call 41; refine (cmp_any _ _ _).mono ?_; rintro e w' ⟨rfl, rfl⟩)
    go_ret
    exact ⟨ret_int RES.out.symm, by (repeat (with_reducible first | exact Below.refl _ _ | (refine bl_set ?_ (by first | omega | (simp; done) | (simp; omega)) _) | refine bl_gr ?_ _ | refine bl_al ?_ _ | refine below_setRow ?_ (by first | omega | (simp; done) | (simp; omega)) _ | refine bl_drewN ?_ _ | refine Below.drew ?_ | (refine bl_tr ?_ (by assumption))))⟩
def beforeM (a b : Val) : Bool := rightM a && (rightM b && decide (orderM a b < 0))
set_option maxRecDepth 100000 in
set_option maxHeartbeats 4000000 in
theorem before_any (a b : Val) (ha : a.s.size ≤ maxLen) (hb : b.s.size ≤ maxLen) (w : World) : Calls Tryd.prog 21 #[a.agg, b.agg] w fun e w' => e = .returned (.bool (beforeM a b)) ∧ Below w.heap.size w w' := by
  have h1 := fun w => right_any a ha w
  have h2 := fun w => right_any b hb w
  have h3 := fun w => order_any a b w
  unfold beforeM
  generalize rightM a = ra at *
  generalize rightM b = rb at *
  generalize orderM a b = o at *
  have H1 := Lib.hid h1
  have H2 := Lib.hid h2
  have H3 := Lib.hid h3
  clear h1 h2 h3
  cases ra
  · go_enter Tryd.func21, Tryd.ntmps21
    go_wp2_with fail
    refine (callGr (H1.out _)).mono ?_
    rintro e w' ⟨pp, rfl, rfl⟩
    go_wp2_with fail
    go_ret
    exact ⟨rfl, by (repeat (with_reducible first | exact Below.refl _ _ | (refine bl_set ?_ (by first | omega | (simp; done) | (simp; omega)) _) | refine bl_gr ?_ _ | refine bl_al ?_ _ | refine below_setRow ?_ (by first | omega | (simp; done) | (simp; omega)) _ | refine bl_drewN ?_ _ | refine Below.drew ?_ | (refine bl_tr ?_ (by assumption))))⟩
  · cases rb
    · go_enter Tryd.func21, Tryd.ntmps21
      go_wp2_with fail
      refine (callGr (H1.out _)).mono ?_
      rintro e w' ⟨pp, rfl, rfl⟩
      go_wp2_with fail
      refine (callGr (H2.out _)).mono ?_
      rintro e w' ⟨pp, rfl, rfl⟩
      go_wp2_with fail
      go_ret
      exact ⟨rfl, by (repeat (with_reducible first | exact Below.refl _ _ | (refine bl_set ?_ (by first | omega | (simp; done) | (simp; omega)) _) | refine bl_gr ?_ _ | refine bl_al ?_ _ | refine below_setRow ?_ (by first | omega | (simp; done) | (simp; omega)) _ | refine bl_drewN ?_ _ | refine Below.drew ?_ | (refine bl_tr ?_ (by assumption))))⟩
    · go_enter Tryd.func21, Tryd.ntmps21
      go_wp2_with fail
      refine (callGr (H1.out _)).mono ?_
      rintro e w' ⟨pp, rfl, rfl⟩
      go_wp2_with fail
      refine (callGr (H2.out _)).mono ?_
      rintro e w' ⟨pp, rfl, rfl⟩
      go_wp2_with fail
      refine (callGr (H3.out _)).mono ?_
      rintro e w' ⟨pp, rfl, rfl⟩
      go_wp2_with fail
      go_ret
      exact ⟨rfl, by (repeat (with_reducible first | exact Below.refl _ _ | (refine bl_set ?_ (by first | omega | (simp; done) | (simp; omega)) _) | refine bl_gr ?_ _ | refine bl_al ?_ _ | refine below_setRow ?_ (by first | omega | (simp; done) | (simp; omega)) _ | refine bl_drewN ?_ _ | refine Below.drew ?_ | (refine bl_tr ?_ (by assumption))))⟩

theorem ex1 : ofM ⟨5, 0, ⟨#[55]⟩⟩ = ⟨⟨0, 7, ⟨#[]⟩⟩, true⟩ := by
  rw [ofM_txt (by unfold isNumM wholeM nanV Val.eq; rfl) (by unfold txtB; rfl)]
  have : indexM (ByteArray.mk #[55]).data.toList = ⟨7, true⟩ := by decide +kernel
  simp only [wordM, this]
  rfl
theorem ex2 : ofM ⟨5, 0, ⟨#[48, 55]⟩⟩ = ⟨⟨1, 0, ⟨#[48, 55]⟩⟩, true⟩ := by
  rw [ofM_txt (by unfold isNumM wholeM nanV Val.eq; rfl) (by unfold txtB; rfl)]
  have : indexM (ByteArray.mk #[48, 55]).data.toList = ⟨0, false⟩ := by decide +kernel
  simp only [wordM, this]
  rfl
theorem ex3 : ofM ⟨3, -1, ⟨#[]⟩⟩ = ⟨⟨1, 0, ⟨#[45, 49]⟩⟩, true⟩ := by
  have hw : wholeM ⟨3, -1, ⟨#[]⟩⟩ = true := by
    unfold wholeM
    simp only [(empty_iff _).2 rfl]
    rfl
  have hn : isNumM ⟨3, -1, ⟨#[]⟩⟩ = true := by rw [isNumM, hw]; rfl
  have ht : numTextM ⟨3, -1, ⟨#[]⟩⟩ = ⟨#[45, 49]⟩ := by
    rw [numTextM, hw, if_pos rfl]
    have : Lib.itoa (-1) = [45, 49] := by
      rw [show (-1 : Int) = -((1 : Nat) : Int) from rfl, Lib.itoa_neg 1 (by omega), Lib.decDigits_one (by omega)]
      rfl
    simp only [this]
    rfl
  rw [ofM_num hn, ht]
  have : indexM (ByteArray.mk #[45, 49]).data.toList = ⟨0, false⟩ := by decide +kernel
  simp only [wordM, this]
  rfl
theorem ex4 : beforeM ⟨0, 7, ⟨#[]⟩⟩ ⟨1, 0, ⟨#[48, 55]⟩⟩ = true := by
  have r1 : rightM ⟨0, 7, ⟨#[]⟩⟩ = true := by
    show ((⟨#[]⟩ : ByteArray).toList.isEmpty && (decide ((0 : Int) ≤ 7) && decide ((7 : Int) ≤ 4294967294))) = true
    rw [(empty_iff _).2 rfl]
    rfl
  have r2 : rightM ⟨1, 0, ⟨#[48, 55]⟩⟩ = true := by
    show ((0 : Int) == 0 && (decide ((ByteArray.mk #[48, 55]).size ≤ 65536) && !(indexM (ByteArray.mk #[48, 55]).data.toList).ok)) = true
    have : indexM (ByteArray.mk #[48, 55]).data.toList = ⟨0, false⟩ := by decide +kernel
    rw [this]
    rfl
  rw [beforeM, r1, r2]
  rfl

theorem of_at (k n : Int) (s : ByteArray) (r : OfR) (h : ofM ⟨k, n, s⟩ = r) (hv : (Val.mk k n s).ok) (w : World) (ht : Tab w) : Calls Tryd.prog 8 #[.agg #[.int .i64 k, .int .i64 n, .string s]] w fun e w' => e = .returned (.tuple #[.agg #[.int .i64 r.v.k, .int .i64 r.v.n, .string r.v.s], .bool r.ok]) ∧ Below w.heap.size w w' := by
  have := of_any ⟨k, n, s⟩ hv w ht
  rw [h] at this
  exact this
set_option maxRecDepth 100000 in
set_option maxHeartbeats 4000000 in
theorem awake_any (w : World) (ht : Tab w) : Calls Tryd.prog 7 #[] w fun e w' => e = .returned (.bool true) ∧ Below w.heap.size w w' := by
  have h1 := fun (w' : World) (hb : Below w.heap.size w w') => of_at 5 0 ⟨#[55]⟩ _ ex1 (ok_mk c5 c0 (by decide)) w' (ht.below hb)
  have h2 := fun (w' : World) (hb : Below w.heap.size w w') => of_at 5 0 ⟨#[48, 55]⟩ _ ex2 (ok_mk c5 c0 (by decide)) w' (ht.below hb)
  have h3 := fun (w' : World) (hb : Below w.heap.size w w') => of_at 3 (-1) ⟨#[]⟩ _ ex3 (ok_mk c3 ⟨by decide, by decide⟩ (by decide)) w' (ht.below hb)
  have h4 := fun w => before_any ⟨0, 7, ⟨#[]⟩⟩ ⟨1, 0, ⟨#[48, 55]⟩⟩ (by decide) (by decide) w
  rw [ex4] at h4
  have H1 := Lib.hid h1
  have H2 := Lib.hid h2
  have H3 := Lib.hid h3
  have H4 := Lib.hid h4
  clear h1 h2 h3 h4
  go_enter Tryd.func7, Tryd.ntmps7
  go_wp2_with fail
  refine (callGr (H1.out _ (by (repeat (with_reducible first | exact Below.refl _ _ | (refine bl_set ?_ (by first | omega | (simp; done) | (simp; omega)) _) | refine bl_gr ?_ _ | refine bl_al ?_ _ | refine below_setRow ?_ (by first | omega | (simp; done) | (simp; omega)) _ | refine bl_drewN ?_ _ | refine Below.drew ?_ | (refine bl_tr ?_ (by assumption))))))).mono ?_
  rintro e w' ⟨pp, rfl, rfl⟩
  go_wp2_with fail
  refine (callGr (H2.out _ (by (repeat (with_reducible first | exact Below.refl _ _ | (refine bl_set ?_ (by first | omega | (simp; done) | (simp; omega)) _) | refine bl_gr ?_ _ | refine bl_al ?_ _ | refine below_setRow ?_ (by first | omega | (simp; done) | (simp; omega)) _ | refine bl_drewN ?_ _ | refine Below.drew ?_ | (refine bl_tr ?_ (by assumption))))))).mono ?_
  rintro e w' ⟨pp2, rfl, rfl⟩
  go_wp2_with fail
  refine (callGr (H3.out _ (by (repeat (with_reducible first | exact Below.refl _ _ | (refine bl_set ?_ (by first | omega | (simp; done) | (simp; omega)) _) | refine bl_gr ?_ _ | refine bl_al ?_ _ | refine below_setRow ?_ (by first | omega | (simp; done) | (simp; omega)) _ | refine bl_drewN ?_ _ | refine Below.drew ?_ | (refine bl_tr ?_ (by assumption))))))).mono ?_
  rintro e w' ⟨pp3, rfl, rfl⟩
  go_wp2_with fail
  refine (callGr (H4.out _)).mono ?_
  rintro e w' ⟨pp4, rfl, rfl⟩
  go_wp2_with fail
  go_ret
  exact ⟨rfl, by (repeat (with_reducible first | exact Below.refl _ _ | (refine bl_set ?_ (by first | omega | (simp; done) | (simp; omega)) _) | refine bl_gr ?_ _ | refine bl_al ?_ _ | refine below_setRow ?_ (by first | omega | (simp; done) | (simp; omega)) _ | refine bl_drewN ?_ _ | refine Below.drew ?_ | (refine bl_tr ?_ (by assumption))))⟩
end Go.Proofs.YtaebjgjocldldaaDoor
