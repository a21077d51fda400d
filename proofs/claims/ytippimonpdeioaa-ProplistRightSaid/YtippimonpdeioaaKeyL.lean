/- Walks: Before; the examples; the laws KeyOf and KeyTells. -/
import Derived.Test.YtippimonpdeioaaKeyH
namespace Go.Proofs.Ytippimonpdeioaa
set_option linter.all false
open Go.RowKit Go.Sort

theorem key_eql (a b a' b' : Int) (s s' : ByteArray) (w : World) : (binOp .eql 24 (.agg #[.int .i64 a, .int .i64 b, .string s]) (.agg #[.int .i64 a', .int .i64 b', .string s'])).run Try.prog w = .ok (.bool ((Val.mk a b s).eq ⟨a', b', s'⟩)) w := by
  simp [go_sem, Val.eq]
  by_cases h1 : a = a' <;> by_cases h2 : b = b' <;> by_cases h3 : s.toList = s'.toList <;> simp [h1, h2, h3]
theorem key_neq (a b a' b' : Int) (s s' : ByteArray) (w : World) : (binOp .neq 24 (.agg #[.int .i64 a, .int .i64 b, .string s]) (.agg #[.int .i64 a', .int .i64 b', .string s'])).run Try.prog w = .ok (.bool (!(Val.mk a b s).eq ⟨a', b', s'⟩)) w := by
  simp [go_sem, Val.eq]
  by_cases h1 : a = a' <;> by_cases h2 : b = b' <;> by_cases h3 : s.toList = s'.toList <;> simp [h1, h2, h3]
attribute [simp] key_eql key_neq Val.eq_self

def cmpM (a b : Int) : Int := if a < b then -1 else if b < a then 1 else 0
set_option maxRecDepth 100000 in
set_option maxHeartbeats 4000000 in
theorem cmp_any (a b : Int) (w : World) : Calls Try.prog 68 #[.int .i64 a, .int .i64 b] w fun e w' => e = .returned (.int .i64 (cmpM a b)) ∧ w = w' := by
  go_enter Try.func68, Try.ntmps68
  go_wp2
  all_goals go_ret
  all_goals exact ⟨ret_int (by unfold cmpM; (repeat' split) <;> first | rfl | omega), rfl⟩
def orderM (a b : Val) : Int := if a.k = 0 ∧ b.k = 0 then cmpM a.n b.n else cmpM a.k b.k
set_option maxRecDepth 100000 in
set_option maxHeartbeats 4000000 in
theorem order_any (a b : Val) (w : World) : Calls Try.prog 58 #[a.agg, b.agg] w fun e w' => e = .returned (.int .i64 (orderM a b)) ∧ Below w.heap.size w w' := by
  obtain ⟨ak, an, as_⟩ := a
  obtain ⟨bk, bn, bs⟩ := b
  by_cases h1 : ak = 0
  · by_cases h2 : bk = 0
    · have RES := Lib.hid (show orderM ⟨ak, an, as_⟩ ⟨bk, bn, bs⟩ = cmpM an bn by rw [orderM, if_pos ⟨h1, h2⟩])
      have e1 : (ak == 0) = true := by simpa using h1
      have e2 : (bk == 0) = true := by simpa using h2
      clear h1 h2
      go_enter Try.func58, Try.ntmps58
      go_wp2_with (go_at_call 68; refine (cmp_any _ _ _).mono ?_; rintro e w' ⟨rfl, rfl⟩)
      go_ret
      exact ⟨ret_int RES.out.symm, by (repeat (with_reducible first | exact Below.refl _ _ | (refine bl_set ?_ (by first | omega | (simp; done) | (simp; omega)) _) | refine bl_gr ?_ _ | refine bl_al ?_ _ | refine below_setRow ?_ (by first | omega | (simp; done) | (simp; omega)) _ | refine bl_drewN ?_ _ | refine Below.drew ?_ | (refine bl_tr ?_ (by assumption))))⟩
    · have RES := Lib.hid (show orderM ⟨ak, an, as_⟩ ⟨bk, bn, bs⟩ = cmpM ak bk by rw [orderM, if_neg (fun h => h2 h.2)])
      have e1 : (ak == 0) = true := by simpa using h1
      have e2 : (bk == 0) = false := by simpa using h2
      clear h1 h2
      go_enter Try.func58, Try.ntmps58
      go_wp2_with (go_at_call 68; refine (cmp_any _ _ _).mono ?_; rintro e w' ⟨rfl, rfl⟩)
      go_ret
      exact ⟨ret_int RES.out.symm, by (repeat (with_reducible first | exact Below.refl _ _ | (refine bl_set ?_ (by first | omega | (simp; done) | (simp; omega)) _) | refine bl_gr ?_ _ | refine bl_al ?_ _ | refine below_setRow ?_ (by first | omega | (simp; done) | (simp; omega)) _ | refine bl_drewN ?_ _ | refine Below.drew ?_ | (refine bl_tr ?_ (by assumption))))⟩
  · have RES := Lib.hid (show orderM ⟨ak, an, as_⟩ ⟨bk, bn, bs⟩ = cmpM ak bk by rw [orderM, if_neg (fun h => h1 h.1)])
    have e1 : (ak == 0) = false := by simpa using h1
    clear h1
    go_enter Try.func58, Try.ntmps58
    go_wp2_with (go_at_call 68; refine (cmp_any _ _ _).mono ?_; rintro e w' ⟨rfl, rfl⟩)
    go_ret
    exact ⟨ret_int RES.out.symm, by (repeat (with_reducible first | exact Below.refl _ _ | (refine bl_set ?_ (by first | omega | (simp; done) | (simp; omega)) _) | refine bl_gr ?_ _ | refine bl_al ?_ _ | refine below_setRow ?_ (by first | omega | (simp; done) | (simp; omega)) _ | refine bl_drewN ?_ _ | refine Below.drew ?_ | (refine bl_tr ?_ (by assumption))))⟩
end Go.Proofs.Ytippimonpdeioaa
