/- The law KeyMerges, walked. -/
import Derived.Test.YtaebjgjocldldaaDoorSrS
import Derived.Test.YtaebjgjocldldaaDoorKeyM
namespace Go.Proofs.YtaebjgjocldldaaDoor
set_option linter.all false
open Go.ChangeShapes Go.WideShapes Go.ChangeAt Go.RowKit Go.Sort Go.Deep

theorem text_index (u : Nat) (h : u ≤ 4294967294) : indexM (keyTextM ⟨0, (u : Int), ⟨#[]⟩⟩).data.toList = ⟨(u : Int), true⟩ := by
  have hr : rightM ⟨0, (u : Int), ⟨#[]⟩⟩ = true := by
    unfold rightM
    rw [if_pos rfl, (empty_iff _).2 rfl]
    simp
    omega
  unfold keyTextM
  rw [hr, if_pos rfl, if_pos rfl]
  simp only [Lib.itoa_nonneg]
  rw [show (strL (Lib.decDigits u)).data.toList = Lib.decDigits u from rfl]
  exact index_dec u h
theorem nat_key (n : Int) : ∃ N : Nat, wrap64 ((IntKind.u64.wrap n).tmod 4294967295) = (N : Int) ∧ N ≤ 4294967294 := by
  rw [IntKind.wrap_u64]
  obtain ⟨u, hu⟩ := Int.eq_ofNat_of_zero_le (show 0 ≤ n % 18446744073709551616 by omega)
  rw [hu]
  exact ⟨u % 4294967295, w64 rfl (by omega), by omega⟩
theorem text_size (u : Nat) (h : u ≤ 4294967294) : (keyTextM ⟨0, (u : Int), ⟨#[]⟩⟩).size ≤ maxLen := by
  have hr : rightM ⟨0, (u : Int), ⟨#[]⟩⟩ = true := by
    unfold rightM
    rw [if_pos rfl, (empty_iff _).2 rfl]
    simp
    omega
  unfold keyTextM
  rw [hr, if_pos rfl, if_pos rfl]
  simp only [Lib.itoa_nonneg]
  have h1 := dec_len 9 u (by omega)
  show (Lib.decDigits u).toArray.size ≤ maxLen
  rw [List.size_toArray]
  unfold maxLen
  omega
theorem take_slice {w : World} {A : Option Addr} {cap : Nat} {xs : List Val} (h : SlOf w 3 Val.cs (.slice A xs.length cap) xs) (k : Nat) {K : Int} (hK : K = k) : ∃ m : Nat, min (xs.length : Int) K = (m : Int) ∧ (m : Int) ≤ (cap : Int) ∧ ¬ (m : Int) < 0 ∧ Hid (m = (xs.take k).length) ∧
    Hid (∀ Z, Below w.heap.size w Z → SlOf Z 3 Val.cs (.slice A m cap) (xs.take k)) := by
  obtain ⟨A', c, e, hc, hm⟩ := h.form
  simp only [Value.slice.injEq, true_and] at e
  obtain ⟨rfl, rfl⟩ := e
  have hl : (xs.take k).length = min k xs.length := List.length_take
  refine ⟨(xs.take k).length, ?_, by omega, by omega, Lib.hid rfl, Lib.hid fun Z hZ => ?_⟩
  · rw [hl, hK]
    omega
  · have := h.below hZ
    obtain ⟨hm', A2, c2, e2, hc2, hx⟩ := this
    simp only [Value.slice.injEq, true_and] at e2
    obtain ⟨rfl, rfl⟩ := e2
    refine ⟨by omega, A, cap, rfl, by omega, fun h0 => ?_⟩
    obtain ⟨b, off, hA, hb, hx⟩ := hx (by omega)
    refine ⟨b, off, hA, hb, fun i x hi j u hj => hx i x ?_ j u hj⟩
    rw [List.getElem?_take] at hi
    split at hi
    · exact hi
    · cases hi

set_option maxRecDepth 100000 in
set_option maxHeartbeats 16000000 in
theorem keyMerges_w (av bv : Value) (A B : List Val) (n : Int) (okA : ∀ x ∈ A, x.s.size ≤ maxLen) (okB : ∀ x ∈ B, x.s.size ≤ maxLen) (w : World) (ht : Tab w) (ha : SlOf w 3 Val.cs av A) (hb : SlOf w 3 Val.cs bv B) :
    Calls Tryd.prog 6 #[av, bv, .int .i64 n] w fun e w' => e = .returned (.bool true) ∧ Below w.heap.size w w' := by
  have AW := Lib.hid (callGr (awake_any w ht))
  obtain ⟨A0, ca, rfl, hca, _⟩ := ha.form
  obtain ⟨B0, cb, rfl, hcb, _⟩ := hb.form
  obtain ⟨ma, e1, e2, e3, MA, SA⟩ := take_slice ha 100 (K := 100) rfl
  obtain ⟨mb, e4, e5, e6, MB, SB⟩ := take_slice hb 100 (K := 100) rfl
  have LA := Lib.hid (show (A.take 100).length ≤ 100 ∧ (B.take 100).length ≤ 100 from ⟨by rw [List.length_take]; omega, by rw [List.length_take]; omega⟩)
  have OK := Lib.hid (show (∀ x ∈ A.take 100, x.s.size ≤ maxLen) ∧ ∀ x ∈ B.take 100, x.s.size ≤ maxLen from ⟨fun x hx => okA x (List.mem_of_mem_take hx), fun x hx => okB x (List.mem_of_mem_take hx)⟩)
  have TB := Lib.hid ht
  clear ha hb hca hcb okA okB ht
  generalize A.take 100 = C at *
  generalize B.take 100 = D at *
  go_enter Tryd.func6, Tryd.ntmps6
  go_upto_region 3 with (go_at_call 7; refine AW.out.mono ?_; rintro e w' ⟨pp, rfl, rfl⟩)
  (refine wp_region_held_drew (S := (fun _ : World => True)) Tryd.mixed (by trivial) (fun hS => ?_); (refine wpAnyH_take (i := 0) (v := ?_) rfl (by kernel_rfl) (by kernel_rfl) (by kernel_rfl) (fun _ _ _ h => h) ?_ (by assumption) ?_; rotate_left; (next => (refine Or.inl ⟨by kernel_rfl, ?_⟩; ((intro w hSw; (try dsimp only at hSw); go_simp) <;> with_reducible rfl))); (try simp only [Act.put, List.setIfInBounds_toArray, List.set_cons_zero, List.set_cons_succ])); (refine wpAnyH_take (i := 1) (v := ?_) rfl (by kernel_rfl) (by kernel_rfl) (by kernel_rfl) (fun _ _ _ h => h) ?_ (by assumption) ?_; rotate_left; (next => (refine Or.inl ⟨by kernel_rfl, ?_⟩; ((intro w hSw; (try dsimp only at hSw); go_simp) <;> with_reducible rfl))); (try simp only [Act.put, List.setIfInBounds_toArray, List.set_cons_zero, List.set_cons_succ])); (refine wpAnyH_take (i := 2) (v := ?_) rfl (by kernel_rfl) (by kernel_rfl) (by kernel_rfl) (fun _ _ _ h => h) ?_ (by assumption) ?_; rotate_left; (next => (refine Or.inl ⟨by kernel_rfl, ?_⟩; ((intro w hSw; (try dsimp only at hSw); go_simp) <;> with_reducible rfl))); (try simp only [Act.put, List.setIfInBounds_toArray, List.set_cons_zero, List.set_cons_succ])); (refine wpAnyH_take (i := 3) (v := ?_) rfl (by kernel_rfl) (by kernel_rfl) (by kernel_rfl) (fun _ _ _ h => h) ?_ (by assumption) ?_; rotate_left; (next => (refine Or.inl ⟨by kernel_rfl, ?_⟩; ((intro w hSw; (try dsimp only at hSw); go_simp) <;> with_reducible rfl))); (try simp only [Act.put, List.setIfInBounds_toArray, List.set_cons_zero, List.set_cons_succ])); (refine wpAnyH_take (i := 4) (v := ?_) rfl (by kernel_rfl) (by kernel_rfl) (by kernel_rfl) (fun _ _ _ h => h) ?_ (by assumption) ?_; rotate_left; (next => (refine Or.inl ⟨by kernel_rfl, ?_⟩; ((intro w hSw; (try dsimp only at hSw); go_simp) <;> with_reducible rfl))); (try simp only [Act.put, List.setIfInBounds_toArray, List.set_cons_zero, List.set_cons_succ])); (refine wpAnyH_take (i := 5) (v := ?_) rfl (by kernel_rfl) (by kernel_rfl) (by kernel_rfl) (fun _ _ _ h => h) ?_ (by assumption) ?_; rotate_left; (next => (refine Or.inl ⟨by kernel_rfl, ?_⟩; ((intro w hSw; (try dsimp only at hSw); go_simp) <;> with_reducible rfl))); (try simp only [Act.put, List.setIfInBounds_toArray, List.set_cons_zero, List.set_cons_succ])); (refine wpAnyH_take (i := 6) (v := ?_) rfl (by kernel_rfl) (by kernel_rfl) (by kernel_rfl) (fun _ _ _ h => h) ?_ (by assumption) ?_; rotate_left; (next => (refine Or.inl ⟨by kernel_rfl, ?_⟩; ((intro w hSw; (try dsimp only at hSw); go_simp) <;> with_reducible rfl))); (try simp only [Act.put, List.setIfInBounds_toArray, List.set_cons_zero, List.set_cons_succ])); (refine wpAnyH_take (i := 7) (v := ?_) rfl (by kernel_rfl) (by kernel_rfl) (by kernel_rfl) (fun _ _ _ h => h) ?_ (by assumption) ?_; rotate_left; (next => (refine Or.inl ⟨by kernel_rfl, ?_⟩; ((intro w hSw; (try dsimp only at hSw); go_simp) <;> with_reducible rfl))); (try simp only [Act.put, List.setIfInBounds_toArray, List.set_cons_zero, List.set_cons_succ])); (refine wpAnyH_take (i := 8) (v := ?_) rfl (by kernel_rfl) (by kernel_rfl) (by kernel_rfl) (fun _ _ _ h => h) ?_ (by assumption) ?_; rotate_left; (next => (refine Or.inl ⟨by kernel_rfl, ?_⟩; ((intro w hSw; (try dsimp only at hSw); go_simp) <;> with_reducible rfl))); (try simp only [Act.put, List.setIfInBounds_toArray, List.set_cons_zero, List.set_cons_succ])); (refine wpAnyH_take (i := 9) (v := ?_) rfl (by kernel_rfl) (by kernel_rfl) (by kernel_rfl) (fun _ _ _ h => h) ?_ (by assumption) ?_; rotate_left; (next => (refine Or.inl ⟨by kernel_rfl, ?_⟩; ((intro w hSw; (try dsimp only at hSw); go_simp) <;> with_reducible rfl))); (try simp only [Act.put, List.setIfInBounds_toArray, List.set_cons_zero, List.set_cons_succ])); (refine wpAnyH_take (i := 10) (v := ?_) rfl (by kernel_rfl) (by kernel_rfl) (by kernel_rfl) (fun _ _ _ h => h) ?_ (by assumption) ?_; rotate_left; (next => (refine Or.inl ⟨by kernel_rfl, ?_⟩; ((intro w hSw; (try dsimp only at hSw); go_simp) <;> with_reducible rfl))); (try simp only [Act.put, List.setIfInBounds_toArray, List.set_cons_zero, List.set_cons_succ])); (refine wpAnyH_take (i := 11) (v := ?_) rfl (by kernel_rfl) (by kernel_rfl) (by kernel_rfl) (fun _ _ _ h => h) ?_ (by assumption) ?_; rotate_left; (next => (refine Or.inl ⟨by kernel_rfl, ?_⟩; ((intro w hSw; (try dsimp only at hSw); go_simp) <;> with_reducible rfl))); (try simp only [Act.put, List.setIfInBounds_toArray, List.set_cons_zero, List.set_cons_succ])); refine wpAnyH_done (by kernel_rfl) ?_ _)
  go_simp
  go_upto_region 4 with fail
  refine wp_world3 (fun X => Below w.heap.size w X) (by (repeat (with_reducible first | exact Below.refl _ _ | (refine bl_set ?_ (by first | omega | (simp; done) | (simp; omega)) _) | refine bl_gr ?_ _ | refine bl_al ?_ _ | refine below_setRow ?_ (by first | omega | (simp; done) | (simp; omega)) _ | refine bl_drewN ?_ _ | refine Below.drew ?_ | (refine bl_tr ?_ (by assumption))))) ?_
  intro W1 hb1
  have B1 := Lib.hid hb1
  clear hb1
  clear e1 e2 e3 e4 e5 e6
  have T1 := Lib.hid (own_empty (α := Val) (en := Val.cs) (E := 25) (size := 3) (heap_alloc_new W1 (.cells #[] 25)) (Nat.le_refl _))
  have T2 := Lib.hid ((SA.out _ B1.out).below (bl_al (Below.refl _ _) (.cells #[] 25)))
  have T3 := Lib.hid (show (([] : List Val) ++ C).length * 32 ≤ 140737488355328 by have := LA.out; simp; omega)
  have T4 := Lib.hid (show (([] : List Val) ++ C).length ≤ 1000000 by have := LA.out; simp; omega)
  have T5 := Lib.hid (show W1.heap.size ≤ (W1.alloc (.cells #[] 25)).heap.size by simp)
  go_upto_region 5 with (first | (at_builtin; refine wpList_appG elem_key rfl _ _ rfl W1.heap.size [] C (yv := .slice (some ⟨W1.heap.size, 0, none⟩) 0 0) (sv := .slice A0 ma ca) rfl rfl T1.out T5.out T2.out T3.out T4.out ?_; intro A3 n3 w3 o3 g3; obtain ⟨m3, hm3⟩ : ∃ m3, m3 = (([] : List Val) ++ C).length := ⟨_, rfl⟩; rw [← hm3]; have R3 := Lib.hid (And.intro (show w3.ownsRow W1.heap.size 25 3 (.slice A3 m3 n3) C.length (flat Val.cs C) from by rw [hm3]; exact o3) (grown_lo (bl_al (Below.refl _ _) _) g3 (own_lo T1.out))); clear o3 g3 hm3) | (at_builtin; refine wpList_appG elem_key rfl _ _ rfl W1.heap.size C D (yv := .slice A3 m3 n3) (sv := .slice B0 mb cb) rfl rfl R3.out.1 R3.out.2.size (SB.out _ (bl_tr B1.out R3.out.2)) (by have := LA.out; rw [List.length_append]; omega) (by have := LA.out; rw [List.length_append]; omega) ?_; intro A4 n4 w4 o4 g4; obtain ⟨m4, hm4⟩ : ∃ m4, m4 = (C ++ D).length := ⟨_, rfl⟩; rw [← hm4]; have R4 := Lib.hid (And.intro (show SlOf w4 3 Val.cs (.slice A4 m4 n4) (C ++ D) from by rw [hm4]; exact ownsRow_slOf cs_len o4) (grown_lo R3.out.2 g4 (own_lo R3.out.1))); clear o4 g4 hm4) | (go_at_call 18; refine (keysOrder_any (.slice A4 m4 n4) (C ++ D) (fun x hx => (List.mem_append.1 hx).elim (OK.out.1 x) (OK.out.2 x)) (by have := LA.out; rw [List.length_append]; omega) _ R4.out.1).mono ?_; rintro e w5 ⟨u1, rfl, L1, k1, k2, k3⟩; have R5 := Lib.hid (And.intro k1 (And.intro (ownsRow_slOf cs_len k2) (bl_tr (bl_tr B1.out R4.out.2) k3))); clear k1 k2 k3))
  have N1 := Lib.hid (own_empty (α := Val) (en := Val.cs) (E := 25) (size := 3) (heap_alloc_new w5 (.cells #[] 25)) (Nat.le_refl _))
  have N5 := Lib.hid (show w5.heap.size ≤ (w5.alloc (.cells #[] 25)).heap.size by simp)
  go_upto_region 6 with (first | (go_at_call_of 18 (Value.slice A0 ma ca); refine (keysOrder_any (.slice A0 ma ca) C OK.out.1 (by have := LA.out; omega) _ (SA.out _ (bl_tr R5.out.2.2 (bl_al (Below.refl _ _) _)))).mono ?_; rintro e w6 ⟨u2, rfl, L2, k1, k2, k3⟩; have R6 := Lib.hid (And.intro k1 (And.intro (ownsRow_slOf cs_len k2) k3)); have LB := Lib.hid (show L2.length ≤ 100 by rw [k1.2.len]; exact Nat.le_trans (List.length_filter_le _ _) LA.out.1); clear k1 k2 k3) | (at_builtin; refine wpList_appG elem_key rfl _ _ rfl w5.heap.size [] L2 (yv := .slice (some ⟨w5.heap.size, 0, none⟩) 0 0) (sv := u2) rfl rfl (ownsRow_below N1.out R6.out.2.2) (Nat.le_trans N5.out R6.out.2.2.size) R6.out.2.1 (by have := LB.out; simp; omega) (by have := LB.out; simp; omega) ?_; intro A7 n7 w7 o7 g7; obtain ⟨m7, hm7⟩ : ∃ m7, m7 = (([] : List Val) ++ L2).length := ⟨_, rfl⟩; rw [← hm7]; have R7 := Lib.hid (And.intro (show w7.ownsRow w5.heap.size 25 3 (.slice A7 m7 n7) L2.length (flat Val.cs L2) from by rw [hm7]; exact o7) (grown_lo (bl_tr (bl_al (Below.refl _ _) _) R6.out.2.2) g7 (own_lo N1.out))); clear o7 g7 hm7) | (at_builtin; refine wpList_appG elem_key rfl _ _ rfl w5.heap.size L2 D (yv := .slice A7 m7 n7) (sv := .slice B0 mb cb) rfl rfl R7.out.1 R7.out.2.size (SB.out _ (bl_tr R5.out.2.2 R7.out.2)) (by have := LA.out; have := LB.out; rw [List.length_append]; omega) (by have := LA.out; have := LB.out; rw [List.length_append]; omega) ?_; intro A8 n8 w8 o8 g8; obtain ⟨m8, hm8⟩ : ∃ m8, m8 = (L2 ++ D).length := ⟨_, rfl⟩; rw [← hm8]; have R8 := Lib.hid (And.intro (show SlOf w8 3 Val.cs (.slice A8 m8 n8) (L2 ++ D) from by rw [hm8]; exact ownsRow_slOf cs_len o8) (grown_lo R7.out.2 g8 (own_lo R7.out.1))); clear o8 g8 hm8) | (go_at_call_of 18 (Value.slice A8 m8 n8); refine (keysOrder_any (.slice A8 m8 n8) (L2 ++ D) (fun x hx => (List.mem_append.1 hx).elim (fun h => OK.out.1 x (List.mem_filter.1 ((R6.out.1.2.mem x).1 h)).1) (OK.out.2 x)) (by have := LA.out; have := LB.out; rw [List.length_append]; omega) _ R8.out.1).mono ?_; rintro e w9 ⟨u3, rfl, L3, k1, k2, k3⟩; have R9 := Lib.hid (And.intro k1 (And.intro (ownsRow_slOf cs_len k2) (bl_tr R8.out.2 k3))); clear k1 k2 k3))
  have EQ := Lib.hid (show L1 = L3 by
    have h1 := R5.out.1
    have h3 := R9.out.1
    have h2 := R6.out.1
    rw [List.filter_append] at h1 h3
    have hv : L2.filter rightM = L2 := List.filter_eq_self.2 fun x hx => (List.mem_filter.1 ((h2.2.mem x).1 hx)).2
    rw [hv] at h3
    exact StS.unique h1 (h3.fl (h2.2.app (FlK.refl _))))
  obtain ⟨N, eN, hN⟩ := nat_key n
  have TI := Lib.hid (text_index N hN)
  have TS := Lib.hid (text_size N hN)
  have KO := Lib.hid (show (Val.mk 0 (N : Int) ⟨#[]⟩).ok from ok_mk c0 ⟨by omega, by omega⟩ (by decide))
  have LL := Lib.hid (show L1.length ≤ 3000 by rw [R5.out.1.2.len]; exact Nat.le_trans (List.length_filter_le _ _) (by have := LA.out; rw [List.length_append]; omega))
  clear hN
  go_upto_region 7 with fail
  go_simp
  refine wp_world3 (fun X => X.heap[w9.heap.size]? = some (keyO ⟨0, (N : Int), ⟨#[]⟩⟩) ∧ Below w9.heap.size w9 X) ⟨heap_alloc_new _ _, by (repeat (with_reducible first | exact Below.refl _ _ | (refine bl_set ?_ (by first | omega | (simp; done) | (simp; omega)) _) | refine bl_gr ?_ _ | refine bl_al ?_ _ | refine below_setRow ?_ (by first | omega | (simp; done) | (simp; omega)) _ | refine bl_drewN ?_ _ | refine Below.drew ?_ | (refine bl_tr ?_ (by assumption))))⟩ ?_
  rintro X ⟨j0, jb⟩
  obtain ⟨⟨x0, x1, x2⟩, fz⟩ := cells3k j0
  have lb := (Array.getElem?_eq_some_iff.1 j0).1
  have lbn : ∀ u, w9.heap.size < X.heap.size + u := fun u => Nat.lt_of_lt_of_le lb (Nat.le_add_right _ _)
  have WX := Lib.hid (show Below w.heap.size w X from bl_tr (bl_tr R5.out.2.2 R9.out.2.2) jb)
  have TX := Lib.hid (callGr (keyText_any ⟨0, (N : Int), ⟨#[]⟩⟩ KO.out X (TB.out.below WX.out)))
  have IX := Lib.hid (fun Z => by have := index_any (keyTextM ⟨0, (N : Int), ⟨#[]⟩⟩) Z TS.out; rw [TI.out] at this; exact this)
  have SM := Lib.hid (fun Z (hZ : Below X.heap.size X Z) => callGr (sameKeys_self u1 u3 L1 LL.out Z (R5.out.2.1.below (bl_tr (bl_tr R9.out.2.2 jb) hZ)) ((EQ.out ▸ R9.out.2.1 : SlOf w9 3 Val.cs u3 L1).below (bl_tr jb hZ))))
  generalize keyTextM ⟨0, (N : Int), ⟨#[]⟩⟩ = s at *
  unfold idxV at IX
  clear j0 jb
  go_wp2_with (first | (go_at_call 16; refine TX.out.mono ?_; rintro e w' ⟨pp, rfl, rfl⟩) | (go_at_call 12; refine (IX.out _).mono ?_; rintro e w' ⟨rfl, rfl⟩) | (go_at_call 19; refine (SM.out _ (by (repeat (with_reducible first | exact Below.refl _ _ | (refine bl_set ?_ (by first | omega | (simp; done) | (simp; omega)) _) | refine bl_gr ?_ _ | refine bl_al ?_ _ | refine below_setRow ?_ (by first | omega | (simp; done) | (simp; omega)) _ | refine bl_drewN ?_ _ | refine Below.drew ?_ | (refine bl_tr ?_ (by assumption)))))).mono ?_; rintro e w' ⟨p3, rfl, rfl⟩))
  go_ret
  exact ⟨rfl, by (repeat (with_reducible first | exact WX.out | exact Below.refl _ _ | refine bl_rapp ?_ | (refine bl_set ?_ (by first | omega | (simp; done) | (simp; omega)) _) | refine bl_gr ?_ _ | refine bl_al ?_ _ | refine bl_drewN ?_ _ | refine Below.drew ?_))⟩
end Go.Proofs.YtaebjgjocldldaaDoor
