/- The law KeyOrder, walked. -/
import Derived.Test.YtaebjgjocldldaaDoorSrN
import Derived.Test.YtaebjgjocldldaaDoorKmA
namespace Go.Proofs.YtaebjgjocldldaaDoor
set_option linter.all false
open Go.ChangeShapes Go.WideShapes Go.ChangeAt Go.RowKit Go.Sort Go.Deep

theorem before_eq (a b : Val) : beforeM a b = (rightM a && (rightM b && ltK a b)) := rfl
set_option maxRecDepth 100000 in
set_option maxHeartbeats 8000000 in
theorem rbefore_any (a b : Val) (ha : a.s.size ≤ maxLen) (hb : b.s.size ≤ maxLen) (w : World) : Calls Tryd.prog 22 #[a.agg, b.agg] w fun e w' => e = .returned (.bool (beforeM a b)) ∧ Below w.heap.size w w' := by
  have h1 := fun w => rright_any a ha w
  have h2 := fun w => rright_any b hb w
  rw [before_eq]
  have hl := ltK_iff a b
  generalize rightM a = ra at *
  generalize rightM b = rb at *
  generalize ltK a b = lt at *
  obtain ⟨ak, an, as_⟩ := a
  obtain ⟨bk, bn, bs⟩ := b
  have H1 := Lib.hid h1
  have H2 := Lib.hid h2
  clear h1 h2 ha hb
  simp only at hl
  cases ra
  · clear hl
    go_enter Tryd.func22, Tryd.ntmps22
    go_wp2_with fail
    refine (callGr (H1.out _)).mono ?_
    rintro e w' ⟨pp, rfl, rfl⟩
    go_wp2_with fail
    go_ret
    exact ⟨rfl, by (repeat (with_reducible first | exact Below.refl _ _ | (refine bl_set ?_ (by first | omega | (simp; done) | (simp; omega)) _) | refine bl_gr ?_ _ | refine bl_al ?_ _ | refine below_setRow ?_ (by first | omega | (simp; done) | (simp; omega)) _ | refine bl_drewN ?_ _ | refine Below.drew ?_ | (refine bl_tr ?_ (by assumption))))⟩
  · cases rb
    · clear hl
      go_enter Tryd.func22, Tryd.ntmps22
      go_wp2_with fail
      refine (callGr (H1.out _)).mono ?_
      rintro e w' ⟨pp, rfl, rfl⟩
      go_wp2_with fail
      refine (callGr (H2.out _)).mono ?_
      rintro e w' ⟨pp, rfl, rfl⟩
      go_wp2_with fail
      go_ret
      exact ⟨rfl, by (repeat (with_reducible first | exact Below.refl _ _ | (refine bl_set ?_ (by first | omega | (simp; done) | (simp; omega)) _) | refine bl_gr ?_ _ | refine bl_al ?_ _ | refine below_setRow ?_ (by first | omega | (simp; done) | (simp; omega)) _ | refine bl_drewN ?_ _ | refine Below.drew ?_ | (refine bl_tr ?_ (by assumption))))⟩
    · have RES : ∀ v : Bool, ((ak = 0 ∧ bk = 0 ∧ an < bn) ∨ (¬ (ak = 0 ∧ bk = 0) ∧ ak < bk) ↔ v = true) → Hid (lt = v) := fun v h => by
        refine Lib.hid ?_
        rw [← hl] at h
        cases lt <;> cases v <;> simp_all
      have GO : ∀ v : Bool, Hid (lt = v) → Hid (lt = v) := fun _ h => h
      by_cases c1 : ak < bk
      · have R := RES true (by simp; omega)
        clear RES GO hl
        go_enter Tryd.func22, Tryd.ntmps22
        go_wp2_with fail
        refine (callGr (H1.out _)).mono ?_
        rintro e w' ⟨pp, rfl, rfl⟩
        go_wp2_with fail
        refine (callGr (H2.out _)).mono ?_
        rintro e w' ⟨pp, rfl, rfl⟩
        go_wp2_with fail
        go_ret
        exact ⟨by rw [R.out]; rfl, by (repeat (with_reducible first | exact Below.refl _ _ | (refine bl_set ?_ (by first | omega | (simp; done) | (simp; omega)) _) | refine bl_gr ?_ _ | refine bl_al ?_ _ | refine below_setRow ?_ (by first | omega | (simp; done) | (simp; omega)) _ | refine bl_drewN ?_ _ | refine Below.drew ?_ | (refine bl_tr ?_ (by assumption))))⟩
      · by_cases c2 : ak = 0
        · by_cases c3 : bk = 0
          · by_cases c4 : an < bn
            · have R := RES true (by simp; omega)
              clear RES GO hl
              have d2 : (ak == 0) = true := by simpa using c2
              have d3 : (bk == 0) = true := by simpa using c3
              clear c2 c3
              go_enter Tryd.func22, Tryd.ntmps22
              go_wp2_with fail
              refine (callGr (H1.out _)).mono ?_
              rintro e w' ⟨pp, rfl, rfl⟩
              go_wp2_with fail
              refine (callGr (H2.out _)).mono ?_
              rintro e w' ⟨pp, rfl, rfl⟩
              go_wp2_with fail
              go_ret
              exact ⟨by rw [R.out]; rfl, by (repeat (with_reducible first | exact Below.refl _ _ | (refine bl_set ?_ (by first | omega | (simp; done) | (simp; omega)) _) | refine bl_gr ?_ _ | refine bl_al ?_ _ | refine below_setRow ?_ (by first | omega | (simp; done) | (simp; omega)) _ | refine bl_drewN ?_ _ | refine Below.drew ?_ | (refine bl_tr ?_ (by assumption))))⟩
            · have R := RES false (by simp; omega)
              clear RES GO hl
              have d2 : (ak == 0) = true := by simpa using c2
              have d3 : (bk == 0) = true := by simpa using c3
              clear c2 c3
              go_enter Tryd.func22, Tryd.ntmps22
              go_wp2_with fail
              refine (callGr (H1.out _)).mono ?_
              rintro e w' ⟨pp, rfl, rfl⟩
              go_wp2_with fail
              refine (callGr (H2.out _)).mono ?_
              rintro e w' ⟨pp, rfl, rfl⟩
              go_wp2_with fail
              go_ret
              exact ⟨ret_bool (by rw [R.out]; simp; omega), by (repeat (with_reducible first | exact Below.refl _ _ | (refine bl_set ?_ (by first | omega | (simp; done) | (simp; omega)) _) | refine bl_gr ?_ _ | refine bl_al ?_ _ | refine below_setRow ?_ (by first | omega | (simp; done) | (simp; omega)) _ | refine bl_drewN ?_ _ | refine Below.drew ?_ | (refine bl_tr ?_ (by assumption))))⟩
          · have R := RES false (by simp; omega)
            clear RES GO hl
            have d2 : (ak == 0) = true := by simpa using c2
            have d3 : (bk == 0) = false := by simpa using c3
            clear c2 c3
            go_enter Tryd.func22, Tryd.ntmps22
            go_wp2_with fail
            refine (callGr (H1.out _)).mono ?_
            rintro e w' ⟨pp, rfl, rfl⟩
            go_wp2_with fail
            refine (callGr (H2.out _)).mono ?_
            rintro e w' ⟨pp, rfl, rfl⟩
            go_wp2_with fail
            go_ret
            exact ⟨ret_bool (by rw [R.out]; simp; omega), by (repeat (with_reducible first | exact Below.refl _ _ | (refine bl_set ?_ (by first | omega | (simp; done) | (simp; omega)) _) | refine bl_gr ?_ _ | refine bl_al ?_ _ | refine below_setRow ?_ (by first | omega | (simp; done) | (simp; omega)) _ | refine bl_drewN ?_ _ | refine Below.drew ?_ | (refine bl_tr ?_ (by assumption))))⟩
        · have R := RES false (by simp; omega)
          clear RES GO hl
          have d2 : (ak == 0) = false := by simpa using c2
          clear c2
          go_enter Tryd.func22, Tryd.ntmps22
          go_wp2_with fail
          refine (callGr (H1.out _)).mono ?_
          rintro e w' ⟨pp, rfl, rfl⟩
          go_wp2_with fail
          refine (callGr (H2.out _)).mono ?_
          rintro e w' ⟨pp, rfl, rfl⟩
          go_wp2_with fail
          go_ret
          exact ⟨ret_bool (by rw [R.out]; simp; omega), by (repeat (with_reducible first | exact Below.refl _ _ | (refine bl_set ?_ (by first | omega | (simp; done) | (simp; omega)) _) | refine bl_gr ?_ _ | refine bl_al ?_ _ | refine below_setRow ?_ (by first | omega | (simp; done) | (simp; omega)) _ | refine bl_drewN ?_ _ | refine Below.drew ?_ | (refine bl_tr ?_ (by assumption))))⟩

theorem before_at (ak an bk bn : Int) (as_ bs : ByteArray) (ha : as_.size ≤ maxLen) (hb : bs.size ≤ maxLen) (r : Bool) (hr : beforeM ⟨ak, an, as_⟩ ⟨bk, bn, bs⟩ = r) (w : World) : Calls Tryd.prog 21 #[.agg #[.int .i64 ak, .int .i64 an, .string as_], .agg #[.int .i64 bk, .int .i64 bn, .string bs]] w fun e w' => ∃ p : Regrown, e = .returned (.bool r) ∧ w' = gr w p := by
  have := callGr (before_any ⟨ak, an, as_⟩ ⟨bk, bn, bs⟩ ha hb w)
  rw [hr] at this
  exact this
theorem before_no {a b : Val} (h : leK b a) : beforeM a b = false := by
  rw [before_eq]
  unfold leK at h
  rw [h]
  simp
theorem before_self (a : Val) : beforeM a a = false := before_no (leK_refl a)
theorem before_asym {a b : Val} (h : beforeM a b = true) : beforeM b a = false := by
  refine before_no (lt_leK ?_)
  rw [before_eq] at h
  simp only [Bool.and_eq_true] at h
  exact h.2.2
theorem ord_facts {k m : Nat} (h1 : 1 ≤ k) (h2 : k < m) (hm : m ≤ 200) : ∃ kp kq : Nat, kp ≤ k ∧ kp < m ∧ 0 < m ∧ IntKind.i64.wrap ((k : Int) - 1) = (kp : Int) ∧ (k : Int) < (m : Int) ∧ (kp : Int) < (m : Int) ∧ ¬ (k : Int) < 0 ∧ ¬ (kp : Int) < 0 ∧ kq = k + 1 ∧ wrap64 ((k : Int) + 1) = (kq : Int) ∧ 1 ≤ kq :=
  ⟨k - 1, k + 1, by omega, by omega, by omega, by rw [IntKind.wrap_i64]; omega, by omega, by omega, by omega, by omega, rfl, w64 (by omega) (by omega), by omega⟩
theorem hq2_0 (w : World) (a b : Obj) (p : Regrown) : (gr ((w.alloc a).alloc b) p).heap[w.heap.size]? = some a :=
  ((below_gr _ _).block _ (by simp only [World.alloc, Array.size_push]; omega)).trans ((heap_alloc_old _ _ (by simp only [World.alloc, Array.size_push]; omega)).trans (heap_alloc_new _ _))
theorem hq2_1 (w : World) (a b : Obj) (p : Regrown) : (gr ((w.alloc a).alloc b) p).heap[w.heap.size + 1]? = some b := by
  have e : (w.alloc a).heap.size = w.heap.size + 1 := by simp
  rw [← e]
  exact ((below_gr _ _).block _ (by simp only [World.alloc, Array.size_push]; omega)).trans (heap_alloc_new _ _)

set_option maxRecDepth 100000 in
set_option maxHeartbeats 16000000 in
theorem keyOrder_w (lv : Value) (l : List Val) (a b : Val) (okL : ∀ x ∈ l, x.s.size ≤ maxLen) (oka : a.ok) (okb : b.ok) (w : World) (ht : Tab w) (hl : SlOf w 3 Val.cs lv l) :
    Calls Tryd.prog 5 #[lv, a.agg, b.agg] w fun e w' => e = .returned (.bool true) ∧ Below w.heap.size w w' := by
  have AW := Lib.hid (fun W (hb : Below w.heap.size w W) => callGr (awake_any W (ht.below hb)))
  obtain ⟨A0, ca, rfl, hca, _⟩ := hl.form
  obtain ⟨ma, e1, e2, e3, MA, SA⟩ := take_slice hl 200 (K := 200) rfl
  have LA := Lib.hid (show (l.take 200).length ≤ 200 by rw [List.length_take]; omega)
  have OK := Lib.hid (show ∀ x ∈ l.take 200, x.s.size ≤ maxLen from fun x hx => okL x (List.mem_of_mem_take hx))
  have ZA := oka.2.2
  have ZB := okb.2.2
  have BS := before_self a
  have BAS := before_asym (a := a) (b := b)
  have RB := Lib.hid (fun W => callGr (rbefore_any a b ZA ZB W))
  clear hl hca okL ht oka okb
  generalize l.take 200 = C at *
  obtain ⟨ak, an, as_⟩ := a
  obtain ⟨bk, bn, bs⟩ := b
  simp only at ZA ZB
  have CAB := Lib.hid (fun r hr => before_at ak an bk bn as_ bs ZA ZB r hr)
  have CAA := Lib.hid (before_at ak an ak an as_ as_ ZA ZA false BS)
  have CBA := Lib.hid (fun r hr => before_at bk bn ak an bs as_ ZB ZA r hr)
  have BAS2 := Lib.hid BAS
  clear BS BAS ZA ZB
  go_enter Tryd.func5, Tryd.ntmps5
  go_upto_region 3 with (go_at_call 7; refine (AW.out _ (by (repeat (with_reducible first | exact Below.refl _ _ | (refine bl_set ?_ (by first | omega | (simp; done) | (simp; omega)) _) | refine bl_gr ?_ _ | refine bl_al ?_ _ | refine below_setRow ?_ (by first | omega | (simp; done) | (simp; omega)) _ | refine bl_drewN ?_ _ | refine Below.drew ?_ | (refine bl_tr ?_ (by assumption)))))).mono ?_; rintro e w' ⟨pp, rfl, rfl⟩)
  refine wp_world3 (fun X => X.heap[w.heap.size]? = some (keyO ⟨ak, an, as_⟩) ∧ X.heap[w.heap.size + 1]? = some (keyO ⟨bk, bn, bs⟩) ∧ Below w.heap.size w X) ⟨hq2_0 _ _ _ _, hq2_1 _ _ _ _, by (repeat (with_reducible first | exact Below.refl _ _ | (refine bl_set ?_ (by first | omega | (simp; done) | (simp; omega)) _) | refine bl_gr ?_ _ | refine bl_al ?_ _ | refine below_setRow ?_ (by first | omega | (simp; done) | (simp; omega)) _ | refine bl_drewN ?_ _ | refine Below.drew ?_ | (refine bl_tr ?_ (by assumption))))⟩ ?_
  rintro W1 ⟨ja, jb, hb1⟩
  have JJ := Lib.hid (show ∀ Z, Below W1.heap.size W1 Z → Z.heap[w.heap.size]? = some (keyO ⟨ak, an, as_⟩) ∧ Z.heap[w.heap.size + 1]? = some (keyO ⟨bk, bn, bs⟩) from fun Z hZ => ⟨(hZ.block _ (Array.getElem?_eq_some_iff.1 ja).1).trans ja, (hZ.block _ (Array.getElem?_eq_some_iff.1 jb).1).trans jb⟩)
  have B1 := Lib.hid hb1
  clear ja jb hb1
  go_upto_region 4 with fail
  go_simp
  clear e1 e2 e3
  go_upto_region 5 with (go_at_call 18; refine (keysOrder_any (.slice A0 ma ca) C OK.out (by have := LA.out; omega) _ (SA.out _ B1.out)).mono ?_; rintro e w2 ⟨u1, rfl, L1, k1, k2, k3⟩; have R2 := Lib.hid (And.intro k1 (And.intro (ownsRow_slOf cs_len k2) k3)); clear k1 k2 k3)
  obtain ⟨A1, n1, hu1, -, -⟩ := R2.out.2.1.form
  subst hu1
  obtain ⟨m1, hm1⟩ : ∃ m1, m1 = L1.length := ⟨_, rfl⟩
  rw [← hm1] at R2
  rw [← hm1]
  have M1 := Lib.hid hm1
  have LL := Lib.hid (show L1.length ≤ 200 by rw [R2.out.1.2.len]; exact Nat.le_trans (List.length_filter_le _ _) LA.out)
  have OL := Lib.hid (show ∀ x ∈ L1, x.s.size ≤ maxLen from fun x hx => OK.out x (List.mem_filter.1 ((R2.out.1.2.mem x).1 hx)).1)
  have FL := Lib.hid (show L1.filter rightM = L1 from List.filter_eq_self.2 fun x hx => (List.mem_filter.1 ((R2.out.1.2.mem x).1 hx)).2)
  have U1 := Lib.hid (show ∀ Z, Below w2.heap.size w2 Z → SlOf Z 3 Val.cs (.slice A1 m1 n1) L1 from fun Z hZ => R2.out.2.1.below hZ)
  clear hm1
  go_wp2_with (first | (go_at_call 20; refine (rkeysOrder_any (.slice A0 ma ca) C OK.out (by have := LA.out; omega) _ (SA.out _ (bl_tr B1.out R2.out.2.2))).mono ?_; rintro e w3 ⟨u2, rfl, L2, k1, k2, k3⟩; have R3h := Lib.hid (And.intro (show SlOf w3 3 Val.cs u2 L1 from by rw [StS.unique R2.out.1 k1]; exact k2) k3); clear k1 k2 k3) | (go_at_call_of 19 (u2); refine (callGr (sameKeys_self (.slice A1 m1 n1) u2 L1 (by have := LL.out; omega) _ (U1.out _ R3h.out.2) R3h.out.1)).mono ?_; rintro e w' ⟨p1, rfl, rfl⟩) | (go_at_call_of 18 (Value.slice A1 m1 n1); refine (keysOrder_any (.slice A1 m1 n1) L1 OL.out (by have := LL.out; omega) _ (U1.out _ (bl_gr R3h.out.2 _))).mono ?_; rintro e w5 ⟨u3, rfl, L3, k1, k2, k3⟩; have R5 := Lib.hid (And.intro (show SlOf w5 3 Val.cs u3 L1 from by rw [FL.out] at k1; rw [StS.unique (.self R2.out.1.1) k1]; exact ownsRow_slOf cs_len k2) (show Below w2.heap.size w2 w5 from bl_tr (bl_gr R3h.out.2 _) k3)); clear k1 k2 k3) | (go_at_call_of 19 (u3); refine (callGr (sameKeys_self u3 (.slice A1 m1 n1) L1 (by have := LL.out; omega) _ R5.out.1 (U1.out _ R5.out.2))).mono ?_; rintro e w' ⟨p2, rfl, rfl⟩))
  have B5 := Lib.hid (show Below W1.heap.size W1 w5 from bl_tr R2.out.2.2 R5.out.2)
  go_loopw [8] (fun i wr => ∃ k : Nat, i = .int .i64 k ∧ Hid (1 ≤ k ∧ Below w5.heap.size w5 wr)) (fun i _ => m1 - (intOf i).toNat)
  case atStart => exact ⟨1, rfl, Lib.hid ⟨Nat.le_refl _, by (repeat (with_reducible first | exact Below.refl _ _ | (refine bl_set ?_ (by first | omega | (simp; done) | (simp; omega)) _) | refine bl_gr ?_ _ | refine bl_al ?_ _ | refine below_setRow ?_ (by first | omega | (simp; done) | (simp; omega)) _ | refine bl_drewN ?_ _ | refine Below.drew ?_ | (refine bl_tr ?_ (by assumption))))⟩⟩
  case round =>
    obtain ⟨k, rfl, HI⟩ := hrel
    by_cases hlt : k < m1
    · have hmm : m1 ≤ 200 := by rw [M1.out]; exact LL.out
      obtain ⟨kp, kq, i1, i2, i3, f2, g1, g2, g3, g4, hkq, ek1, i4⟩ := ord_facts HI.out.1 hlt hmm
      have hk1 : k < L1.length := by rw [← M1.out]; exact hlt
      have hk2 : kp < L1.length := by rw [← M1.out]; exact i2
      obtain ⟨b1, o1, c1, ea, _, _, _⟩ := R2.out.2.1.at_ (Nat.lt_of_le_of_lt (Nat.zero_le k) hk1)
      simp only [Value.slice.injEq] at ea
      obtain ⟨rfl, -, rfl⟩ := ea
      have ZZ := U1.out wr (bl_tr R5.out.2 HI.out.2)
      rw [M1.out] at ZZ
      obtain ⟨lx, x0, x1, x2⟩ := slk_at ZZ hk1
      obtain ⟨ly, y0, y1, y2⟩ := slk_at ZZ hk2
      have BC := Lib.hid (before_at (kAt L1 k).k (kAt L1 k).n (kAt L1 kp).k (kAt L1 kp).n (kAt L1 k).s (kAt L1 kp).s (OL.out _ (kAt_mem hk1)) (OL.out _ (kAt_mem hk2)) false (before_no (so_kAt R2.out.1.1 (i := kp) (j := k) i1 hk1)))
      have KQ := Lib.hid (And.intro hkq (And.intro hlt i4))
      have lbn : ∀ u, b1 < wr.heap.size + u := fun u => Nat.lt_of_lt_of_le lx (Nat.le_add_right _ _)
      clear ZZ hlt hmm hkq ly i1 i2 i3 i4 hk1 hk2
      generalize kAt L1 k = x at x0 x1 x2 BC
      generalize kAt L1 kp = y at y0 y1 y2 BC
      go_upto_region 10 with fail
      (refine wp_region_held_drew (S := (fun Z : World => b1 < Z.heap.size ∧ Z.cell? ⟨b1, o1 + k * 3, none⟩ = some (.int .i64 x.k) ∧ Z.cell? ⟨b1, o1 + k * 3 + 1, none⟩ = some (.int .i64 x.n) ∧ Z.cell? ⟨b1, o1 + k * 3 + 2, none⟩ = some (.string x.s) ∧ Z.cell? ⟨b1, o1 + kp * 3, none⟩ = some (.int .i64 y.k) ∧ Z.cell? ⟨b1, o1 + kp * 3 + 1, none⟩ = some (.int .i64 y.n) ∧ Z.cell? ⟨b1, o1 + kp * 3 + 2, none⟩ = some (.string y.s))) Tryd.mixed (by (and_intros <;> go_simp)) (fun hS => ?_); (refine wpAnyH_take (i := 0) (v := ?_) rfl (by kernel_rfl) (by kernel_rfl) (by kernel_rfl) (fun _ _ _ h => h) ?_ (by assumption) ?_; rotate_left; (next => (refine Or.inl ⟨by kernel_rfl, ?_⟩; ((intro w hSw; (try dsimp only at hSw); go_simp) <;> with_reducible rfl))); (try simp only [Act.put, List.setIfInBounds_toArray, List.set_cons_zero, List.set_cons_succ])); (refine wpAnyH_take (i := 1) (v := ?_) rfl (by kernel_rfl) (by kernel_rfl) (by kernel_rfl) (fun _ _ _ h => h) ?_ (by assumption) ?_; rotate_left; (next => (refine Or.inl ⟨by kernel_rfl, ?_⟩; ((intro w hSw; (try dsimp only at hSw); go_simp) <;> with_reducible rfl))); (try simp only [Act.put, List.setIfInBounds_toArray, List.set_cons_zero, List.set_cons_succ])); (refine wpAnyH_take (i := 2) (v := ?_) rfl (by kernel_rfl) (by kernel_rfl) (by kernel_rfl) (fun _ _ _ h => h) ?_ (by assumption) ?_; rotate_left; (next => (refine Or.inl ⟨by kernel_rfl, ?_⟩; ((intro w hSw; (try dsimp only at hSw); go_simp) <;> with_reducible rfl))); (try simp only [Act.put, List.setIfInBounds_toArray, List.set_cons_zero, List.set_cons_succ])); (refine wpAnyH_take (i := 3) (v := ?_) rfl (by kernel_rfl) (by kernel_rfl) (by kernel_rfl) (fun _ _ _ h => h) ?_ (by assumption) ?_; rotate_left; (next => (refine Or.inl ⟨by kernel_rfl, ?_⟩; ((intro w hSw; (try dsimp only at hSw); obtain ⟨sb, s0, s1, s2, s3, s4, s5⟩ := hSw; go_simp) <;> with_reducible rfl))); (try simp only [Act.put, List.setIfInBounds_toArray, List.set_cons_zero, List.set_cons_succ])); (refine wpAnyH_take (i := 4) (v := ?_) rfl (by kernel_rfl) (by kernel_rfl) (by kernel_rfl) (fun _ _ _ h => h) ?_ (by assumption) ?_; rotate_left; (next => (refine Or.inl ⟨by kernel_rfl, ?_⟩; ((intro w hSw; (try dsimp only at hSw); go_simp) <;> with_reducible rfl))); (try simp only [Act.put, List.setIfInBounds_toArray, List.set_cons_zero, List.set_cons_succ])); (refine wpAnyH_take (i := 5) (v := ?_) rfl (by kernel_rfl) (by kernel_rfl) (by kernel_rfl) (fun _ _ _ h => h) ?_ (by assumption) ?_; rotate_left; (next => (refine Or.inl ⟨by kernel_rfl, ?_⟩; ((intro w hSw; (try dsimp only at hSw); go_simp) <;> with_reducible rfl))); (try simp only [Act.put, List.setIfInBounds_toArray, List.set_cons_zero, List.set_cons_succ])); (refine wpAnyH_take (i := 6) (v := ?_) rfl (by kernel_rfl) (by kernel_rfl) (by kernel_rfl) (fun _ _ _ h => h) ?_ (by assumption) ?_; rotate_left; (next => (refine Or.inl ⟨by kernel_rfl, ?_⟩; ((intro w hSw; (try dsimp only at hSw); go_simp) <;> with_reducible rfl))); (try simp only [Act.put, List.setIfInBounds_toArray, List.set_cons_zero, List.set_cons_succ])); (refine wpAnyH_take (i := 7) (v := ?_) rfl (by kernel_rfl) (by kernel_rfl) (by kernel_rfl) (fun _ _ _ h => h) ?_ (by assumption) ?_; rotate_left; (next => (refine Or.inl ⟨by kernel_rfl, ?_⟩; ((intro w hSw; (try dsimp only at hSw); go_simp) <;> with_reducible rfl))); (try simp only [Act.put, List.setIfInBounds_toArray, List.set_cons_zero, List.set_cons_succ])); (refine wpAnyH_take (i := 8) (v := ?_) rfl (by kernel_rfl) (by kernel_rfl) (by kernel_rfl) (fun _ _ _ h => h) ?_ (by assumption) ?_; rotate_left; (next => (refine Or.inl ⟨by kernel_rfl, ?_⟩; ((intro w hSw; (try dsimp only at hSw); obtain ⟨sb, s0, s1, s2, s3, s4, s5⟩ := hSw; go_simp) <;> with_reducible rfl))); (try simp only [Act.put, List.setIfInBounds_toArray, List.set_cons_zero, List.set_cons_succ])); refine wpAnyH_ready (rs := [9]) (by kernel_rfl) (by simp) ?_; refine AllReadyH.cons rfl (fun K hK => ?_) AllReadyH.nil; go_simp; ((go_at_call 21; refine (BC.out _).mono ?_; rintro e w' ⟨p9, rfl, rfl⟩)); refine hK.out _ _ (by (and_intros <;> go_simp)) (fun hS => ?_); clear hK K; (try simp only [Act.put, List.setIfInBounds_toArray, List.set_cons_zero, List.set_cons_succ]); refine wpAnyH_done (by kernel_rfl) ?_ _)
      go_simp
      go_wp2
      go_roundw
      case rel => exact ⟨kq, by first | with_reducible rfl | rw [ek1], Lib.hid ⟨KQ.out.2.2, bl_gr HI.out.2 _⟩⟩
      case measure => ((try rw [ek1]); exact meas_k KQ.out.1 KQ.out.2.1)
    · have q1 : ¬ (k : Int) < (m1 : Int) := by omega
      clear hlt
      go_upto_region 12 with fail
      refine wp_world3 (fun X => Below W1.heap.size W1 X) (bl_tr B5.out HI.out.2) ?_
      intro X hX
      obtain ⟨ja, jb⟩ := JJ.out X hX
      have l0 := (Array.getElem?_eq_some_iff.1 ja).1
      have l1 := (Array.getElem?_eq_some_iff.1 jb).1
      obtain ⟨⟨a0, a1, a2⟩, _⟩ := cells3k ja
      obtain ⟨⟨b0, b1, b2⟩, _⟩ := cells3k jb
      have XB := Lib.hid (show Below w.heap.size w X from bl_tr B1.out hX)
      have lbn : ∀ u, w.heap.size < X.heap.size + u := fun u => Nat.lt_of_lt_of_le l0 (Nat.le_add_right _ _)
      have lbm : ∀ u, w.heap.size + 1 < X.heap.size + u := fun u => Nat.lt_of_lt_of_le l1 (Nat.le_add_right _ _)
      clear ja jb hX
      cases hab : beforeM ⟨ak, an, as_⟩ ⟨bk, bn, bs⟩
      · have AB := Lib.hid (CAB.out false hab)
        have RB2 := Lib.hid (fun W => by have := RB.out W; rw [hab] at this; exact this)
        clear hab
        (refine wp_region_held_drew (S := (fun Z : World => w.heap.size < Z.heap.size ∧ w.heap.size + 1 < Z.heap.size ∧ Z.cell? ⟨w.heap.size, 0, none⟩ = some (.int .i64 ak) ∧ Z.cell? ⟨w.heap.size, 1, none⟩ = some (.int .i64 an) ∧ Z.cell? ⟨w.heap.size, 2, none⟩ = some (.string as_) ∧ Z.cell? ⟨w.heap.size + 1, 0, none⟩ = some (.int .i64 bk) ∧ Z.cell? ⟨w.heap.size + 1, 1, none⟩ = some (.int .i64 bn) ∧ Z.cell? ⟨w.heap.size + 1, 2, none⟩ = some (.string bs))) Tryd.mixed (by (and_intros <;> go_simp)) (fun hS => ?_); (refine wpAnyH_take (i := 0) (v := ?_) rfl (by kernel_rfl) (by kernel_rfl) (by kernel_rfl) (fun _ _ _ h => h) ?_ (by assumption) ?_; rotate_left; (next => (refine Or.inl ⟨by kernel_rfl, ?_⟩; ((intro w hSw; (try dsimp only at hSw); obtain ⟨s0, s1, s2, s3, s4, s5, s6, s7⟩ := hSw; go_simp) <;> with_reducible rfl))); (try simp only [Act.put, List.setIfInBounds_toArray, List.set_cons_zero, List.set_cons_succ])); (refine wpAnyH_take (i := 1) (v := ?_) rfl (by kernel_rfl) (by kernel_rfl) (by kernel_rfl) (fun _ _ _ h => h) ?_ (by assumption) ?_; rotate_left; (next => (refine Or.inl ⟨by kernel_rfl, ?_⟩; ((intro w hSw; (try dsimp only at hSw); obtain ⟨s0, s1, s2, s3, s4, s5, s6, s7⟩ := hSw; go_simp) <;> with_reducible rfl))); (try simp only [Act.put, List.setIfInBounds_toArray, List.set_cons_zero, List.set_cons_succ])); (refine wpAnyH_take (i := 3) (v := ?_) rfl (by kernel_rfl) (by kernel_rfl) (by kernel_rfl) (fun _ _ _ h => h) ?_ (by assumption) ?_; rotate_left; (next => (refine Or.inl ⟨by kernel_rfl, ?_⟩; ((intro w hSw; (try dsimp only at hSw); obtain ⟨s0, s1, s2, s3, s4, s5, s6, s7⟩ := hSw; go_simp) <;> with_reducible rfl))); (try simp only [Act.put, List.setIfInBounds_toArray, List.set_cons_zero, List.set_cons_succ])); (refine wpAnyH_take (i := 4) (v := ?_) rfl (by kernel_rfl) (by kernel_rfl) (by kernel_rfl) (fun _ _ _ h => h) ?_ (by assumption) ?_; rotate_left; (next => (refine Or.inl ⟨by kernel_rfl, ?_⟩; ((intro w hSw; (try dsimp only at hSw); obtain ⟨s0, s1, s2, s3, s4, s5, s6, s7⟩ := hSw; go_simp) <;> with_reducible rfl))); (try simp only [Act.put, List.setIfInBounds_toArray, List.set_cons_zero, List.set_cons_succ])); refine wpAnyH_ready (rs := [2]) (by kernel_rfl) (by simp) ?_; refine AllReadyH.cons rfl (fun K hK => ?_) AllReadyH.nil; go_simp; ((go_at_call 21; refine (AB.out _).mono ?_; rintro e w' ⟨p2, rfl, rfl⟩)); refine hK.out _ _ (by (and_intros <;> go_simp)) (fun hS => ?_); clear hK K; (try simp only [Act.put, List.setIfInBounds_toArray, List.set_cons_zero, List.set_cons_succ]); refine wpAnyH_ready (rs := [5]) (by kernel_rfl) (by simp) ?_; refine AllReadyH.cons rfl (fun K hK => ?_) AllReadyH.nil; go_simp; ((go_at_call 22; refine (RB2.out _).mono ?_; rintro e w' ⟨p5, rfl, rfl⟩)); refine hK.out _ _ (by (and_intros <;> go_simp)) (fun hS => ?_); clear hK K; (try simp only [Act.put, List.setIfInBounds_toArray, List.set_cons_zero, List.set_cons_succ]); (refine wpAnyH_take (i := 6) (v := ?_) rfl (by kernel_rfl) (by kernel_rfl) (by kernel_rfl) (fun _ _ _ h => h) ?_ (by assumption) ?_; rotate_left; (next => (refine Or.inl ⟨by kernel_rfl, ?_⟩; ((intro w hSw; (try dsimp only at hSw); go_simp) <;> with_reducible rfl))); (try simp only [Act.put, List.setIfInBounds_toArray, List.set_cons_zero, List.set_cons_succ])); (refine wpAnyH_take (i := 7) (v := ?_) rfl (by kernel_rfl) (by kernel_rfl) (by kernel_rfl) (fun _ _ _ h => h) ?_ (by assumption) ?_; rotate_left; (next => (refine Or.inl ⟨by kernel_rfl, ?_⟩; ((intro w hSw; (try dsimp only at hSw); go_simp) <;> with_reducible rfl))); (try simp only [Act.put, List.setIfInBounds_toArray, List.set_cons_zero, List.set_cons_succ])); (refine wpAnyH_take (i := 8) (v := ?_) rfl (by kernel_rfl) (by kernel_rfl) (by kernel_rfl) (fun _ _ _ h => h) ?_ (by assumption) ?_; rotate_left; (next => (refine Or.inl ⟨by kernel_rfl, ?_⟩; ((intro w hSw; (try dsimp only at hSw); obtain ⟨s0, s1, s2, s3, s4, s5, s6, s7⟩ := hSw; go_simp) <;> with_reducible rfl))); (try simp only [Act.put, List.setIfInBounds_toArray, List.set_cons_zero, List.set_cons_succ])); (refine wpAnyH_take (i := 9) (v := ?_) rfl (by kernel_rfl) (by kernel_rfl) (by kernel_rfl) (fun _ _ _ h => h) ?_ (by assumption) ?_; rotate_left; (next => (refine Or.inl ⟨by kernel_rfl, ?_⟩; ((intro w hSw; (try dsimp only at hSw); obtain ⟨s0, s1, s2, s3, s4, s5, s6, s7⟩ := hSw; go_simp) <;> with_reducible rfl))); (try simp only [Act.put, List.setIfInBounds_toArray, List.set_cons_zero, List.set_cons_succ])); refine wpAnyH_ready (rs := [10]) (by kernel_rfl) (by simp) ?_; refine AllReadyH.cons rfl (fun K hK => ?_) AllReadyH.nil; go_simp; ((go_at_call 21; refine (CAA.out _).mono ?_; rintro e w' ⟨p10, rfl, rfl⟩)); refine hK.out _ _ (by (and_intros <;> go_simp)) (fun hS => ?_); clear hK K; (try simp only [Act.put, List.setIfInBounds_toArray, List.set_cons_zero, List.set_cons_succ]); (refine wpAnyH_take (i := 11) (v := ?_) rfl (by kernel_rfl) (by kernel_rfl) (by kernel_rfl) (fun _ _ _ h => h) ?_ (by assumption) ?_; rotate_left; (next => (refine Or.inl ⟨by kernel_rfl, ?_⟩; ((intro w hSw; (try dsimp only at hSw); go_simp) <;> with_reducible rfl))); (try simp only [Act.put, List.setIfInBounds_toArray, List.set_cons_zero, List.set_cons_succ])); (refine wpAnyH_take (i := 12) (v := ?_) rfl (by kernel_rfl) (by kernel_rfl) (by kernel_rfl) (fun _ _ _ h => h) ?_ (by assumption) ?_; rotate_left; (next => (refine Or.inl ⟨by kernel_rfl, ?_⟩; ((intro w hSw; (try dsimp only at hSw); go_simp) <;> with_reducible rfl))); (try simp only [Act.put, List.setIfInBounds_toArray, List.set_cons_zero, List.set_cons_succ])); (refine wpAnyH_take (i := 13) (v := ?_) rfl (by kernel_rfl) (by kernel_rfl) (by kernel_rfl) (fun _ _ _ h => h) ?_ (by assumption) ?_; rotate_left; (next => (refine Or.inl ⟨by kernel_rfl, ?_⟩; ((intro w hSw; (try dsimp only at hSw); go_simp) <;> with_reducible rfl))); (try simp only [Act.put, List.setIfInBounds_toArray, List.set_cons_zero, List.set_cons_succ])); (refine wpAnyH_take (i := 14) (v := ?_) rfl (by kernel_rfl) (by kernel_rfl) (by kernel_rfl) (fun _ _ _ h => h) ?_ (by assumption) ?_; rotate_left; (next => (refine Or.inl ⟨by kernel_rfl, ?_⟩; ((intro w hSw; (try dsimp only at hSw); obtain ⟨s0, s1, s2, s3, s4, s5, s6, s7⟩ := hSw; go_simp) <;> with_reducible rfl))); (try simp only [Act.put, List.setIfInBounds_toArray, List.set_cons_zero, List.set_cons_succ])); (refine wpAnyH_take (i := 15) (v := ?_) rfl (by kernel_rfl) (by kernel_rfl) (by kernel_rfl) (fun _ _ _ h => h) ?_ (by assumption) ?_; rotate_left; (next => (refine Or.inl ⟨by kernel_rfl, ?_⟩; ((intro w hSw; (try dsimp only at hSw); obtain ⟨s0, s1, s2, s3, s4, s5, s6, s7⟩ := hSw; go_simp) <;> with_reducible rfl))); (try simp only [Act.put, List.setIfInBounds_toArray, List.set_cons_zero, List.set_cons_succ])); refine wpAnyH_ready (rs := [16]) (by kernel_rfl) (by simp) ?_; refine AllReadyH.cons rfl (fun K hK => ?_) AllReadyH.nil; go_simp; ((go_at_call 21; refine (AB.out _).mono ?_; rintro e w' ⟨p16, rfl, rfl⟩)); refine hK.out _ _ (by (and_intros <;> go_simp)) (fun hS => ?_); clear hK K; (try simp only [Act.put, List.setIfInBounds_toArray, List.set_cons_zero, List.set_cons_succ]); (refine wpAnyH_take (i := 17) (v := ?_) rfl (by kernel_rfl) (by kernel_rfl) (by kernel_rfl) (fun _ _ _ h => h) ?_ (by assumption) ?_; rotate_left; (next => (refine Or.inl ⟨by kernel_rfl, ?_⟩; ((intro w hSw; (try dsimp only at hSw); go_simp) <;> with_reducible rfl))); (try simp only [Act.put, List.setIfInBounds_toArray, List.set_cons_zero, List.set_cons_succ])); (refine wpAnyH_take (i := 18) (v := ?_) rfl (by kernel_rfl) (by kernel_rfl) (by kernel_rfl) (fun _ _ _ h => h) ?_ (by assumption) ?_; rotate_left; (next => (refine Or.inl ⟨by kernel_rfl, ?_⟩; ((intro w hSw; (try dsimp only at hSw); go_simp) <;> with_reducible rfl))); (try simp only [Act.put, List.setIfInBounds_toArray, List.set_cons_zero, List.set_cons_succ])); (refine wpAnyH_take (i := 19) (v := ?_) rfl (by kernel_rfl) (by kernel_rfl) (by kernel_rfl) (fun _ _ _ h => h) ?_ (by assumption) ?_; rotate_left; (next => (refine Or.inr ⟨by kernel_rfl, ?_⟩; with_reducible rfl)); (try simp only [Act.put, List.setIfInBounds_toArray, List.set_cons_zero, List.set_cons_succ])); (refine wpAnyH_take (i := 20) (v := ?_) rfl (by kernel_rfl) (by kernel_rfl) (by kernel_rfl) (fun _ _ _ h => h) ?_ (by assumption) ?_; rotate_left; (next => (refine Or.inr ⟨by kernel_rfl, ?_⟩; with_reducible rfl)); (try simp only [Act.put, List.setIfInBounds_toArray, List.set_cons_zero, List.set_cons_succ])); refine wpAnyH_ready (rs := [21]) (by kernel_rfl) (by simp) ?_; refine AllReadyH.cons rfl (fun K hK => ?_) AllReadyH.nil; go_simp; (skip); refine hK.out _ _ (by (and_intros <;> go_simp)) (fun hS => ?_); clear hK K; (try simp only [Act.put, List.setIfInBounds_toArray, List.set_cons_zero, List.set_cons_succ]); (refine wpAnyH_take (i := 22) (v := ?_) rfl (by kernel_rfl) (by kernel_rfl) (by kernel_rfl) (fun _ _ _ h => h) ?_ (by assumption) ?_; rotate_left; (next => (refine Or.inr ⟨by kernel_rfl, ?_⟩; with_reducible rfl)); (try simp only [Act.put, List.setIfInBounds_toArray, List.set_cons_zero, List.set_cons_succ])); (refine wpAnyH_take (i := 23) (v := ?_) rfl (by kernel_rfl) (by kernel_rfl) (by kernel_rfl) (fun _ _ _ h => h) ?_ (by assumption) ?_; rotate_left; (next => (refine Or.inl ⟨by kernel_rfl, ?_⟩; ((intro w hSw; (try dsimp only at hSw); go_simp) <;> with_reducible rfl))); (try simp only [Act.put, List.setIfInBounds_toArray, List.set_cons_zero, List.set_cons_succ])); (refine wpAnyH_take (i := 24) (v := ?_) rfl (by kernel_rfl) (by kernel_rfl) (by kernel_rfl) (fun _ _ _ h => h) ?_ (by assumption) ?_; rotate_left; (next => (refine Or.inl ⟨by kernel_rfl, ?_⟩; ((intro w hSw; (try dsimp only at hSw); go_simp) <;> with_reducible rfl))); (try simp only [Act.put, List.setIfInBounds_toArray, List.set_cons_zero, List.set_cons_succ])); (refine wpAnyH_take (i := 25) (v := ?_) rfl (by kernel_rfl) (by kernel_rfl) (by kernel_rfl) (fun _ _ _ h => h) ?_ (by assumption) ?_; rotate_left; (next => (refine Or.inl ⟨by kernel_rfl, ?_⟩; ((intro w hSw; (try dsimp only at hSw); go_simp) <;> with_reducible rfl))); (try simp only [Act.put, List.setIfInBounds_toArray, List.set_cons_zero, List.set_cons_succ])); refine wpAnyH_done (by kernel_rfl) ?_ _)
        go_simp
        go_wp2
        go_ret
        exact ⟨rfl, by (repeat (with_reducible first | exact XB.out | exact Below.refl _ _ | refine bl_rapp ?_ | (refine bl_set ?_ (by first | omega | (simp; done) | (simp; omega)) _) | refine bl_gr ?_ _ | refine bl_al ?_ _ | refine bl_drewN ?_ _ | refine Below.drew ?_))⟩
      · have BA := Lib.hid (CBA.out false (BAS2.out hab))
        have AB := Lib.hid (CAB.out true hab)
        have RB2 := Lib.hid (fun W => by have := RB.out W; rw [hab] at this; exact this)
        clear hab
        (refine wp_region_held_drew (S := (fun Z : World => w.heap.size < Z.heap.size ∧ w.heap.size + 1 < Z.heap.size ∧ Z.cell? ⟨w.heap.size, 0, none⟩ = some (.int .i64 ak) ∧ Z.cell? ⟨w.heap.size, 1, none⟩ = some (.int .i64 an) ∧ Z.cell? ⟨w.heap.size, 2, none⟩ = some (.string as_) ∧ Z.cell? ⟨w.heap.size + 1, 0, none⟩ = some (.int .i64 bk) ∧ Z.cell? ⟨w.heap.size + 1, 1, none⟩ = some (.int .i64 bn) ∧ Z.cell? ⟨w.heap.size + 1, 2, none⟩ = some (.string bs))) Tryd.mixed (by (and_intros <;> go_simp)) (fun hS => ?_); (refine wpAnyH_take (i := 0) (v := ?_) rfl (by kernel_rfl) (by kernel_rfl) (by kernel_rfl) (fun _ _ _ h => h) ?_ (by assumption) ?_; rotate_left; (next => (refine Or.inl ⟨by kernel_rfl, ?_⟩; ((intro w hSw; (try dsimp only at hSw); obtain ⟨s0, s1, s2, s3, s4, s5, s6, s7⟩ := hSw; go_simp) <;> with_reducible rfl))); (try simp only [Act.put, List.setIfInBounds_toArray, List.set_cons_zero, List.set_cons_succ])); (refine wpAnyH_take (i := 1) (v := ?_) rfl (by kernel_rfl) (by kernel_rfl) (by kernel_rfl) (fun _ _ _ h => h) ?_ (by assumption) ?_; rotate_left; (next => (refine Or.inl ⟨by kernel_rfl, ?_⟩; ((intro w hSw; (try dsimp only at hSw); obtain ⟨s0, s1, s2, s3, s4, s5, s6, s7⟩ := hSw; go_simp) <;> with_reducible rfl))); (try simp only [Act.put, List.setIfInBounds_toArray, List.set_cons_zero, List.set_cons_succ])); (refine wpAnyH_take (i := 3) (v := ?_) rfl (by kernel_rfl) (by kernel_rfl) (by kernel_rfl) (fun _ _ _ h => h) ?_ (by assumption) ?_; rotate_left; (next => (refine Or.inl ⟨by kernel_rfl, ?_⟩; ((intro w hSw; (try dsimp only at hSw); obtain ⟨s0, s1, s2, s3, s4, s5, s6, s7⟩ := hSw; go_simp) <;> with_reducible rfl))); (try simp only [Act.put, List.setIfInBounds_toArray, List.set_cons_zero, List.set_cons_succ])); (refine wpAnyH_take (i := 4) (v := ?_) rfl (by kernel_rfl) (by kernel_rfl) (by kernel_rfl) (fun _ _ _ h => h) ?_ (by assumption) ?_; rotate_left; (next => (refine Or.inl ⟨by kernel_rfl, ?_⟩; ((intro w hSw; (try dsimp only at hSw); obtain ⟨s0, s1, s2, s3, s4, s5, s6, s7⟩ := hSw; go_simp) <;> with_reducible rfl))); (try simp only [Act.put, List.setIfInBounds_toArray, List.set_cons_zero, List.set_cons_succ])); refine wpAnyH_ready (rs := [2]) (by kernel_rfl) (by simp) ?_; refine AllReadyH.cons rfl (fun K hK => ?_) AllReadyH.nil; go_simp; ((go_at_call 21; refine (AB.out _).mono ?_; rintro e w' ⟨p2, rfl, rfl⟩)); refine hK.out _ _ (by (and_intros <;> go_simp)) (fun hS => ?_); clear hK K; (try simp only [Act.put, List.setIfInBounds_toArray, List.set_cons_zero, List.set_cons_succ]); refine wpAnyH_ready (rs := [5]) (by kernel_rfl) (by simp) ?_; refine AllReadyH.cons rfl (fun K hK => ?_) AllReadyH.nil; go_simp; ((go_at_call 22; refine (RB2.out _).mono ?_; rintro e w' ⟨p5, rfl, rfl⟩)); refine hK.out _ _ (by (and_intros <;> go_simp)) (fun hS => ?_); clear hK K; (try simp only [Act.put, List.setIfInBounds_toArray, List.set_cons_zero, List.set_cons_succ]); (refine wpAnyH_take (i := 6) (v := ?_) rfl (by kernel_rfl) (by kernel_rfl) (by kernel_rfl) (fun _ _ _ h => h) ?_ (by assumption) ?_; rotate_left; (next => (refine Or.inl ⟨by kernel_rfl, ?_⟩; ((intro w hSw; (try dsimp only at hSw); go_simp) <;> with_reducible rfl))); (try simp only [Act.put, List.setIfInBounds_toArray, List.set_cons_zero, List.set_cons_succ])); (refine wpAnyH_take (i := 7) (v := ?_) rfl (by kernel_rfl) (by kernel_rfl) (by kernel_rfl) (fun _ _ _ h => h) ?_ (by assumption) ?_; rotate_left; (next => (refine Or.inl ⟨by kernel_rfl, ?_⟩; ((intro w hSw; (try dsimp only at hSw); go_simp) <;> with_reducible rfl))); (try simp only [Act.put, List.setIfInBounds_toArray, List.set_cons_zero, List.set_cons_succ])); (refine wpAnyH_take (i := 8) (v := ?_) rfl (by kernel_rfl) (by kernel_rfl) (by kernel_rfl) (fun _ _ _ h => h) ?_ (by assumption) ?_; rotate_left; (next => (refine Or.inl ⟨by kernel_rfl, ?_⟩; ((intro w hSw; (try dsimp only at hSw); obtain ⟨s0, s1, s2, s3, s4, s5, s6, s7⟩ := hSw; go_simp) <;> with_reducible rfl))); (try simp only [Act.put, List.setIfInBounds_toArray, List.set_cons_zero, List.set_cons_succ])); (refine wpAnyH_take (i := 9) (v := ?_) rfl (by kernel_rfl) (by kernel_rfl) (by kernel_rfl) (fun _ _ _ h => h) ?_ (by assumption) ?_; rotate_left; (next => (refine Or.inl ⟨by kernel_rfl, ?_⟩; ((intro w hSw; (try dsimp only at hSw); obtain ⟨s0, s1, s2, s3, s4, s5, s6, s7⟩ := hSw; go_simp) <;> with_reducible rfl))); (try simp only [Act.put, List.setIfInBounds_toArray, List.set_cons_zero, List.set_cons_succ])); refine wpAnyH_ready (rs := [10]) (by kernel_rfl) (by simp) ?_; refine AllReadyH.cons rfl (fun K hK => ?_) AllReadyH.nil; go_simp; ((go_at_call 21; refine (CAA.out _).mono ?_; rintro e w' ⟨p10, rfl, rfl⟩)); refine hK.out _ _ (by (and_intros <;> go_simp)) (fun hS => ?_); clear hK K; (try simp only [Act.put, List.setIfInBounds_toArray, List.set_cons_zero, List.set_cons_succ]); (refine wpAnyH_take (i := 11) (v := ?_) rfl (by kernel_rfl) (by kernel_rfl) (by kernel_rfl) (fun _ _ _ h => h) ?_ (by assumption) ?_; rotate_left; (next => (refine Or.inl ⟨by kernel_rfl, ?_⟩; ((intro w hSw; (try dsimp only at hSw); go_simp) <;> with_reducible rfl))); (try simp only [Act.put, List.setIfInBounds_toArray, List.set_cons_zero, List.set_cons_succ])); (refine wpAnyH_take (i := 12) (v := ?_) rfl (by kernel_rfl) (by kernel_rfl) (by kernel_rfl) (fun _ _ _ h => h) ?_ (by assumption) ?_; rotate_left; (next => (refine Or.inl ⟨by kernel_rfl, ?_⟩; ((intro w hSw; (try dsimp only at hSw); go_simp) <;> with_reducible rfl))); (try simp only [Act.put, List.setIfInBounds_toArray, List.set_cons_zero, List.set_cons_succ])); (refine wpAnyH_take (i := 13) (v := ?_) rfl (by kernel_rfl) (by kernel_rfl) (by kernel_rfl) (fun _ _ _ h => h) ?_ (by assumption) ?_; rotate_left; (next => (refine Or.inl ⟨by kernel_rfl, ?_⟩; ((intro w hSw; (try dsimp only at hSw); go_simp) <;> with_reducible rfl))); (try simp only [Act.put, List.setIfInBounds_toArray, List.set_cons_zero, List.set_cons_succ])); (refine wpAnyH_take (i := 14) (v := ?_) rfl (by kernel_rfl) (by kernel_rfl) (by kernel_rfl) (fun _ _ _ h => h) ?_ (by assumption) ?_; rotate_left; (next => (refine Or.inl ⟨by kernel_rfl, ?_⟩; ((intro w hSw; (try dsimp only at hSw); obtain ⟨s0, s1, s2, s3, s4, s5, s6, s7⟩ := hSw; go_simp) <;> with_reducible rfl))); (try simp only [Act.put, List.setIfInBounds_toArray, List.set_cons_zero, List.set_cons_succ])); (refine wpAnyH_take (i := 15) (v := ?_) rfl (by kernel_rfl) (by kernel_rfl) (by kernel_rfl) (fun _ _ _ h => h) ?_ (by assumption) ?_; rotate_left; (next => (refine Or.inl ⟨by kernel_rfl, ?_⟩; ((intro w hSw; (try dsimp only at hSw); obtain ⟨s0, s1, s2, s3, s4, s5, s6, s7⟩ := hSw; go_simp) <;> with_reducible rfl))); (try simp only [Act.put, List.setIfInBounds_toArray, List.set_cons_zero, List.set_cons_succ])); refine wpAnyH_ready (rs := [16]) (by kernel_rfl) (by simp) ?_; refine AllReadyH.cons rfl (fun K hK => ?_) AllReadyH.nil; go_simp; ((go_at_call 21; refine (AB.out _).mono ?_; rintro e w' ⟨p16, rfl, rfl⟩)); refine hK.out _ _ (by (and_intros <;> go_simp)) (fun hS => ?_); clear hK K; (try simp only [Act.put, List.setIfInBounds_toArray, List.set_cons_zero, List.set_cons_succ]); (refine wpAnyH_take (i := 17) (v := ?_) rfl (by kernel_rfl) (by kernel_rfl) (by kernel_rfl) (fun _ _ _ h => h) ?_ (by assumption) ?_; rotate_left; (next => (refine Or.inl ⟨by kernel_rfl, ?_⟩; ((intro w hSw; (try dsimp only at hSw); go_simp) <;> with_reducible rfl))); (try simp only [Act.put, List.setIfInBounds_toArray, List.set_cons_zero, List.set_cons_succ])); (refine wpAnyH_take (i := 18) (v := ?_) rfl (by kernel_rfl) (by kernel_rfl) (by kernel_rfl) (fun _ _ _ h => h) ?_ (by assumption) ?_; rotate_left; (next => (refine Or.inl ⟨by kernel_rfl, ?_⟩; ((intro w hSw; (try dsimp only at hSw); go_simp) <;> with_reducible rfl))); (try simp only [Act.put, List.setIfInBounds_toArray, List.set_cons_zero, List.set_cons_succ])); (refine wpAnyH_take (i := 19) (v := ?_) rfl (by kernel_rfl) (by kernel_rfl) (by kernel_rfl) (fun _ _ _ h => h) ?_ (by assumption) ?_; rotate_left; (next => (refine Or.inl ⟨by kernel_rfl, ?_⟩; ((intro w hSw; (try dsimp only at hSw); obtain ⟨s0, s1, s2, s3, s4, s5, s6, s7⟩ := hSw; go_simp) <;> with_reducible rfl))); (try simp only [Act.put, List.setIfInBounds_toArray, List.set_cons_zero, List.set_cons_succ])); (refine wpAnyH_take (i := 20) (v := ?_) rfl (by kernel_rfl) (by kernel_rfl) (by kernel_rfl) (fun _ _ _ h => h) ?_ (by assumption) ?_; rotate_left; (next => (refine Or.inl ⟨by kernel_rfl, ?_⟩; ((intro w hSw; (try dsimp only at hSw); obtain ⟨s0, s1, s2, s3, s4, s5, s6, s7⟩ := hSw; go_simp) <;> with_reducible rfl))); (try simp only [Act.put, List.setIfInBounds_toArray, List.set_cons_zero, List.set_cons_succ])); refine wpAnyH_ready (rs := [21]) (by kernel_rfl) (by simp) ?_; refine AllReadyH.cons rfl (fun K hK => ?_) AllReadyH.nil; go_simp; ((go_at_call 21; refine (BA.out _).mono ?_; rintro e w' ⟨p21, rfl, rfl⟩)); refine hK.out _ _ (by (and_intros <;> go_simp)) (fun hS => ?_); clear hK K; (try simp only [Act.put, List.setIfInBounds_toArray, List.set_cons_zero, List.set_cons_succ]); (refine wpAnyH_take (i := 22) (v := ?_) rfl (by kernel_rfl) (by kernel_rfl) (by kernel_rfl) (fun _ _ _ h => h) ?_ (by assumption) ?_; rotate_left; (next => (refine Or.inl ⟨by kernel_rfl, ?_⟩; ((intro w hSw; (try dsimp only at hSw); go_simp) <;> with_reducible rfl))); (try simp only [Act.put, List.setIfInBounds_toArray, List.set_cons_zero, List.set_cons_succ])); (refine wpAnyH_take (i := 23) (v := ?_) rfl (by kernel_rfl) (by kernel_rfl) (by kernel_rfl) (fun _ _ _ h => h) ?_ (by assumption) ?_; rotate_left; (next => (refine Or.inl ⟨by kernel_rfl, ?_⟩; ((intro w hSw; (try dsimp only at hSw); go_simp) <;> with_reducible rfl))); (try simp only [Act.put, List.setIfInBounds_toArray, List.set_cons_zero, List.set_cons_succ])); (refine wpAnyH_take (i := 24) (v := ?_) rfl (by kernel_rfl) (by kernel_rfl) (by kernel_rfl) (fun _ _ _ h => h) ?_ (by assumption) ?_; rotate_left; (next => (refine Or.inl ⟨by kernel_rfl, ?_⟩; ((intro w hSw; (try dsimp only at hSw); go_simp) <;> with_reducible rfl))); (try simp only [Act.put, List.setIfInBounds_toArray, List.set_cons_zero, List.set_cons_succ])); (refine wpAnyH_take (i := 25) (v := ?_) rfl (by kernel_rfl) (by kernel_rfl) (by kernel_rfl) (fun _ _ _ h => h) ?_ (by assumption) ?_; rotate_left; (next => (refine Or.inl ⟨by kernel_rfl, ?_⟩; ((intro w hSw; (try dsimp only at hSw); go_simp) <;> with_reducible rfl))); (try simp only [Act.put, List.setIfInBounds_toArray, List.set_cons_zero, List.set_cons_succ])); refine wpAnyH_done (by kernel_rfl) ?_ _)
        go_simp
        go_wp2
        go_ret
        exact ⟨rfl, by (repeat (with_reducible first | exact XB.out | exact Below.refl _ _ | refine bl_rapp ?_ | (refine bl_set ?_ (by first | omega | (simp; done) | (simp; omega)) _) | refine bl_gr ?_ _ | refine bl_al ?_ _ | refine bl_drewN ?_ _ | refine Below.drew ?_))⟩
end Go.Proofs.YtaebjgjocldldaaDoor
