/- The library's stable sort: symMerge where one of its halves is one key. -/
import Derived.Test.YtippimonpdeioaaSrD
namespace Go.Proofs.Ytippimonpdeioaa
set_option linter.all false
open Go.ChangeShapes Go.WideShapes Go.ChangeAt Go.RowKit Go.Sort Go.Deep

def SymRet (w0 : World) (b cap : Nat) (A S T R : List Val) : Ending → World → Prop := fun r w' => r = .returned (.tuple #[]) ∧ ∃ U, StS (S ++ T) U ∧ SrtW w0 b cap (A ++ (U ++ R)) w'
theorem w_mid {i j : Nat} (hlt : i < j) (h : j < 4611686018427387904) : ∃ k : Nat, wrap64 (IntKind.u64.wrap (wrap64 ((i : Int) + (j : Int))) / 2) = (k : Int) ∧ i ≤ k ∧ k < j := by
  refine ⟨(i + j) / 2, ?_, by omega, by omega⟩
  have e : wrap64 ((i : Int) + (j : Int)) = ((i + j : Nat) : Int) := w64 (by omega) (by omega)
  rw [e, IntKind.wrap_u64]
  exact w64 (by omega) (by omega)
theorem inc_facts {k n : Nat} (h : k + 1 < n) (hs : n < 4611686018427387904) : ∃ kp : Nat, kp = k + 1 ∧ wrap64 ((k : Int) + 1) = (kp : Int) ∧ IntKind.i64.wrap ((k : Int) + 1) = (kp : Int) ∧ (k : Int) < (n : Int) ∧ (kp : Int) < (n : Int) ∧ ¬ (k : Int) < 0 ∧ ¬ (kp : Int) < 0 :=
  ⟨k + 1, rfl, w64 (by omega) (by omega), by rw [IntKind.wrap_i64]; omega, by omega, by omega, by omega, by omega⟩
theorem dec_facts {k n : Nat} (h0 : 0 < k) (h : k < n) (hs : n < 4611686018427387904) : ∃ kp : Nat, kp = k - 1 ∧ wrap64 ((k : Int) - 1) = (kp : Int) ∧ IntKind.i64.wrap ((k : Int) - 1) = (kp : Int) ∧ (k : Int) < (n : Int) ∧ (kp : Int) < (n : Int) ∧ ¬ (k : Int) < 0 ∧ ¬ (kp : Int) < 0 :=
  ⟨k - 1, rfl, w64 (by omega) (by omega), by rw [IntKind.wrap_i64]; omega, by omega, by omega, by omega, by omega⟩
theorem UpI.step {A T1 R L : List Val} {x : Val} {k t n : Nat} (h : UpI A x T1 R k L) (hk : k < t) (ht : t = A.length + T1.length ∧ n = A.length + T1.length + 1 + R.length) : k + 1 < n ∧ k < L.length ∧ k + 1 < L.length ∧ UpI A x T1 R (k + 1) (swL L k (k + 1)) := by
  obtain ⟨l1, l2, l3⟩ := h.len
  exact ⟨by omega, by omega, by omega, h.go (by omega)⟩
theorem meas_a {i j k p : Nat} (h : i ≤ k) (h2 : k < j) (hp : p = k + 1) : ((j : Int)).toNat - ((p : Int)).toNat < ((j : Int)).toNat - ((i : Int)).toNat := by
  simp only [Int.toNat_natCast]
  omega
theorem meas_b {i j k : Nat} (h : i ≤ k) (h2 : k < j) : ((k : Int)).toNat - ((i : Int)).toNat < ((j : Int)).toNat - ((i : Int)).toNat := by
  simp only [Int.toNat_natCast]
  omega
theorem meas_c {k p e : Nat} (h : p = k + 1) (hl : k < e) : e - ((p : Int)).toNat < e - ((k : Int)).toNat := by
  simp only [Int.toNat_natCast]
  omega

set_option maxRecDepth 100000 in
set_option maxHeartbeats 8000000 in
theorem symA_any (w0 w : World) (b cap : Nat) (A T R : List Val) (x : Val) (n a m e : Nat) (hn : n = (A ++ (x :: (T ++ R))).length) (ha : a = A.length) (hm : m = a + 1) (he : e = m + T.length) (hT : SoK T) (hsz : n < 4611686018427387904) (hS : SrtW w0 b cap (A ++ (x :: (T ++ R))) w) :
    Calls Try.prog 71 #[.slice (some ⟨b, 0, none⟩) n cap, .int .i64 a, .int .i64 m, .int .i64 e, cmpV] w (SymRet w0 b cap A [x] T R) := by
  have hx : kAt (A ++ (x :: (T ++ R))) a = x := by rw [ha, kAt_mid]
  have hl : n = a + 1 + T.length + R.length := by rw [hn, ha]; simp only [List.length_append, List.length_cons]; omega
  have MO := Lib.hid (mo_up (A := A) (R := R) (x := x) hT)
  have CUT := Lib.hid (fun i h => up_cut (A := A) (R := R) (x := x) (i := i) hT h)
  rw [← ha, ← hm, ← he] at MO
  have ST := Lib.hid (BsI.start (fun h => ltK (kAt (A ++ (x :: (T ++ R))) h) x) (lo := m) (hi := e) (by omega))
  rw [← ha, ← hm, ← he] at CUT
  have W0 := Lib.hid hS
  have e0 : wrap64 ((m : Int) - (a : Int)) = (1 : Int) := by rw [hm]; unfold wrap64; omega
  have HX := Lib.hid hx
  have NN := Lib.hid (And.intro hn (And.intro hl (And.intro ha (And.intro hm (And.intro he hsz)))))
  generalize hX : A ++ (x :: (T ++ R)) = X at MO CUT ST W0 HX NN
  have EX := Lib.hid hX
  clear hn ha hm he hl hsz hS hX hx
  go_enter Try.func71, Try.ntmps71
  go_wp2
  go_loopw [10, 11] (fun y z wr => ∃ (i j : Nat), y = .int .i64 i ∧ z = .int .i64 j ∧ Hid (BsI (fun h => ltK (kAt X h) x) m e i j ∧ SrtW w0 b cap X wr)) (fun y z _ => (intOf z).toNat - (intOf y).toNat)
  case atStart => exact ⟨m, e, rfl, rfl, Lib.hid ⟨ST.out, W0.out⟩⟩
  case round =>
    obtain ⟨i, j, rfl, rfl, HB⟩ := hrel
    by_cases hlt : i < j
    · have q0 : (i : Int) < (j : Int) := by omega
      obtain ⟨hn, hl, ha, hm, he, hsz⟩ := NN.out
      have hj := HB.out.1.2.2.1
      obtain ⟨k, ek, k1, k2⟩ := w_mid hlt (by omega)
      have ek1 : wrap64 ((k : Int) + 1) = ((k + 1 : Nat) : Int) := w64 (by omega) (by omega)
      obtain ⟨kp, hkp⟩ : ∃ kp, kp = k + 1 := ⟨_, rfl⟩
      rw [← hkp] at ek1
      have g0 : ¬ (k : Int) < 0 := by omega
      have g1 : (k : Int) < (n : Int) := by omega
      have g2 : ¬ (a : Int) < 0 := by omega
      have g3 : (a : Int) < (n : Int) := by omega
      obtain ⟨y0, y1, y2⟩ := HB.out.2.at_ (i := k) (by omega)
      obtain ⟨x0, x1, x2⟩ := HB.out.2.at_ (i := a) (by omega)
      rw [HX.out] at x0 x1 x2
      have lb := HB.out.2.lt
      have lbn : ∀ u, b < wr.heap.size + u := fun u => by omega
      have KK := Lib.hid (And.intro k1 (And.intro k2 hkp))
      have UP := Lib.hid (show orderM (kAt X k) x < 0 → BsI (fun h => ltK (kAt X h) x) m e kp j from fun h => by rw [hkp]; exact HB.out.1.up MO.out k1 k2 (decide_eq_true h))
      have DN := Lib.hid (show ¬ orderM (kAt X k) x < 0 → BsI (fun h => ltK (kAt X h) x) m e i k from fun h => HB.out.1.dn MO.out k1 k2 (decide_eq_false h))
      generalize kAt X k = y at y0 y1 y2 UP DN
      clear hn hl ha hm he hsz hj hlt k1 k2 hkp
      by_cases hc : orderM y x < 0
      · have UQ := Lib.hid (UP.out hc)
        clear DN UP
        go_upto_region 5 with fail
        (refine wp_region_held_drew (S := (fun Z : World => b < Z.heap.size ∧ Z.cell? ⟨b, k * 3, none⟩ = some (.int .i64 y.k) ∧ Z.cell? ⟨b, k * 3 + 1, none⟩ = some (.int .i64 y.n) ∧ Z.cell? ⟨b, k * 3 + 2, none⟩ = some (.string y.s) ∧ Z.cell? ⟨b, a * 3, none⟩ = some (.int .i64 x.k) ∧ Z.cell? ⟨b, a * 3 + 1, none⟩ = some (.int .i64 x.n) ∧ Z.cell? ⟨b, a * 3 + 2, none⟩ = some (.string x.s))) Try.mixed (by (and_intros <;> go_simp)) (fun hS => ?_); (refine wpAnyH_take (i := 0) (v := ?_) rfl (by kernel_rfl) (by kernel_rfl) (by kernel_rfl) (fun _ _ _ h => h) ?_ (by assumption) ?_; rotate_left; (next => (refine Or.inl ⟨by kernel_rfl, ?_⟩; ((intro w hSw; (try dsimp only at hSw); go_simp) <;> with_reducible rfl))); (try simp only [Act.put, List.setIfInBounds_toArray, List.set_cons_zero, List.set_cons_succ])); (refine wpAnyH_take (i := 1) (v := ?_) rfl (by kernel_rfl) (by kernel_rfl) (by kernel_rfl) (fun _ _ _ h => h) ?_ (by assumption) ?_; rotate_left; (next => (refine Or.inl ⟨by kernel_rfl, ?_⟩; ((intro w hSw; (try dsimp only at hSw); go_simp) <;> with_reducible rfl))); (try simp only [Act.put, List.setIfInBounds_toArray, List.set_cons_zero, List.set_cons_succ])); (refine wpAnyH_take (i := 2) (v := ?_) rfl (by kernel_rfl) (by kernel_rfl) (by kernel_rfl) (fun _ _ _ h => h) ?_ (by assumption) ?_; rotate_left; (next => (refine Or.inl ⟨by kernel_rfl, ?_⟩; ((intro w hSw; (try dsimp only at hSw); go_simp) <;> with_reducible rfl))); (try simp only [Act.put, List.setIfInBounds_toArray, List.set_cons_zero, List.set_cons_succ])); (refine wpAnyH_take (i := 3) (v := ?_) rfl (by kernel_rfl) (by kernel_rfl) (by kernel_rfl) (fun _ _ _ h => h) ?_ (by assumption) ?_; rotate_left; (next => (refine Or.inl ⟨by kernel_rfl, ?_⟩; ((intro w hSw; (try dsimp only at hSw); go_simp) <;> with_reducible rfl))); (try simp only [Act.put, List.setIfInBounds_toArray, List.set_cons_zero, List.set_cons_succ])); (refine wpAnyH_take (i := 4) (v := ?_) rfl (by kernel_rfl) (by kernel_rfl) (by kernel_rfl) (fun _ _ _ h => h) ?_ (by assumption) ?_; rotate_left; (next => (refine Or.inl ⟨by kernel_rfl, ?_⟩; ((intro w hSw; (try dsimp only at hSw); obtain ⟨sb, s0, s1, s2, s3, s4, s5⟩ := hSw; go_simp) <;> with_reducible rfl))); (try simp only [Act.put, List.setIfInBounds_toArray, List.set_cons_zero, List.set_cons_succ])); (refine wpAnyH_take (i := 5) (v := ?_) rfl (by kernel_rfl) (by kernel_rfl) (by kernel_rfl) (fun _ _ _ h => h) ?_ (by assumption) ?_; rotate_left; (next => (refine Or.inl ⟨by kernel_rfl, ?_⟩; ((intro w hSw; (try dsimp only at hSw); go_simp) <;> with_reducible rfl))); (try simp only [Act.put, List.setIfInBounds_toArray, List.set_cons_zero, List.set_cons_succ])); (refine wpAnyH_take (i := 6) (v := ?_) rfl (by kernel_rfl) (by kernel_rfl) (by kernel_rfl) (fun _ _ _ h => h) ?_ (by assumption) ?_; rotate_left; (next => (refine Or.inl ⟨by kernel_rfl, ?_⟩; ((intro w hSw; (try dsimp only at hSw); go_simp) <;> with_reducible rfl))); (try simp only [Act.put, List.setIfInBounds_toArray, List.set_cons_zero, List.set_cons_succ])); (refine wpAnyH_take (i := 7) (v := ?_) rfl (by kernel_rfl) (by kernel_rfl) (by kernel_rfl) (fun _ _ _ h => h) ?_ (by assumption) ?_; rotate_left; (next => (refine Or.inl ⟨by kernel_rfl, ?_⟩; ((intro w hSw; (try dsimp only at hSw); go_simp) <;> with_reducible rfl))); (try simp only [Act.put, List.setIfInBounds_toArray, List.set_cons_zero, List.set_cons_succ])); (refine wpAnyH_take (i := 8) (v := ?_) rfl (by kernel_rfl) (by kernel_rfl) (by kernel_rfl) (fun _ _ _ h => h) ?_ (by assumption) ?_; rotate_left; (next => (refine Or.inl ⟨by kernel_rfl, ?_⟩; ((intro w hSw; (try dsimp only at hSw); obtain ⟨sb, s0, s1, s2, s3, s4, s5⟩ := hSw; go_simp) <;> with_reducible rfl))); (try simp only [Act.put, List.setIfInBounds_toArray, List.set_cons_zero, List.set_cons_succ])); refine wpAnyH_ready (rs := [9]) (by kernel_rfl) (by simp) ?_; refine AllReadyH.cons rfl (fun K hK => ?_) AllReadyH.nil; go_simp; ((go_at_call 58; refine (callGr (order_any y x _)).mono ?_; rintro e w' ⟨pp, rfl, rfl⟩)); refine hK.out _ _ (by (and_intros <;> go_simp)) (fun hS => ?_); clear hK K; (try simp only [Act.put, List.setIfInBounds_toArray, List.set_cons_zero, List.set_cons_succ]); (refine wpAnyH_take (i := 10) (v := ?_) rfl (by kernel_rfl) (by kernel_rfl) (by kernel_rfl) (fun _ _ _ h => h) ?_ (by assumption) ?_; rotate_left; (next => (refine Or.inl ⟨by kernel_rfl, ?_⟩; ((intro w hSw; (try dsimp only at hSw); go_simp) <;> with_reducible rfl))); (try simp only [Act.put, List.setIfInBounds_toArray, List.set_cons_zero, List.set_cons_succ])); refine wpAnyH_done (by kernel_rfl) ?_ _)
        go_simp
        go_wp2
        go_roundw
        case rel => exact ⟨kp, by first | with_reducible rfl | rw [ek1], j, rfl, Lib.hid ⟨UQ.out, HB.out.2.gr _⟩⟩
        case measure => ((try rw [ek1]); exact meas_a KK.out.1 KK.out.2.1 KK.out.2.2)
      · have DQ := Lib.hid (DN.out hc)
        clear UP DN
        go_upto_region 5 with fail
        (refine wp_region_held_drew (S := (fun Z : World => b < Z.heap.size ∧ Z.cell? ⟨b, k * 3, none⟩ = some (.int .i64 y.k) ∧ Z.cell? ⟨b, k * 3 + 1, none⟩ = some (.int .i64 y.n) ∧ Z.cell? ⟨b, k * 3 + 2, none⟩ = some (.string y.s) ∧ Z.cell? ⟨b, a * 3, none⟩ = some (.int .i64 x.k) ∧ Z.cell? ⟨b, a * 3 + 1, none⟩ = some (.int .i64 x.n) ∧ Z.cell? ⟨b, a * 3 + 2, none⟩ = some (.string x.s))) Try.mixed (by (and_intros <;> go_simp)) (fun hS => ?_); (refine wpAnyH_take (i := 0) (v := ?_) rfl (by kernel_rfl) (by kernel_rfl) (by kernel_rfl) (fun _ _ _ h => h) ?_ (by assumption) ?_; rotate_left; (next => (refine Or.inl ⟨by kernel_rfl, ?_⟩; ((intro w hSw; (try dsimp only at hSw); go_simp) <;> with_reducible rfl))); (try simp only [Act.put, List.setIfInBounds_toArray, List.set_cons_zero, List.set_cons_succ])); (refine wpAnyH_take (i := 1) (v := ?_) rfl (by kernel_rfl) (by kernel_rfl) (by kernel_rfl) (fun _ _ _ h => h) ?_ (by assumption) ?_; rotate_left; (next => (refine Or.inl ⟨by kernel_rfl, ?_⟩; ((intro w hSw; (try dsimp only at hSw); go_simp) <;> with_reducible rfl))); (try simp only [Act.put, List.setIfInBounds_toArray, List.set_cons_zero, List.set_cons_succ])); (refine wpAnyH_take (i := 2) (v := ?_) rfl (by kernel_rfl) (by kernel_rfl) (by kernel_rfl) (fun _ _ _ h => h) ?_ (by assumption) ?_; rotate_left; (next => (refine Or.inl ⟨by kernel_rfl, ?_⟩; ((intro w hSw; (try dsimp only at hSw); go_simp) <;> with_reducible rfl))); (try simp only [Act.put, List.setIfInBounds_toArray, List.set_cons_zero, List.set_cons_succ])); (refine wpAnyH_take (i := 3) (v := ?_) rfl (by kernel_rfl) (by kernel_rfl) (by kernel_rfl) (fun _ _ _ h => h) ?_ (by assumption) ?_; rotate_left; (next => (refine Or.inl ⟨by kernel_rfl, ?_⟩; ((intro w hSw; (try dsimp only at hSw); go_simp) <;> with_reducible rfl))); (try simp only [Act.put, List.setIfInBounds_toArray, List.set_cons_zero, List.set_cons_succ])); (refine wpAnyH_take (i := 4) (v := ?_) rfl (by kernel_rfl) (by kernel_rfl) (by kernel_rfl) (fun _ _ _ h => h) ?_ (by assumption) ?_; rotate_left; (next => (refine Or.inl ⟨by kernel_rfl, ?_⟩; ((intro w hSw; (try dsimp only at hSw); obtain ⟨sb, s0, s1, s2, s3, s4, s5⟩ := hSw; go_simp) <;> with_reducible rfl))); (try simp only [Act.put, List.setIfInBounds_toArray, List.set_cons_zero, List.set_cons_succ])); (refine wpAnyH_take (i := 5) (v := ?_) rfl (by kernel_rfl) (by kernel_rfl) (by kernel_rfl) (fun _ _ _ h => h) ?_ (by assumption) ?_; rotate_left; (next => (refine Or.inl ⟨by kernel_rfl, ?_⟩; ((intro w hSw; (try dsimp only at hSw); go_simp) <;> with_reducible rfl))); (try simp only [Act.put, List.setIfInBounds_toArray, List.set_cons_zero, List.set_cons_succ])); (refine wpAnyH_take (i := 6) (v := ?_) rfl (by kernel_rfl) (by kernel_rfl) (by kernel_rfl) (fun _ _ _ h => h) ?_ (by assumption) ?_; rotate_left; (next => (refine Or.inl ⟨by kernel_rfl, ?_⟩; ((intro w hSw; (try dsimp only at hSw); go_simp) <;> with_reducible rfl))); (try simp only [Act.put, List.setIfInBounds_toArray, List.set_cons_zero, List.set_cons_succ])); (refine wpAnyH_take (i := 7) (v := ?_) rfl (by kernel_rfl) (by kernel_rfl) (by kernel_rfl) (fun _ _ _ h => h) ?_ (by assumption) ?_; rotate_left; (next => (refine Or.inl ⟨by kernel_rfl, ?_⟩; ((intro w hSw; (try dsimp only at hSw); go_simp) <;> with_reducible rfl))); (try simp only [Act.put, List.setIfInBounds_toArray, List.set_cons_zero, List.set_cons_succ])); (refine wpAnyH_take (i := 8) (v := ?_) rfl (by kernel_rfl) (by kernel_rfl) (by kernel_rfl) (fun _ _ _ h => h) ?_ (by assumption) ?_; rotate_left; (next => (refine Or.inl ⟨by kernel_rfl, ?_⟩; ((intro w hSw; (try dsimp only at hSw); obtain ⟨sb, s0, s1, s2, s3, s4, s5⟩ := hSw; go_simp) <;> with_reducible rfl))); (try simp only [Act.put, List.setIfInBounds_toArray, List.set_cons_zero, List.set_cons_succ])); refine wpAnyH_ready (rs := [9]) (by kernel_rfl) (by simp) ?_; refine AllReadyH.cons rfl (fun K hK => ?_) AllReadyH.nil; go_simp; ((go_at_call 58; refine (callGr (order_any y x _)).mono ?_; rintro e w' ⟨pp, rfl, rfl⟩)); refine hK.out _ _ (by (and_intros <;> go_simp)) (fun hS => ?_); clear hK K; (try simp only [Act.put, List.setIfInBounds_toArray, List.set_cons_zero, List.set_cons_succ]); (refine wpAnyH_take (i := 10) (v := ?_) rfl (by kernel_rfl) (by kernel_rfl) (by kernel_rfl) (fun _ _ _ h => h) ?_ (by assumption) ?_; rotate_left; (next => (refine Or.inl ⟨by kernel_rfl, ?_⟩; ((intro w hSw; (try dsimp only at hSw); go_simp) <;> with_reducible rfl))); (try simp only [Act.put, List.setIfInBounds_toArray, List.set_cons_zero, List.set_cons_succ])); refine wpAnyH_done (by kernel_rfl) ?_ _)
        go_simp
        go_wp2
        go_roundw
        case rel => exact ⟨i, rfl, k, rfl, Lib.hid ⟨DQ.out, HB.out.2.gr _⟩⟩
        case measure => exact meas_b KK.out.1 KK.out.2.1
    · have q0 : ¬ (i : Int) < (j : Int) := by omega
      obtain ⟨hn, hl, ha, hm, he, hsz⟩ := NN.out
      have hij : j = i := by have := HB.out.1.2.1; omega
      rw [hij] at HB
      obtain ⟨T1, T2, hT12, hT1, hst⟩ := CUT.out i HB.out.1
      have ei : wrap64 ((i : Int) - 1) = ((i - 1 : Nat) : Int) := w64 (by omega) (by have := HB.out.1.2.2.1; omega)
      obtain ⟨t, ht⟩ : ∃ t, t = i - 1 := ⟨_, rfl⟩
      rw [← ht] at ei
      have hl2 : T.length = T1.length + T2.length := by rw [hT12, List.length_append]
      have TT := Lib.hid (show t = A.length + T1.length ∧ n = A.length + T1.length + 1 + (T2 ++ R).length by rw [List.length_append]; omega)
      have U0 := Lib.hid (show UpI A x T1 (T2 ++ R) a X from by rw [← EX.out, ha, hT12, List.append_assoc]; exact UpI.start _ _ _ _)
      have RS := Lib.hid hst
      have BB := Lib.hid HB.out.2
      clear hn hl ha hm he hsz hij HB hT12 hT1 hst ht hl2 hlt
      go_wp2
      go_loopw [13] (fun y wr => ∃ (k : Nat) (Y : List Val), y = .int .i64 k ∧ Hid (UpI A x T1 (T2 ++ R) k Y ∧ SrtW w0 b cap Y wr)) (fun y _ => t - (intOf y).toNat)
      case atStart => exact ⟨a, X, rfl, Lib.hid ⟨U0.out, BB.out⟩⟩
      case round =>
        obtain ⟨k, Y, rfl, HY⟩ := hrel
        by_cases hlt : k < t
        · have q1 : (k : Int) < (t : Int) := by omega
          obtain ⟨s1, s2, s3, s4⟩ := HY.out.1.step hlt TT.out
          obtain ⟨kp, hkp, e1, e2, g1, g2, g3, g4⟩ := inc_facts s1 NN.out.2.2.2.2.2
          rw [← hkp] at s3 s4
          have KK := Lib.hid (And.intro hkp hlt)
          have GO := Lib.hid s4
          obtain ⟨x, y, ex, ey, ⟨x0, x1, x2⟩, ⟨y0, y1, y2⟩, fz, PW, PZ⟩ := HY.out.2.sw (i := k) (j := kp) s2 s3
          have PW := Lib.hid PW
          have PZ := Lib.hid PZ
          clear ex ey hlt s1 s2 s3 s4 hkp HY
          go_upto_region 11 with fail
          (refine wp_region_until (fun Z : World => Z.cell? ⟨b, k * 3, none⟩ = some (.int .i64 x.k) ∧ Z.cell? ⟨b, k * 3 + 1, none⟩ = some (.int .i64 x.n) ∧ Z.cell? ⟨b, k * 3 + 2, none⟩ = some (.string x.s) ∧ Z.cell? ⟨b, kp * 3, none⟩ = some (.int .i64 y.k) ∧ Z.cell? ⟨b, kp * 3 + 1, none⟩ = some (.int .i64 y.n) ∧ Z.cell? ⟨b, kp * 3 + 2, none⟩ = some (.string y.s)) [15, 17] Try.mixed (by exact ⟨x0, x1, x2, y0, y1, y2⟩) (fun hS => ?_); (refine wpAnyU_free (i := 0) (v := ?_) rfl (by kernel_rfl) (by kernel_rfl) (by kernel_rfl) (by kernel_rfl) (fun _ _ _ h => h) ?_ (fun _ => by assumption) ?_; rotate_left; (next => (refine Or.inl ⟨by kernel_rfl, ?_⟩; ((intro w hSw; (try dsimp only at hSw); go_simp) <;> with_reducible rfl))); (try simp only [Act.put, List.setIfInBounds_toArray, List.set_cons_zero, List.set_cons_succ])); (refine wpAnyU_free (i := 1) (v := ?_) rfl (by kernel_rfl) (by kernel_rfl) (by kernel_rfl) (by kernel_rfl) (fun _ _ _ h => h) ?_ (fun _ => by assumption) ?_; rotate_left; (next => (refine Or.inl ⟨by kernel_rfl, ?_⟩; ((intro w hSw; (try dsimp only at hSw); go_simp) <;> with_reducible rfl))); (try simp only [Act.put, List.setIfInBounds_toArray, List.set_cons_zero, List.set_cons_succ])); (refine wpAnyU_free (i := 2) (v := ?_) rfl (by kernel_rfl) (by kernel_rfl) (by kernel_rfl) (by kernel_rfl) (fun _ _ _ h => h) ?_ (fun _ => by assumption) ?_; rotate_left; (next => (refine Or.inl ⟨by kernel_rfl, ?_⟩; ((intro w hSw; (try dsimp only at hSw); go_simp) <;> with_reducible rfl))); (try simp only [Act.put, List.setIfInBounds_toArray, List.set_cons_zero, List.set_cons_succ])); (refine wpAnyU_free (i := 3) (v := ?_) rfl (by kernel_rfl) (by kernel_rfl) (by kernel_rfl) (by kernel_rfl) (fun _ _ _ h => h) ?_ (fun _ => by assumption) ?_; rotate_left; (next => (refine Or.inl ⟨by kernel_rfl, ?_⟩; ((intro w hSw; (try dsimp only at hSw); go_simp) <;> with_reducible rfl))); (try simp only [Act.put, List.setIfInBounds_toArray, List.set_cons_zero, List.set_cons_succ])); (refine wpAnyU_free (i := 4) (v := ?_) rfl (by kernel_rfl) (by kernel_rfl) (by kernel_rfl) (by kernel_rfl) (fun _ _ _ h => h) ?_ (fun _ => by assumption) ?_; rotate_left; (next => (refine Or.inl ⟨by kernel_rfl, ?_⟩; ((intro w hSw; (try dsimp only at hSw); go_simp) <;> with_reducible rfl))); (try simp only [Act.put, List.setIfInBounds_toArray, List.set_cons_zero, List.set_cons_succ])); (refine wpAnyU_free (i := 5) (v := ?_) rfl (by kernel_rfl) (by kernel_rfl) (by kernel_rfl) (by kernel_rfl) (fun _ _ _ h => h) ?_ (fun _ => by assumption) ?_; rotate_left; (next => (refine Or.inl ⟨by kernel_rfl, ?_⟩; ((intro w hSw; (try dsimp only at hSw); go_simp) <;> with_reducible rfl))); (try simp only [Act.put, List.setIfInBounds_toArray, List.set_cons_zero, List.set_cons_succ])); (refine wpAnyU_free (i := 6) (v := ?_) rfl (by kernel_rfl) (by kernel_rfl) (by kernel_rfl) (by kernel_rfl) (fun _ _ _ h => h) ?_ (fun _ => by assumption) ?_; rotate_left; (next => (refine Or.inl ⟨by kernel_rfl, ?_⟩; ((intro w hSw; (try dsimp only at hSw); go_simp) <;> with_reducible rfl))); (try simp only [Act.put, List.setIfInBounds_toArray, List.set_cons_zero, List.set_cons_succ])); (refine wpAnyU_free (i := 7) (v := ?_) rfl (by kernel_rfl) (by kernel_rfl) (by kernel_rfl) (by kernel_rfl) (fun _ _ _ h => h) ?_ (fun _ => by assumption) ?_; rotate_left; (next => (refine Or.inl ⟨by kernel_rfl, ?_⟩; ((intro w hSw; (try dsimp only at hSw); go_simp) <;> with_reducible rfl))); (try simp only [Act.put, List.setIfInBounds_toArray, List.set_cons_zero, List.set_cons_succ])); (refine wpAnyU_free (i := 8) (v := ?_) rfl (by kernel_rfl) (by kernel_rfl) (by kernel_rfl) (by kernel_rfl) (fun _ _ _ h => h) ?_ (fun _ => by assumption) ?_; rotate_left; (next => (refine Or.inl ⟨by kernel_rfl, ?_⟩; ((intro w hSw; (try dsimp only at hSw); go_simp) <;> with_reducible rfl))); (try simp only [Act.put, List.setIfInBounds_toArray, List.set_cons_zero, List.set_cons_succ])); (refine wpAnyU_take (i := 9) (v := ?_) rfl (by kernel_rfl) (by kernel_rfl) (by kernel_rfl) (by kernel_rfl) (fun _ _ _ h => h) ?_ (by assumption) ?_; rotate_left; (next => (refine Or.inl ⟨by kernel_rfl, ?_⟩; ((intro w hSw; (try dsimp only at hSw); obtain ⟨s0, s1, s2, s3, s4, s5⟩ := hSw; go_simp) <;> with_reducible rfl))); (try simp only [Act.put, List.setIfInBounds_toArray, List.set_cons_zero, List.set_cons_succ])); (refine wpAnyU_free (i := 10) (v := ?_) rfl (by kernel_rfl) (by kernel_rfl) (by kernel_rfl) (by kernel_rfl) (fun _ _ _ h => h) ?_ (fun _ => by assumption) ?_; rotate_left; (next => (refine Or.inl ⟨by kernel_rfl, ?_⟩; ((intro w hSw; (try dsimp only at hSw); go_simp) <;> with_reducible rfl))); (try simp only [Act.put, List.setIfInBounds_toArray, List.set_cons_zero, List.set_cons_succ])); (refine wpAnyU_free (i := 11) (v := ?_) rfl (by kernel_rfl) (by kernel_rfl) (by kernel_rfl) (by kernel_rfl) (fun _ _ _ h => h) ?_ (fun _ => by assumption) ?_; rotate_left; (next => (refine Or.inl ⟨by kernel_rfl, ?_⟩; ((intro w hSw; (try dsimp only at hSw); go_simp) <;> with_reducible rfl))); (try simp only [Act.put, List.setIfInBounds_toArray, List.set_cons_zero, List.set_cons_succ])); (refine wpAnyU_free (i := 12) (v := ?_) rfl (by kernel_rfl) (by kernel_rfl) (by kernel_rfl) (by kernel_rfl) (fun _ _ _ h => h) ?_ (fun _ => by assumption) ?_; rotate_left; (next => (refine Or.inl ⟨by kernel_rfl, ?_⟩; ((intro w hSw; (try dsimp only at hSw); go_simp) <;> with_reducible rfl))); (try simp only [Act.put, List.setIfInBounds_toArray, List.set_cons_zero, List.set_cons_succ])); (refine wpAnyU_take (i := 13) (v := ?_) rfl (by kernel_rfl) (by kernel_rfl) (by kernel_rfl) (by kernel_rfl) (fun _ _ _ h => h) ?_ (by assumption) ?_; rotate_left; (next => (refine Or.inl ⟨by kernel_rfl, ?_⟩; ((intro w hSw; (try dsimp only at hSw); obtain ⟨s0, s1, s2, s3, s4, s5⟩ := hSw; go_simp) <;> with_reducible rfl))); (try simp only [Act.put, List.setIfInBounds_toArray, List.set_cons_zero, List.set_cons_succ])); (refine wpAnyU_free (i := 14) (v := ?_) rfl (by kernel_rfl) (by kernel_rfl) (by kernel_rfl) (by kernel_rfl) (fun _ _ _ h => h) ?_ (fun _ => by assumption) ?_; rotate_left; (next => (refine Or.inl ⟨by kernel_rfl, ?_⟩; ((intro w hSw; (try dsimp only at hSw); go_simp) <;> with_reducible rfl))); (try simp only [Act.put, List.setIfInBounds_toArray, List.set_cons_zero, List.set_cons_succ])); refine wpAnyU_one (i := 15) (by kernel_rfl) rfl (fun K hK => ?_); have HK := Lib.hid hK; clear hK; go_simp; refine HK.out _ _ (fun h => absurd h (by decide)) ?_; clear HK K; (try simp only [Act.put, List.setIfInBounds_toArray, List.set_cons_zero, List.set_cons_succ]); refine wpAnyU_world (fun Z => SrtW w0 b cap (List.set (Y) k y) Z) PW.out ?_; intro Z hZ; obtain ⟨⟨⟨z0, z1, z2⟩, zf⟩, hY⟩ := PZ.out Z hZ; have PY := Lib.hid hY; clear hZ hY PW PZ x0 x1 x2 y0 y1 y2 fz hS; (refine wpAnyU_free (i := 16) (v := ?_) rfl (by kernel_rfl) (by kernel_rfl) (by kernel_rfl) (by kernel_rfl) (fun _ _ _ h => h) ?_ (fun h => absurd h (by decide)) ?_; rotate_left; (next => (refine Or.inl ⟨by kernel_rfl, ?_⟩; ((intro w hSw; (try dsimp only at hSw); go_simp) <;> with_reducible rfl))); (try simp only [Act.put, List.setIfInBounds_toArray, List.set_cons_zero, List.set_cons_succ])); refine wpAnyU_one (i := 17) (by kernel_rfl) rfl (fun K hK => ?_); have HK := Lib.hid hK; clear hK; go_simp; refine HK.out _ _ (fun h => absurd h (by decide)) ?_; clear HK K; (try simp only [Act.put, List.setIfInBounds_toArray, List.set_cons_zero, List.set_cons_succ]); refine wpAnyU_done (by kernel_rfl) ?_ _)
          go_simp
          go_wp2
          go_roundw
          case rel => exact ⟨kp, swL Y k kp, by first | with_reducible rfl | rw [e1], Lib.hid ⟨GO.out, PY.out⟩⟩
          case measure => ((try rw [e1]); exact meas_c KK.out.1 KK.out.2)
        · have q1 : ¬ (k : Int) < (t : Int) := by omega
          have DN := Lib.hid (HY.out.1.done (by have := TT.out.1; omega))
          clear hlt
          go_wp2
          go_end0
          refine ⟨rfl, _, RS.out, ?_⟩
          have := HY.out.2
          rw [DN.out] at this
          simpa using this

theorem DnI.step {A S1 S2 R L : List Val} {y : Val} {k i n : Nat} (h : DnI A S1 S2 y R k L) (hk : i < k) (ht : i = A.length + S1.length ∧ n = A.length + S1.length + S2.length + 1 + R.length) : 0 < k ∧ k < n ∧ k < L.length ∧ k - 1 < L.length ∧ DnI A S1 S2 y R (k - 1) (swL L k (k - 1)) := by
  obtain ⟨l1, l2, l3⟩ := h.len
  exact ⟨by omega, by omega, by omega, by omega, h.go (by omega)⟩
theorem meas_d {k p : Nat} (h : p = k - 1) (hl : 0 < k) : ((p : Int)).toNat < ((k : Int)).toNat := by
  simp only [Int.toNat_natCast]
  omega

set_option maxRecDepth 100000 in
set_option maxHeartbeats 8000000 in
theorem symB_any (w0 w : World) (b cap : Nat) (A S R : List Val) (y : Val) (n a m e : Nat) (hn : n = (A ++ (S ++ (y :: R))).length) (ha : a = A.length) (hm : m = a + S.length) (he : e = m + 1) (hS1 : 1 < S.length) (hSo : SoK S) (hsz : n < 4611686018427387904) (hS : SrtW w0 b cap (A ++ (S ++ (y :: R))) w) :
    Calls Try.prog 71 #[.slice (some ⟨b, 0, none⟩) n cap, .int .i64 a, .int .i64 m, .int .i64 e, cmpV] w (SymRet w0 b cap A S [y] R) := by
  have hx : kAt (A ++ (S ++ (y :: R))) m = y := by
    have := kAt_mid (A ++ S) y R
    rw [List.length_append, ← ha, ← hm] at this
    simpa using this
  have hl : n = a + S.length + 1 + R.length := by rw [hn, ha]; simp only [List.length_append, List.length_cons]; omega
  have MO := Lib.hid (mo_dn (A := A) (R := R) (y := y) hSo)
  have CUT := Lib.hid (fun i h => dn_cut (A := A) (R := R) (y := y) (i := i) hSo h)
  rw [← ha, ← hm] at MO
  have ST := Lib.hid (BsI.start (fun h => !ltK y (kAt (A ++ (S ++ (y :: R))) h)) (lo := a) (hi := m) (by omega))
  rw [← ha, ← hm] at CUT
  have W0 := Lib.hid hS
  have e0 : wrap64 ((m : Int) - (a : Int)) = (S.length : Int) := w64 (by omega) (by omega)
  have e0b : wrap64 ((e : Int) - (m : Int)) = (1 : Int) := by rw [he]; unfold wrap64; omega
  obtain ⟨ls, hls⟩ : ∃ ls, ls = S.length := ⟨_, rfl⟩
  rw [← hls] at e0
  have c0 : ¬ (ls : Int) = 1 := by omega
  have HX := Lib.hid hx
  have NN := Lib.hid (And.intro hn (And.intro hl (And.intro ha (And.intro hm (And.intro he hsz)))))
  generalize hX : A ++ (S ++ (y :: R)) = X at MO CUT ST W0 HX NN
  have EX := Lib.hid hX
  clear hn ha hm he hl hsz hS hX hx hS1 hls
  go_enter Try.func71, Try.ntmps71
  go_wp2
  clear e0 e0b c0
  go_loopw [14, 15] (fun y1 z wr => ∃ (i j : Nat), y1 = .int .i64 i ∧ z = .int .i64 j ∧ Hid (BsI (fun h => !ltK y (kAt X h)) a m i j ∧ SrtW w0 b cap X wr)) (fun y z _ => (intOf z).toNat - (intOf y).toNat)
  case atStart => exact ⟨a, m, rfl, rfl, Lib.hid ⟨ST.out, W0.out⟩⟩
  case round =>
    obtain ⟨i, j, rfl, rfl, HB⟩ := hrel
    by_cases hlt : i < j
    · have q0 : (i : Int) < (j : Int) := by omega
      obtain ⟨hn, hl, ha, hm, he, hsz⟩ := NN.out
      have hj := HB.out.1.2.2.1
      obtain ⟨k, ek, k1, k2⟩ := w_mid hlt (by omega)
      have ek1 : wrap64 ((k : Int) + 1) = ((k + 1 : Nat) : Int) := w64 (by omega) (by omega)
      obtain ⟨kp, hkp⟩ : ∃ kp, kp = k + 1 := ⟨_, rfl⟩
      rw [← hkp] at ek1
      have g0 : ¬ (k : Int) < 0 := by omega
      have g1 : (k : Int) < (n : Int) := by omega
      have g2 : ¬ (m : Int) < 0 := by omega
      have g3 : (m : Int) < (n : Int) := by omega
      obtain ⟨y0, y1, y2⟩ := HB.out.2.at_ (i := k) (by omega)
      obtain ⟨x0, x1, x2⟩ := HB.out.2.at_ (i := m) (by omega)
      rw [HX.out] at x0 x1 x2
      have lb := HB.out.2.lt
      have lbn : ∀ u, b < wr.heap.size + u := fun u => by omega
      have KK := Lib.hid (And.intro k1 (And.intro k2 hkp))
      have UP := Lib.hid (show ¬ orderM y (kAt X k) < 0 → BsI (fun h => !ltK y (kAt X h)) a m kp j from fun h => by rw [hkp]; exact HB.out.1.up MO.out k1 k2 (by show (!decide _) = true; rw [decide_eq_false h]; rfl))
      have DN := Lib.hid (show orderM y (kAt X k) < 0 → BsI (fun h => !ltK y (kAt X h)) a m i k from fun h => HB.out.1.dn MO.out k1 k2 (by show (!decide _) = false; rw [decide_eq_true h]; rfl))
      generalize kAt X k = z at y0 y1 y2 UP DN
      clear hn hl ha hm he hsz hj hlt k1 k2 hkp
      by_cases hc : orderM y z < 0
      · have DQ := Lib.hid (DN.out hc)
        clear UP DN
        go_upto_region 17 with fail
        (refine wp_region_held_drew (S := (fun Z : World => b < Z.heap.size ∧ Z.cell? ⟨b, k * 3, none⟩ = some (.int .i64 z.k) ∧ Z.cell? ⟨b, k * 3 + 1, none⟩ = some (.int .i64 z.n) ∧ Z.cell? ⟨b, k * 3 + 2, none⟩ = some (.string z.s) ∧ Z.cell? ⟨b, m * 3, none⟩ = some (.int .i64 y.k) ∧ Z.cell? ⟨b, m * 3 + 1, none⟩ = some (.int .i64 y.n) ∧ Z.cell? ⟨b, m * 3 + 2, none⟩ = some (.string y.s))) Try.mixed (by (and_intros <;> go_simp)) (fun hS => ?_); (refine wpAnyH_take (i := 0) (v := ?_) rfl (by kernel_rfl) (by kernel_rfl) (by kernel_rfl) (fun _ _ _ h => h) ?_ (by assumption) ?_; rotate_left; (next => (refine Or.inl ⟨by kernel_rfl, ?_⟩; ((intro w hSw; (try dsimp only at hSw); go_simp) <;> with_reducible rfl))); (try simp only [Act.put, List.setIfInBounds_toArray, List.set_cons_zero, List.set_cons_succ])); (refine wpAnyH_take (i := 1) (v := ?_) rfl (by kernel_rfl) (by kernel_rfl) (by kernel_rfl) (fun _ _ _ h => h) ?_ (by assumption) ?_; rotate_left; (next => (refine Or.inl ⟨by kernel_rfl, ?_⟩; ((intro w hSw; (try dsimp only at hSw); go_simp) <;> with_reducible rfl))); (try simp only [Act.put, List.setIfInBounds_toArray, List.set_cons_zero, List.set_cons_succ])); (refine wpAnyH_take (i := 2) (v := ?_) rfl (by kernel_rfl) (by kernel_rfl) (by kernel_rfl) (fun _ _ _ h => h) ?_ (by assumption) ?_; rotate_left; (next => (refine Or.inl ⟨by kernel_rfl, ?_⟩; ((intro w hSw; (try dsimp only at hSw); go_simp) <;> with_reducible rfl))); (try simp only [Act.put, List.setIfInBounds_toArray, List.set_cons_zero, List.set_cons_succ])); (refine wpAnyH_take (i := 3) (v := ?_) rfl (by kernel_rfl) (by kernel_rfl) (by kernel_rfl) (fun _ _ _ h => h) ?_ (by assumption) ?_; rotate_left; (next => (refine Or.inl ⟨by kernel_rfl, ?_⟩; ((intro w hSw; (try dsimp only at hSw); go_simp) <;> with_reducible rfl))); (try simp only [Act.put, List.setIfInBounds_toArray, List.set_cons_zero, List.set_cons_succ])); (refine wpAnyH_take (i := 4) (v := ?_) rfl (by kernel_rfl) (by kernel_rfl) (by kernel_rfl) (fun _ _ _ h => h) ?_ (by assumption) ?_; rotate_left; (next => (refine Or.inl ⟨by kernel_rfl, ?_⟩; ((intro w hSw; (try dsimp only at hSw); obtain ⟨sb, s0, s1, s2, s3, s4, s5⟩ := hSw; go_simp) <;> with_reducible rfl))); (try simp only [Act.put, List.setIfInBounds_toArray, List.set_cons_zero, List.set_cons_succ])); (refine wpAnyH_take (i := 5) (v := ?_) rfl (by kernel_rfl) (by kernel_rfl) (by kernel_rfl) (fun _ _ _ h => h) ?_ (by assumption) ?_; rotate_left; (next => (refine Or.inl ⟨by kernel_rfl, ?_⟩; ((intro w hSw; (try dsimp only at hSw); go_simp) <;> with_reducible rfl))); (try simp only [Act.put, List.setIfInBounds_toArray, List.set_cons_zero, List.set_cons_succ])); (refine wpAnyH_take (i := 6) (v := ?_) rfl (by kernel_rfl) (by kernel_rfl) (by kernel_rfl) (fun _ _ _ h => h) ?_ (by assumption) ?_; rotate_left; (next => (refine Or.inl ⟨by kernel_rfl, ?_⟩; ((intro w hSw; (try dsimp only at hSw); go_simp) <;> with_reducible rfl))); (try simp only [Act.put, List.setIfInBounds_toArray, List.set_cons_zero, List.set_cons_succ])); (refine wpAnyH_take (i := 7) (v := ?_) rfl (by kernel_rfl) (by kernel_rfl) (by kernel_rfl) (fun _ _ _ h => h) ?_ (by assumption) ?_; rotate_left; (next => (refine Or.inl ⟨by kernel_rfl, ?_⟩; ((intro w hSw; (try dsimp only at hSw); go_simp) <;> with_reducible rfl))); (try simp only [Act.put, List.setIfInBounds_toArray, List.set_cons_zero, List.set_cons_succ])); (refine wpAnyH_take (i := 8) (v := ?_) rfl (by kernel_rfl) (by kernel_rfl) (by kernel_rfl) (fun _ _ _ h => h) ?_ (by assumption) ?_; rotate_left; (next => (refine Or.inl ⟨by kernel_rfl, ?_⟩; ((intro w hSw; (try dsimp only at hSw); obtain ⟨sb, s0, s1, s2, s3, s4, s5⟩ := hSw; go_simp) <;> with_reducible rfl))); (try simp only [Act.put, List.setIfInBounds_toArray, List.set_cons_zero, List.set_cons_succ])); refine wpAnyH_ready (rs := [9]) (by kernel_rfl) (by simp) ?_; refine AllReadyH.cons rfl (fun K hK => ?_) AllReadyH.nil; go_simp; ((go_at_call 58; refine (callGr (order_any y z _)).mono ?_; rintro e w' ⟨pp, rfl, rfl⟩)); refine hK.out _ _ (by (and_intros <;> go_simp)) (fun hS => ?_); clear hK K; (try simp only [Act.put, List.setIfInBounds_toArray, List.set_cons_zero, List.set_cons_succ]); (refine wpAnyH_take (i := 10) (v := ?_) rfl (by kernel_rfl) (by kernel_rfl) (by kernel_rfl) (fun _ _ _ h => h) ?_ (by assumption) ?_; rotate_left; (next => (refine Or.inl ⟨by kernel_rfl, ?_⟩; ((intro w hSw; (try dsimp only at hSw); go_simp) <;> with_reducible rfl))); (try simp only [Act.put, List.setIfInBounds_toArray, List.set_cons_zero, List.set_cons_succ])); (refine wpAnyH_take (i := 11) (v := ?_) rfl (by kernel_rfl) (by kernel_rfl) (by kernel_rfl) (fun _ _ _ h => h) ?_ (by assumption) ?_; rotate_left; (next => (refine Or.inl ⟨by kernel_rfl, ?_⟩; ((intro w hSw; (try dsimp only at hSw); go_simp) <;> with_reducible rfl))); (try simp only [Act.put, List.setIfInBounds_toArray, List.set_cons_zero, List.set_cons_succ])); refine wpAnyH_done (by kernel_rfl) ?_ _)
        go_simp
        go_wp2
        go_roundw
        case rel => exact ⟨i, rfl, k, rfl, Lib.hid ⟨DQ.out, HB.out.2.gr _⟩⟩
        case measure => exact meas_b KK.out.1 KK.out.2.1
      · have UQ := Lib.hid (UP.out hc)
        clear UP DN
        go_upto_region 17 with fail
        (refine wp_region_held_drew (S := (fun Z : World => b < Z.heap.size ∧ Z.cell? ⟨b, k * 3, none⟩ = some (.int .i64 z.k) ∧ Z.cell? ⟨b, k * 3 + 1, none⟩ = some (.int .i64 z.n) ∧ Z.cell? ⟨b, k * 3 + 2, none⟩ = some (.string z.s) ∧ Z.cell? ⟨b, m * 3, none⟩ = some (.int .i64 y.k) ∧ Z.cell? ⟨b, m * 3 + 1, none⟩ = some (.int .i64 y.n) ∧ Z.cell? ⟨b, m * 3 + 2, none⟩ = some (.string y.s))) Try.mixed (by (and_intros <;> go_simp)) (fun hS => ?_); (refine wpAnyH_take (i := 0) (v := ?_) rfl (by kernel_rfl) (by kernel_rfl) (by kernel_rfl) (fun _ _ _ h => h) ?_ (by assumption) ?_; rotate_left; (next => (refine Or.inl ⟨by kernel_rfl, ?_⟩; ((intro w hSw; (try dsimp only at hSw); go_simp) <;> with_reducible rfl))); (try simp only [Act.put, List.setIfInBounds_toArray, List.set_cons_zero, List.set_cons_succ])); (refine wpAnyH_take (i := 1) (v := ?_) rfl (by kernel_rfl) (by kernel_rfl) (by kernel_rfl) (fun _ _ _ h => h) ?_ (by assumption) ?_; rotate_left; (next => (refine Or.inl ⟨by kernel_rfl, ?_⟩; ((intro w hSw; (try dsimp only at hSw); go_simp) <;> with_reducible rfl))); (try simp only [Act.put, List.setIfInBounds_toArray, List.set_cons_zero, List.set_cons_succ])); (refine wpAnyH_take (i := 2) (v := ?_) rfl (by kernel_rfl) (by kernel_rfl) (by kernel_rfl) (fun _ _ _ h => h) ?_ (by assumption) ?_; rotate_left; (next => (refine Or.inl ⟨by kernel_rfl, ?_⟩; ((intro w hSw; (try dsimp only at hSw); go_simp) <;> with_reducible rfl))); (try simp only [Act.put, List.setIfInBounds_toArray, List.set_cons_zero, List.set_cons_succ])); (refine wpAnyH_take (i := 3) (v := ?_) rfl (by kernel_rfl) (by kernel_rfl) (by kernel_rfl) (fun _ _ _ h => h) ?_ (by assumption) ?_; rotate_left; (next => (refine Or.inl ⟨by kernel_rfl, ?_⟩; ((intro w hSw; (try dsimp only at hSw); go_simp) <;> with_reducible rfl))); (try simp only [Act.put, List.setIfInBounds_toArray, List.set_cons_zero, List.set_cons_succ])); (refine wpAnyH_take (i := 4) (v := ?_) rfl (by kernel_rfl) (by kernel_rfl) (by kernel_rfl) (fun _ _ _ h => h) ?_ (by assumption) ?_; rotate_left; (next => (refine Or.inl ⟨by kernel_rfl, ?_⟩; ((intro w hSw; (try dsimp only at hSw); obtain ⟨sb, s0, s1, s2, s3, s4, s5⟩ := hSw; go_simp) <;> with_reducible rfl))); (try simp only [Act.put, List.setIfInBounds_toArray, List.set_cons_zero, List.set_cons_succ])); (refine wpAnyH_take (i := 5) (v := ?_) rfl (by kernel_rfl) (by kernel_rfl) (by kernel_rfl) (fun _ _ _ h => h) ?_ (by assumption) ?_; rotate_left; (next => (refine Or.inl ⟨by kernel_rfl, ?_⟩; ((intro w hSw; (try dsimp only at hSw); go_simp) <;> with_reducible rfl))); (try simp only [Act.put, List.setIfInBounds_toArray, List.set_cons_zero, List.set_cons_succ])); (refine wpAnyH_take (i := 6) (v := ?_) rfl (by kernel_rfl) (by kernel_rfl) (by kernel_rfl) (fun _ _ _ h => h) ?_ (by assumption) ?_; rotate_left; (next => (refine Or.inl ⟨by kernel_rfl, ?_⟩; ((intro w hSw; (try dsimp only at hSw); go_simp) <;> with_reducible rfl))); (try simp only [Act.put, List.setIfInBounds_toArray, List.set_cons_zero, List.set_cons_succ])); (refine wpAnyH_take (i := 7) (v := ?_) rfl (by kernel_rfl) (by kernel_rfl) (by kernel_rfl) (fun _ _ _ h => h) ?_ (by assumption) ?_; rotate_left; (next => (refine Or.inl ⟨by kernel_rfl, ?_⟩; ((intro w hSw; (try dsimp only at hSw); go_simp) <;> with_reducible rfl))); (try simp only [Act.put, List.setIfInBounds_toArray, List.set_cons_zero, List.set_cons_succ])); (refine wpAnyH_take (i := 8) (v := ?_) rfl (by kernel_rfl) (by kernel_rfl) (by kernel_rfl) (fun _ _ _ h => h) ?_ (by assumption) ?_; rotate_left; (next => (refine Or.inl ⟨by kernel_rfl, ?_⟩; ((intro w hSw; (try dsimp only at hSw); obtain ⟨sb, s0, s1, s2, s3, s4, s5⟩ := hSw; go_simp) <;> with_reducible rfl))); (try simp only [Act.put, List.setIfInBounds_toArray, List.set_cons_zero, List.set_cons_succ])); refine wpAnyH_ready (rs := [9]) (by kernel_rfl) (by simp) ?_; refine AllReadyH.cons rfl (fun K hK => ?_) AllReadyH.nil; go_simp; ((go_at_call 58; refine (callGr (order_any y z _)).mono ?_; rintro e w' ⟨pp, rfl, rfl⟩)); refine hK.out _ _ (by (and_intros <;> go_simp)) (fun hS => ?_); clear hK K; (try simp only [Act.put, List.setIfInBounds_toArray, List.set_cons_zero, List.set_cons_succ]); (refine wpAnyH_take (i := 10) (v := ?_) rfl (by kernel_rfl) (by kernel_rfl) (by kernel_rfl) (fun _ _ _ h => h) ?_ (by assumption) ?_; rotate_left; (next => (refine Or.inl ⟨by kernel_rfl, ?_⟩; ((intro w hSw; (try dsimp only at hSw); go_simp) <;> with_reducible rfl))); (try simp only [Act.put, List.setIfInBounds_toArray, List.set_cons_zero, List.set_cons_succ])); (refine wpAnyH_take (i := 11) (v := ?_) rfl (by kernel_rfl) (by kernel_rfl) (by kernel_rfl) (fun _ _ _ h => h) ?_ (by assumption) ?_; rotate_left; (next => (refine Or.inl ⟨by kernel_rfl, ?_⟩; ((intro w hSw; (try dsimp only at hSw); go_simp) <;> with_reducible rfl))); (try simp only [Act.put, List.setIfInBounds_toArray, List.set_cons_zero, List.set_cons_succ])); refine wpAnyH_done (by kernel_rfl) ?_ _)
        go_simp
        go_wp2
        go_roundw
        case rel => exact ⟨kp, by first | with_reducible rfl | rw [ek1], j, rfl, Lib.hid ⟨UQ.out, HB.out.2.gr _⟩⟩
        case measure => ((try rw [ek1]); exact meas_a KK.out.1 KK.out.2.1 KK.out.2.2)
    · have q0 : ¬ (i : Int) < (j : Int) := by omega
      obtain ⟨hn, hl, ha, hm, he, hsz⟩ := NN.out
      have hij : j = i := by have := HB.out.1.2.1; omega
      rw [hij] at HB
      obtain ⟨S1, S2, hS12, hT1, hst⟩ := CUT.out i HB.out.1
      have hl2 : S.length = S1.length + S2.length := by rw [hS12, List.length_append]
      have TT := Lib.hid (show i = A.length + S1.length ∧ n = A.length + S1.length + S2.length + 1 + R.length by omega)
      have U0 := Lib.hid (show DnI A S1 S2 y R m X from by
        have := DnI.start A S1 S2 y R
        rw [show A.length + S1.length + S2.length = m by omega] at this
        rw [← EX.out, hS12, List.append_assoc]
        exact this)
      have RS := Lib.hid hst
      have BB := Lib.hid HB.out.2
      clear hn hl ha hm he hsz hij HB hS12 hT1 hst hl2 hlt
      go_wp2
      go_loopw [17] (fun y1 wr => ∃ (k : Nat) (Y : List Val), y1 = .int .i64 k ∧ Hid (DnI A S1 S2 y R k Y ∧ SrtW w0 b cap Y wr)) (fun y _ => (intOf y).toNat)
      case atStart => exact ⟨m, X, rfl, Lib.hid ⟨U0.out, BB.out⟩⟩
      case round =>
        obtain ⟨k, Y, rfl, HY⟩ := hrel
        by_cases hlt : i < k
        · have q1 : (i : Int) < (k : Int) := by omega
          obtain ⟨s0, s1, s2, s3, s4⟩ := HY.out.1.step hlt TT.out
          obtain ⟨kp, hkp, e1, e2, g1, g2, g3, g4⟩ := dec_facts s0 s1 NN.out.2.2.2.2.2
          rw [← hkp] at s3 s4
          have KK := Lib.hid (And.intro hkp s0)
          have GO := Lib.hid s4
          obtain ⟨x, y, ex, ey, ⟨x0, x1, x2⟩, ⟨y0, y1, y2⟩, fz, PW, PZ⟩ := HY.out.2.sw (i := k) (j := kp) s2 s3
          have PW := Lib.hid PW
          have PZ := Lib.hid PZ
          clear ex ey hlt s0 s1 s2 s3 s4 hkp HY
          go_upto_region 23 with fail
          (refine wp_region_until (fun Z : World => Z.cell? ⟨b, k * 3, none⟩ = some (.int .i64 x.k) ∧ Z.cell? ⟨b, k * 3 + 1, none⟩ = some (.int .i64 x.n) ∧ Z.cell? ⟨b, k * 3 + 2, none⟩ = some (.string x.s) ∧ Z.cell? ⟨b, kp * 3, none⟩ = some (.int .i64 y.k) ∧ Z.cell? ⟨b, kp * 3 + 1, none⟩ = some (.int .i64 y.n) ∧ Z.cell? ⟨b, kp * 3 + 2, none⟩ = some (.string y.s)) [15, 17] Try.mixed (by exact ⟨x0, x1, x2, y0, y1, y2⟩) (fun hS => ?_); (refine wpAnyU_free (i := 0) (v := ?_) rfl (by kernel_rfl) (by kernel_rfl) (by kernel_rfl) (by kernel_rfl) (fun _ _ _ h => h) ?_ (fun _ => by assumption) ?_; rotate_left; (next => (refine Or.inl ⟨by kernel_rfl, ?_⟩; ((intro w hSw; (try dsimp only at hSw); go_simp) <;> with_reducible rfl))); (try simp only [Act.put, List.setIfInBounds_toArray, List.set_cons_zero, List.set_cons_succ])); (refine wpAnyU_free (i := 1) (v := ?_) rfl (by kernel_rfl) (by kernel_rfl) (by kernel_rfl) (by kernel_rfl) (fun _ _ _ h => h) ?_ (fun _ => by assumption) ?_; rotate_left; (next => (refine Or.inl ⟨by kernel_rfl, ?_⟩; ((intro w hSw; (try dsimp only at hSw); go_simp) <;> with_reducible rfl))); (try simp only [Act.put, List.setIfInBounds_toArray, List.set_cons_zero, List.set_cons_succ])); (refine wpAnyU_free (i := 2) (v := ?_) rfl (by kernel_rfl) (by kernel_rfl) (by kernel_rfl) (by kernel_rfl) (fun _ _ _ h => h) ?_ (fun _ => by assumption) ?_; rotate_left; (next => (refine Or.inl ⟨by kernel_rfl, ?_⟩; ((intro w hSw; (try dsimp only at hSw); go_simp) <;> with_reducible rfl))); (try simp only [Act.put, List.setIfInBounds_toArray, List.set_cons_zero, List.set_cons_succ])); (refine wpAnyU_free (i := 3) (v := ?_) rfl (by kernel_rfl) (by kernel_rfl) (by kernel_rfl) (by kernel_rfl) (fun _ _ _ h => h) ?_ (fun _ => by assumption) ?_; rotate_left; (next => (refine Or.inl ⟨by kernel_rfl, ?_⟩; ((intro w hSw; (try dsimp only at hSw); go_simp) <;> with_reducible rfl))); (try simp only [Act.put, List.setIfInBounds_toArray, List.set_cons_zero, List.set_cons_succ])); (refine wpAnyU_free (i := 4) (v := ?_) rfl (by kernel_rfl) (by kernel_rfl) (by kernel_rfl) (by kernel_rfl) (fun _ _ _ h => h) ?_ (fun _ => by assumption) ?_; rotate_left; (next => (refine Or.inl ⟨by kernel_rfl, ?_⟩; ((intro w hSw; (try dsimp only at hSw); go_simp) <;> with_reducible rfl))); (try simp only [Act.put, List.setIfInBounds_toArray, List.set_cons_zero, List.set_cons_succ])); (refine wpAnyU_free (i := 5) (v := ?_) rfl (by kernel_rfl) (by kernel_rfl) (by kernel_rfl) (by kernel_rfl) (fun _ _ _ h => h) ?_ (fun _ => by assumption) ?_; rotate_left; (next => (refine Or.inl ⟨by kernel_rfl, ?_⟩; ((intro w hSw; (try dsimp only at hSw); go_simp) <;> with_reducible rfl))); (try simp only [Act.put, List.setIfInBounds_toArray, List.set_cons_zero, List.set_cons_succ])); (refine wpAnyU_free (i := 6) (v := ?_) rfl (by kernel_rfl) (by kernel_rfl) (by kernel_rfl) (by kernel_rfl) (fun _ _ _ h => h) ?_ (fun _ => by assumption) ?_; rotate_left; (next => (refine Or.inl ⟨by kernel_rfl, ?_⟩; ((intro w hSw; (try dsimp only at hSw); go_simp) <;> with_reducible rfl))); (try simp only [Act.put, List.setIfInBounds_toArray, List.set_cons_zero, List.set_cons_succ])); (refine wpAnyU_free (i := 7) (v := ?_) rfl (by kernel_rfl) (by kernel_rfl) (by kernel_rfl) (by kernel_rfl) (fun _ _ _ h => h) ?_ (fun _ => by assumption) ?_; rotate_left; (next => (refine Or.inl ⟨by kernel_rfl, ?_⟩; ((intro w hSw; (try dsimp only at hSw); go_simp) <;> with_reducible rfl))); (try simp only [Act.put, List.setIfInBounds_toArray, List.set_cons_zero, List.set_cons_succ])); (refine wpAnyU_free (i := 8) (v := ?_) rfl (by kernel_rfl) (by kernel_rfl) (by kernel_rfl) (by kernel_rfl) (fun _ _ _ h => h) ?_ (fun _ => by assumption) ?_; rotate_left; (next => (refine Or.inl ⟨by kernel_rfl, ?_⟩; ((intro w hSw; (try dsimp only at hSw); go_simp) <;> with_reducible rfl))); (try simp only [Act.put, List.setIfInBounds_toArray, List.set_cons_zero, List.set_cons_succ])); (refine wpAnyU_take (i := 9) (v := ?_) rfl (by kernel_rfl) (by kernel_rfl) (by kernel_rfl) (by kernel_rfl) (fun _ _ _ h => h) ?_ (by assumption) ?_; rotate_left; (next => (refine Or.inl ⟨by kernel_rfl, ?_⟩; ((intro w hSw; (try dsimp only at hSw); obtain ⟨s0, s1, s2, s3, s4, s5⟩ := hSw; go_simp) <;> with_reducible rfl))); (try simp only [Act.put, List.setIfInBounds_toArray, List.set_cons_zero, List.set_cons_succ])); (refine wpAnyU_free (i := 10) (v := ?_) rfl (by kernel_rfl) (by kernel_rfl) (by kernel_rfl) (by kernel_rfl) (fun _ _ _ h => h) ?_ (fun _ => by assumption) ?_; rotate_left; (next => (refine Or.inl ⟨by kernel_rfl, ?_⟩; ((intro w hSw; (try dsimp only at hSw); go_simp) <;> with_reducible rfl))); (try simp only [Act.put, List.setIfInBounds_toArray, List.set_cons_zero, List.set_cons_succ])); (refine wpAnyU_free (i := 11) (v := ?_) rfl (by kernel_rfl) (by kernel_rfl) (by kernel_rfl) (by kernel_rfl) (fun _ _ _ h => h) ?_ (fun _ => by assumption) ?_; rotate_left; (next => (refine Or.inl ⟨by kernel_rfl, ?_⟩; ((intro w hSw; (try dsimp only at hSw); go_simp) <;> with_reducible rfl))); (try simp only [Act.put, List.setIfInBounds_toArray, List.set_cons_zero, List.set_cons_succ])); (refine wpAnyU_free (i := 12) (v := ?_) rfl (by kernel_rfl) (by kernel_rfl) (by kernel_rfl) (by kernel_rfl) (fun _ _ _ h => h) ?_ (fun _ => by assumption) ?_; rotate_left; (next => (refine Or.inl ⟨by kernel_rfl, ?_⟩; ((intro w hSw; (try dsimp only at hSw); go_simp) <;> with_reducible rfl))); (try simp only [Act.put, List.setIfInBounds_toArray, List.set_cons_zero, List.set_cons_succ])); (refine wpAnyU_take (i := 13) (v := ?_) rfl (by kernel_rfl) (by kernel_rfl) (by kernel_rfl) (by kernel_rfl) (fun _ _ _ h => h) ?_ (by assumption) ?_; rotate_left; (next => (refine Or.inl ⟨by kernel_rfl, ?_⟩; ((intro w hSw; (try dsimp only at hSw); obtain ⟨s0, s1, s2, s3, s4, s5⟩ := hSw; go_simp) <;> with_reducible rfl))); (try simp only [Act.put, List.setIfInBounds_toArray, List.set_cons_zero, List.set_cons_succ])); (refine wpAnyU_free (i := 14) (v := ?_) rfl (by kernel_rfl) (by kernel_rfl) (by kernel_rfl) (by kernel_rfl) (fun _ _ _ h => h) ?_ (fun _ => by assumption) ?_; rotate_left; (next => (refine Or.inl ⟨by kernel_rfl, ?_⟩; ((intro w hSw; (try dsimp only at hSw); go_simp) <;> with_reducible rfl))); (try simp only [Act.put, List.setIfInBounds_toArray, List.set_cons_zero, List.set_cons_succ])); refine wpAnyU_one (i := 15) (by kernel_rfl) rfl (fun K hK => ?_); have HK := Lib.hid hK; clear hK; go_simp; refine HK.out _ _ (fun h => absurd h (by decide)) ?_; clear HK K; (try simp only [Act.put, List.setIfInBounds_toArray, List.set_cons_zero, List.set_cons_succ]); refine wpAnyU_world (fun Z => SrtW w0 b cap (List.set (Y) k y) Z) PW.out ?_; intro Z hZ; obtain ⟨⟨⟨z0, z1, z2⟩, zf⟩, hY⟩ := PZ.out Z hZ; have PY := Lib.hid hY; clear hZ hY PW PZ x0 x1 x2 y0 y1 y2 fz hS; (refine wpAnyU_free (i := 16) (v := ?_) rfl (by kernel_rfl) (by kernel_rfl) (by kernel_rfl) (by kernel_rfl) (fun _ _ _ h => h) ?_ (fun h => absurd h (by decide)) ?_; rotate_left; (next => (refine Or.inl ⟨by kernel_rfl, ?_⟩; ((intro w hSw; (try dsimp only at hSw); go_simp) <;> with_reducible rfl))); (try simp only [Act.put, List.setIfInBounds_toArray, List.set_cons_zero, List.set_cons_succ])); refine wpAnyU_one (i := 17) (by kernel_rfl) rfl (fun K hK => ?_); have HK := Lib.hid hK; clear hK; go_simp; refine HK.out _ _ (fun h => absurd h (by decide)) ?_; clear HK K; (try simp only [Act.put, List.setIfInBounds_toArray, List.set_cons_zero, List.set_cons_succ]); refine wpAnyU_done (by kernel_rfl) ?_ _)
          go_simp
          go_wp2
          go_roundw
          case rel => exact ⟨kp, swL Y k kp, by first | with_reducible rfl | rw [e1], Lib.hid ⟨GO.out, PY.out⟩⟩
          case measure => ((try rw [e1]); exact meas_d KK.out.1 KK.out.2)
        · have q1 : ¬ (i : Int) < (k : Int) := by omega
          have DN := Lib.hid (HY.out.1.done (by have := TT.out.1; omega))
          clear hlt
          go_wp2
          go_end0
          refine ⟨rfl, _, RS.out, ?_⟩
          have := HY.out.2
          rw [DN.out] at this
          simpa using this
end Go.Proofs.Ytippimonpdeioaa
