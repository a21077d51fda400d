/- The library's stable sort: symMerge in general. -/
import Derived.Test.YtippimonpdeioaaSrE
namespace Go.Proofs.Ytippimonpdeioaa
set_option linter.all false
open Go.ChangeShapes Go.WideShapes Go.ChangeAt Go.RowKit Go.Sort Go.Deep

/-- what symMerge promises of ranges shorter than N -/
def SymIH (w0 : World) (b cap n N : Nat) : Prop := ∀ (A S T R : List Val) (a m e : Nat) (W : World), n = (A ++ (S ++ (T ++ R))).length → a = A.length → m = a + S.length → e = m + T.length → S.length + T.length < N → 0 < S.length → 0 < T.length → SoK S → SoK T → SrtW w0 b cap (A ++ (S ++ (T ++ R))) W →
  Calls Try.prog 71 #[.slice (some ⟨b, 0, none⟩) n cap, .int .i64 a, .int .i64 m, .int .i64 e, cmpV] W (SymRet w0 b cap A S T R)
theorem sym_nums {A S T : List Val} {a m e n : Nat} (ha : a = A.length) (hm : m = a + S.length) (he : e = m + T.length) (h1 : 1 < S.length) (h2 : 1 < T.length) (hsz : e ≤ n) (hn : n < 4611686018427387904) :
    ∃ ls lt mid nn lo hi p : Nat, wrap64 ((m : Int) - (a : Int)) = (ls : Int) ∧ ¬ (ls : Int) = 1 ∧ wrap64 ((e : Int) - (m : Int)) = (lt : Int) ∧ ¬ (lt : Int) = 1 ∧ wrap64 (IntKind.u64.wrap (wrap64 ((a : Int) + (e : Int))) / 2) = (mid : Int) ∧ wrap64 ((mid : Int) + (m : Int)) = (nn : Int) ∧ wrap64 ((nn : Int) - 1) = (p : Int) ∧
      Hid (p = nn - 1 ∧ SymN A S T mid nn lo hi ∧ nn < 9223372036854775807) ∧ (((mid : Int) < (m : Int) ∧ wrap64 ((nn : Int) - (e : Int)) = (lo : Int) ∧ Hid (hi = mid)) ∨ (¬ (mid : Int) < (m : Int) ∧ Hid (lo = a ∧ hi = m))) := by
  subst ha hm he
  obtain ⟨mid, hmid⟩ : ∃ mid, mid = (A.length + (A.length + S.length + T.length)) / 2 := ⟨_, rfl⟩
  have e1 : wrap64 (IntKind.u64.wrap (wrap64 ((A.length : Int) + ((A.length + S.length + T.length : Nat) : Int))) / 2) = (mid : Int) := by
    have e : wrap64 ((A.length : Int) + ((A.length + S.length + T.length : Nat) : Int)) = ((A.length + (A.length + S.length + T.length) : Nat) : Int) := w64 (by omega) (by omega)
    rw [e, IntKind.wrap_u64]
    exact w64 (by omega) (by omega)
  refine ⟨S.length, T.length, mid, mid + (A.length + S.length), if mid < A.length + S.length then mid + (A.length + S.length) - (A.length + S.length + T.length) else A.length, if mid < A.length + S.length then mid else A.length + S.length, mid + (A.length + S.length) - 1, w64 (by omega) (by omega), by omega, w64 (by omega) (by omega), by omega, e1, w64 (by omega) (by omega), w64 (by omega) (by omega), ?_, ?_⟩
  · refine Lib.hid ⟨rfl, ⟨by omega, by omega, rfl, ?_, ?_⟩, by omega⟩
    · split <;> omega
    · split
      · left
        omega
      · right
        omega
  · by_cases h : mid < A.length + S.length
    · rw [if_pos h, if_pos h]
      exact .inl ⟨by omega, w64 (by omega) (by omega), Lib.hid rfl⟩
    · rw [if_neg h, if_neg h]
      exact .inr ⟨by omega, Lib.hid ⟨rfl, rfl⟩⟩
theorem SymN.hb {A S T : List Val} {mid n lo hi : Nat} (h : SymN A S T mid n lo hi) : hi ≤ A.length + S.length := by
  obtain ⟨h3, h4, h6, h5, h7⟩ := h
  omega
theorem up_w {k n : Nat} (h : k < n) (hs : n < 4611686018427387904) : ∃ kp : Nat, kp = k + 1 ∧ wrap64 ((k : Int) + 1) = (kp : Int) := ⟨k + 1, rfl, w64 (by omega) (by omega)⟩
theorem p_facts {A S T : List Val} {mid nn lo hi p c : Nat} (h : p = nn - 1 ∧ SymN A S T mid nn lo hi ∧ nn < 9223372036854775807) (h1 : lo ≤ c) (h2 : c < hi) {n : Nat} (hn : A.length + S.length + T.length ≤ n) :
    ∃ pc : Nat, IntKind.i64.wrap ((p : Int) - (c : Int)) = (pc : Int) ∧ pc = nn - 1 - c ∧ pc < n ∧ (pc : Int) < (n : Int) ∧ ¬ (pc : Int) < 0 ∧ c < n ∧ (c : Int) < (n : Int) ∧ ¬ (c : Int) < 0 := by
  obtain ⟨rfl, hN, hb⟩ := h
  have := hN.at_ h1 h2
  exact ⟨nn - 1 - c, by rw [IntKind.wrap_i64]; omega, rfl, by omega, by omega, by omega, by omega, by omega, by omega⟩

set_option maxRecDepth 100000 in
set_option maxHeartbeats 16000000 in
theorem symC_any (w0 w : World) (b cap : Nat) (A S T R : List Val) (n a m e : Nat) (hn : n = (A ++ (S ++ (T ++ R))).length) (ha : a = A.length) (hm : m = a + S.length) (he : e = m + T.length) (hS1 : 1 < S.length) (hT1 : 1 < T.length) (hSo : SoK S) (hTo : SoK T) (hsz : n < 4611686018427387904)
    (IH : SymIH w0 b cap n (S.length + T.length)) (hS : SrtW w0 b cap (A ++ (S ++ (T ++ R))) w) :
    Calls Try.prog 71 #[.slice (some ⟨b, 0, none⟩) n cap, .int .i64 a, .int .i64 m, .int .i64 e, cmpV] w (SymRet w0 b cap A S T R) := by
  have hl : n = a + S.length + T.length + R.length := by rw [hn, ha]; simp only [List.length_append]; omega
  obtain ⟨ls, lt, mid, nn, lo, hi, p, f1, f2, f3, f4, f5, f6, f7, PN, CC⟩ := sym_nums ha hm he hS1 hT1 (n := n) (by omega) hsz
  have MO := Lib.hid (mo_sy (A := A) (R := R) hSo hTo PN.out.2.1)
  have CUT := Lib.hid (fun s h => sy_cut (A := A) (R := R) (s := s) hSo hTo PN.out.2.1 h)
  have ST := Lib.hid (BsI.start (symQ (A ++ (S ++ (T ++ R))) (nn - 1)) PN.out.2.1.h4)
  have W0 := Lib.hid hS
  have NN := Lib.hid (And.intro hn (And.intro hl (And.intro ha (And.intro hm (And.intro he hsz)))))
  have SO := Lib.hid (And.intro hSo hTo)
  have L2 := Lib.hid (And.intro hS1 hT1)
  have HI := Lib.hid IH
  generalize hX : A ++ (S ++ (T ++ R)) = X at MO CUT ST W0 NN
  have EX := Lib.hid hX
  clear hn ha hm he hl hsz hS hX hS1 hT1 hSo hTo IH
  go_enter Try.func71, Try.ntmps71
  go_upto_if 140 with fail
  go_simp
  go_cut [20, 21] from 140 to 146 (fun s r w' => s = .int .i64 lo ∧ r = .int .i64 hi ∧ SrtW w0 b cap X w')
  case first =>
    rcases CC with ⟨c1, c2, c3⟩ | ⟨c1, c2⟩
    · go_wp2
      go_meet
      exact ⟨by first | with_reducible rfl | rw [c2], by rw [c3.out], W0.out⟩
    · go_wp2
      go_meet
      exact ⟨by rw [c2.out.1], by rw [c2.out.2], W0.out⟩
  case rest =>
    obtain ⟨rfl, rfl, hW⟩ := hcut
    have HC := Lib.hid hW
    clear hW CC W0
    go_wp2
    go_loopw [20, 21] (fun y z wr => ∃ (i j : Nat), y = .int .i64 i ∧ z = .int .i64 j ∧ Hid (BsI (symQ X (nn - 1)) lo hi i j ∧ SrtW w0 b cap X wr)) (fun y z _ => (intOf z).toNat - (intOf y).toNat)
    case atStart => exact ⟨lo, hi, rfl, rfl, Lib.hid ⟨ST.out, HC.out⟩⟩
    case round =>
      obtain ⟨i, j, rfl, rfl, HB⟩ := hrel
      by_cases hlt : i < j
      · have q0 : (i : Int) < (j : Int) := by omega
        have hle : A.length + S.length + T.length ≤ n := by have := NN.out; clear f1 f2 f3 f4 f5 f6 f7; omega
        have hj : j ≤ hi := HB.out.1.2.2.1
        have hi0 : lo ≤ i := HB.out.1.1
        have hsz := NN.out.2.2.2.2.2
        obtain ⟨k, ek, k1, k2⟩ := w_mid hlt (Nat.lt_of_le_of_lt (Nat.le_trans hj (Nat.le_trans PN.out.2.1.hb (Nat.le_trans (Nat.le_add_right _ _) hle))) hsz)
        obtain ⟨pc, ep, hpc, s1, g1, g2, s2, g3, g4⟩ := p_facts PN.out (c := k) (Nat.le_trans hi0 k1) (Nat.lt_of_lt_of_le k2 hj) hle
        obtain ⟨kp, hkp, ek1⟩ := up_w s2 hsz
        rw [NN.out.1] at s1 s2
        obtain ⟨y0, y1, y2⟩ := HB.out.2.at_ s1
        obtain ⟨x0, x1, x2⟩ := HB.out.2.at_ s2
        have lb := HB.out.2.lt
        have lbn : ∀ u, b < wr.heap.size + u := fun u => Nat.lt_of_lt_of_le lb (Nat.le_add_right _ _)
        have KK := Lib.hid (And.intro k1 (And.intro k2 hkp))
        have UP := Lib.hid (show ¬ orderM (kAt X pc) (kAt X k) < 0 → BsI (symQ X (nn - 1)) lo hi kp j from fun h => by rw [hkp]; exact HB.out.1.up MO.out k1 k2 (by unfold symQ; rw [← hpc]; show (!decide _) = true; rw [decide_eq_false h]; rfl))
        have DN := Lib.hid (show orderM (kAt X pc) (kAt X k) < 0 → BsI (symQ X (nn - 1)) lo hi i k from fun h => HB.out.1.dn MO.out k1 k2 (by unfold symQ; rw [← hpc]; show (!decide _) = false; rw [decide_eq_true h]; rfl))
        generalize kAt X pc = y at y0 y1 y2 UP DN
        generalize kAt X k = z at x0 x1 x2 UP DN
        clear hle hsz hj hi0 hlt k1 k2 hkp hpc s1 s2
        by_cases hc : orderM y z < 0
        · have DQ := Lib.hid (DN.out hc)
          clear UP DN
          go_upto_region 35 with fail
          (refine wp_region_held_drew (S := (fun Z : World => b < Z.heap.size ∧ Z.cell? ⟨b, k * 3, none⟩ = some (.int .i64 z.k) ∧ Z.cell? ⟨b, k * 3 + 1, none⟩ = some (.int .i64 z.n) ∧ Z.cell? ⟨b, k * 3 + 2, none⟩ = some (.string z.s) ∧ Z.cell? ⟨b, pc * 3, none⟩ = some (.int .i64 y.k) ∧ Z.cell? ⟨b, pc * 3 + 1, none⟩ = some (.int .i64 y.n) ∧ Z.cell? ⟨b, pc * 3 + 2, none⟩ = some (.string y.s))) Try.mixed (by (and_intros <;> go_simp)) (fun hS => ?_); (refine wpAnyH_take (i := 0) (v := ?_) rfl (by kernel_rfl) (by kernel_rfl) (by kernel_rfl) (fun _ _ _ h => h) ?_ (by assumption) ?_; rotate_left; (next => (refine Or.inl ⟨by kernel_rfl, ?_⟩; ((intro w hSw; (try dsimp only at hSw); go_simp) <;> with_reducible rfl))); (try simp only [Act.put, List.setIfInBounds_toArray, List.set_cons_zero, List.set_cons_succ])); (refine wpAnyH_take (i := 1) (v := ?_) rfl (by kernel_rfl) (by kernel_rfl) (by kernel_rfl) (fun _ _ _ h => h) ?_ (by assumption) ?_; rotate_left; (next => (refine Or.inl ⟨by kernel_rfl, ?_⟩; ((intro w hSw; (try dsimp only at hSw); go_simp) <;> with_reducible rfl))); (try simp only [Act.put, List.setIfInBounds_toArray, List.set_cons_zero, List.set_cons_succ])); (refine wpAnyH_take (i := 2) (v := ?_) rfl (by kernel_rfl) (by kernel_rfl) (by kernel_rfl) (fun _ _ _ h => h) ?_ (by assumption) ?_; rotate_left; (next => (refine Or.inl ⟨by kernel_rfl, ?_⟩; ((intro w hSw; (try dsimp only at hSw); go_simp) <;> with_reducible rfl))); (try simp only [Act.put, List.setIfInBounds_toArray, List.set_cons_zero, List.set_cons_succ])); (refine wpAnyH_take (i := 3) (v := ?_) rfl (by kernel_rfl) (by kernel_rfl) (by kernel_rfl) (fun _ _ _ h => h) ?_ (by assumption) ?_; rotate_left; (next => (refine Or.inl ⟨by kernel_rfl, ?_⟩; ((intro w hSw; (try dsimp only at hSw); go_simp) <;> with_reducible rfl))); (try simp only [Act.put, List.setIfInBounds_toArray, List.set_cons_zero, List.set_cons_succ])); (refine wpAnyH_take (i := 4) (v := ?_) rfl (by kernel_rfl) (by kernel_rfl) (by kernel_rfl) (fun _ _ _ h => h) ?_ (by assumption) ?_; rotate_left; (next => (refine Or.inl ⟨by kernel_rfl, ?_⟩; ((intro w hSw; (try dsimp only at hSw); go_simp) <;> with_reducible rfl))); (try simp only [Act.put, List.setIfInBounds_toArray, List.set_cons_zero, List.set_cons_succ])); (refine wpAnyH_take (i := 5) (v := ?_) rfl (by kernel_rfl) (by kernel_rfl) (by kernel_rfl) (fun _ _ _ h => h) ?_ (by assumption) ?_; rotate_left; (next => (refine Or.inl ⟨by kernel_rfl, ?_⟩; ((intro w hSw; (try dsimp only at hSw); go_simp) <;> with_reducible rfl))); (try simp only [Act.put, List.setIfInBounds_toArray, List.set_cons_zero, List.set_cons_succ])); (refine wpAnyH_take (i := 6) (v := ?_) rfl (by kernel_rfl) (by kernel_rfl) (by kernel_rfl) (fun _ _ _ h => h) ?_ (by assumption) ?_; rotate_left; (next => (refine Or.inl ⟨by kernel_rfl, ?_⟩; ((intro w hSw; (try dsimp only at hSw); obtain ⟨sb, s0, s1, s2, s3, s4, s5⟩ := hSw; go_simp) <;> with_reducible rfl))); (try simp only [Act.put, List.setIfInBounds_toArray, List.set_cons_zero, List.set_cons_succ])); (refine wpAnyH_take (i := 7) (v := ?_) rfl (by kernel_rfl) (by kernel_rfl) (by kernel_rfl) (fun _ _ _ h => h) ?_ (by assumption) ?_; rotate_left; (next => (refine Or.inl ⟨by kernel_rfl, ?_⟩; ((intro w hSw; (try dsimp only at hSw); go_simp) <;> with_reducible rfl))); (try simp only [Act.put, List.setIfInBounds_toArray, List.set_cons_zero, List.set_cons_succ])); (refine wpAnyH_take (i := 8) (v := ?_) rfl (by kernel_rfl) (by kernel_rfl) (by kernel_rfl) (fun _ _ _ h => h) ?_ (by assumption) ?_; rotate_left; (next => (refine Or.inl ⟨by kernel_rfl, ?_⟩; ((intro w hSw; (try dsimp only at hSw); go_simp) <;> with_reducible rfl))); (try simp only [Act.put, List.setIfInBounds_toArray, List.set_cons_zero, List.set_cons_succ])); (refine wpAnyH_take (i := 9) (v := ?_) rfl (by kernel_rfl) (by kernel_rfl) (by kernel_rfl) (fun _ _ _ h => h) ?_ (by assumption) ?_; rotate_left; (next => (refine Or.inl ⟨by kernel_rfl, ?_⟩; ((intro w hSw; (try dsimp only at hSw); go_simp) <;> with_reducible rfl))); (try simp only [Act.put, List.setIfInBounds_toArray, List.set_cons_zero, List.set_cons_succ])); (refine wpAnyH_take (i := 10) (v := ?_) rfl (by kernel_rfl) (by kernel_rfl) (by kernel_rfl) (fun _ _ _ h => h) ?_ (by assumption) ?_; rotate_left; (next => (refine Or.inl ⟨by kernel_rfl, ?_⟩; ((intro w hSw; (try dsimp only at hSw); obtain ⟨sb, s0, s1, s2, s3, s4, s5⟩ := hSw; go_simp) <;> with_reducible rfl))); (try simp only [Act.put, List.setIfInBounds_toArray, List.set_cons_zero, List.set_cons_succ])); refine wpAnyH_ready (rs := [11]) (by kernel_rfl) (by simp) ?_; refine AllReadyH.cons rfl (fun K hK => ?_) AllReadyH.nil; go_simp; ((go_at_call 58; refine (callGr (order_any y z _)).mono ?_; rintro e w' ⟨pp, rfl, rfl⟩)); refine hK.out _ _ (by (and_intros <;> go_simp)) (fun hS => ?_); clear hK K; (try simp only [Act.put, List.setIfInBounds_toArray, List.set_cons_zero, List.set_cons_succ]); (refine wpAnyH_take (i := 12) (v := ?_) rfl (by kernel_rfl) (by kernel_rfl) (by kernel_rfl) (fun _ _ _ h => h) ?_ (by assumption) ?_; rotate_left; (next => (refine Or.inl ⟨by kernel_rfl, ?_⟩; ((intro w hSw; (try dsimp only at hSw); go_simp) <;> with_reducible rfl))); (try simp only [Act.put, List.setIfInBounds_toArray, List.set_cons_zero, List.set_cons_succ])); (refine wpAnyH_take (i := 13) (v := ?_) rfl (by kernel_rfl) (by kernel_rfl) (by kernel_rfl) (fun _ _ _ h => h) ?_ (by assumption) ?_; rotate_left; (next => (refine Or.inl ⟨by kernel_rfl, ?_⟩; ((intro w hSw; (try dsimp only at hSw); go_simp) <;> with_reducible rfl))); (try simp only [Act.put, List.setIfInBounds_toArray, List.set_cons_zero, List.set_cons_succ])); refine wpAnyH_done (by kernel_rfl) ?_ _)
          go_simp
          go_wp2
          go_roundw
          case rel => exact ⟨i, rfl, k, rfl, Lib.hid ⟨DQ.out, HB.out.2.gr _⟩⟩
          case measure => exact meas_b KK.out.1 KK.out.2.1
        · have UQ := Lib.hid (UP.out hc)
          clear UP DN
          go_upto_region 35 with fail
          (refine wp_region_held_drew (S := (fun Z : World => b < Z.heap.size ∧ Z.cell? ⟨b, k * 3, none⟩ = some (.int .i64 z.k) ∧ Z.cell? ⟨b, k * 3 + 1, none⟩ = some (.int .i64 z.n) ∧ Z.cell? ⟨b, k * 3 + 2, none⟩ = some (.string z.s) ∧ Z.cell? ⟨b, pc * 3, none⟩ = some (.int .i64 y.k) ∧ Z.cell? ⟨b, pc * 3 + 1, none⟩ = some (.int .i64 y.n) ∧ Z.cell? ⟨b, pc * 3 + 2, none⟩ = some (.string y.s))) Try.mixed (by (and_intros <;> go_simp)) (fun hS => ?_); (refine wpAnyH_take (i := 0) (v := ?_) rfl (by kernel_rfl) (by kernel_rfl) (by kernel_rfl) (fun _ _ _ h => h) ?_ (by assumption) ?_; rotate_left; (next => (refine Or.inl ⟨by kernel_rfl, ?_⟩; ((intro w hSw; (try dsimp only at hSw); go_simp) <;> with_reducible rfl))); (try simp only [Act.put, List.setIfInBounds_toArray, List.set_cons_zero, List.set_cons_succ])); (refine wpAnyH_take (i := 1) (v := ?_) rfl (by kernel_rfl) (by kernel_rfl) (by kernel_rfl) (fun _ _ _ h => h) ?_ (by assumption) ?_; rotate_left; (next => (refine Or.inl ⟨by kernel_rfl, ?_⟩; ((intro w hSw; (try dsimp only at hSw); go_simp) <;> with_reducible rfl))); (try simp only [Act.put, List.setIfInBounds_toArray, List.set_cons_zero, List.set_cons_succ])); (refine wpAnyH_take (i := 2) (v := ?_) rfl (by kernel_rfl) (by kernel_rfl) (by kernel_rfl) (fun _ _ _ h => h) ?_ (by assumption) ?_; rotate_left; (next => (refine Or.inl ⟨by kernel_rfl, ?_⟩; ((intro w hSw; (try dsimp only at hSw); go_simp) <;> with_reducible rfl))); (try simp only [Act.put, List.setIfInBounds_toArray, List.set_cons_zero, List.set_cons_succ])); (refine wpAnyH_take (i := 3) (v := ?_) rfl (by kernel_rfl) (by kernel_rfl) (by kernel_rfl) (fun _ _ _ h => h) ?_ (by assumption) ?_; rotate_left; (next => (refine Or.inl ⟨by kernel_rfl, ?_⟩; ((intro w hSw; (try dsimp only at hSw); go_simp) <;> with_reducible rfl))); (try simp only [Act.put, List.setIfInBounds_toArray, List.set_cons_zero, List.set_cons_succ])); (refine wpAnyH_take (i := 4) (v := ?_) rfl (by kernel_rfl) (by kernel_rfl) (by kernel_rfl) (fun _ _ _ h => h) ?_ (by assumption) ?_; rotate_left; (next => (refine Or.inl ⟨by kernel_rfl, ?_⟩; ((intro w hSw; (try dsimp only at hSw); go_simp) <;> with_reducible rfl))); (try simp only [Act.put, List.setIfInBounds_toArray, List.set_cons_zero, List.set_cons_succ])); (refine wpAnyH_take (i := 5) (v := ?_) rfl (by kernel_rfl) (by kernel_rfl) (by kernel_rfl) (fun _ _ _ h => h) ?_ (by assumption) ?_; rotate_left; (next => (refine Or.inl ⟨by kernel_rfl, ?_⟩; ((intro w hSw; (try dsimp only at hSw); go_simp) <;> with_reducible rfl))); (try simp only [Act.put, List.setIfInBounds_toArray, List.set_cons_zero, List.set_cons_succ])); (refine wpAnyH_take (i := 6) (v := ?_) rfl (by kernel_rfl) (by kernel_rfl) (by kernel_rfl) (fun _ _ _ h => h) ?_ (by assumption) ?_; rotate_left; (next => (refine Or.inl ⟨by kernel_rfl, ?_⟩; ((intro w hSw; (try dsimp only at hSw); obtain ⟨sb, s0, s1, s2, s3, s4, s5⟩ := hSw; go_simp) <;> with_reducible rfl))); (try simp only [Act.put, List.setIfInBounds_toArray, List.set_cons_zero, List.set_cons_succ])); (refine wpAnyH_take (i := 7) (v := ?_) rfl (by kernel_rfl) (by kernel_rfl) (by kernel_rfl) (fun _ _ _ h => h) ?_ (by assumption) ?_; rotate_left; (next => (refine Or.inl ⟨by kernel_rfl, ?_⟩; ((intro w hSw; (try dsimp only at hSw); go_simp) <;> with_reducible rfl))); (try simp only [Act.put, List.setIfInBounds_toArray, List.set_cons_zero, List.set_cons_succ])); (refine wpAnyH_take (i := 8) (v := ?_) rfl (by kernel_rfl) (by kernel_rfl) (by kernel_rfl) (fun _ _ _ h => h) ?_ (by assumption) ?_; rotate_left; (next => (refine Or.inl ⟨by kernel_rfl, ?_⟩; ((intro w hSw; (try dsimp only at hSw); go_simp) <;> with_reducible rfl))); (try simp only [Act.put, List.setIfInBounds_toArray, List.set_cons_zero, List.set_cons_succ])); (refine wpAnyH_take (i := 9) (v := ?_) rfl (by kernel_rfl) (by kernel_rfl) (by kernel_rfl) (fun _ _ _ h => h) ?_ (by assumption) ?_; rotate_left; (next => (refine Or.inl ⟨by kernel_rfl, ?_⟩; ((intro w hSw; (try dsimp only at hSw); go_simp) <;> with_reducible rfl))); (try simp only [Act.put, List.setIfInBounds_toArray, List.set_cons_zero, List.set_cons_succ])); (refine wpAnyH_take (i := 10) (v := ?_) rfl (by kernel_rfl) (by kernel_rfl) (by kernel_rfl) (fun _ _ _ h => h) ?_ (by assumption) ?_; rotate_left; (next => (refine Or.inl ⟨by kernel_rfl, ?_⟩; ((intro w hSw; (try dsimp only at hSw); obtain ⟨sb, s0, s1, s2, s3, s4, s5⟩ := hSw; go_simp) <;> with_reducible rfl))); (try simp only [Act.put, List.setIfInBounds_toArray, List.set_cons_zero, List.set_cons_succ])); refine wpAnyH_ready (rs := [11]) (by kernel_rfl) (by simp) ?_; refine AllReadyH.cons rfl (fun K hK => ?_) AllReadyH.nil; go_simp; ((go_at_call 58; refine (callGr (order_any y z _)).mono ?_; rintro e w' ⟨pp, rfl, rfl⟩)); refine hK.out _ _ (by (and_intros <;> go_simp)) (fun hS => ?_); clear hK K; (try simp only [Act.put, List.setIfInBounds_toArray, List.set_cons_zero, List.set_cons_succ]); (refine wpAnyH_take (i := 12) (v := ?_) rfl (by kernel_rfl) (by kernel_rfl) (by kernel_rfl) (fun _ _ _ h => h) ?_ (by assumption) ?_; rotate_left; (next => (refine Or.inl ⟨by kernel_rfl, ?_⟩; ((intro w hSw; (try dsimp only at hSw); go_simp) <;> with_reducible rfl))); (try simp only [Act.put, List.setIfInBounds_toArray, List.set_cons_zero, List.set_cons_succ])); (refine wpAnyH_take (i := 13) (v := ?_) rfl (by kernel_rfl) (by kernel_rfl) (by kernel_rfl) (fun _ _ _ h => h) ?_ (by assumption) ?_; rotate_left; (next => (refine Or.inl ⟨by kernel_rfl, ?_⟩; ((intro w hSw; (try dsimp only at hSw); go_simp) <;> with_reducible rfl))); (try simp only [Act.put, List.setIfInBounds_toArray, List.set_cons_zero, List.set_cons_succ])); refine wpAnyH_done (by kernel_rfl) ?_ _)
          go_simp
          go_wp2
          go_roundw
          case rel => exact ⟨kp, by first | with_reducible rfl | rw [ek1], j, rfl, Lib.hid ⟨UQ.out, HB.out.2.gr _⟩⟩
          case measure => ((try rw [ek1]); exact meas_a KK.out.1 KK.out.2.1 KK.out.2.2)
      · have q0 : ¬ (i : Int) < (j : Int) := by omega
        have hij : j = i := by have := HB.out.1.2.1; omega
        rw [hij] at HB
        obtain ⟨S1, S2, T1, T2, rfl, rfl, b1, b2, b3, b4, b5, b6⟩ := CUT.out i HB.out.1
        obtain ⟨hn, hl, ha, hm, he, hsz⟩ := NN.out
        have l1 : (S1 ++ S2).length = S1.length + S2.length := List.length_append
        have l2 : (T1 ++ T2).length = T1.length + T2.length := List.length_append
        have e1 : wrap64 ((nn : Int) - (i : Int)) = ((nn - i : Nat) : Int) := w64 (by omega) (by have := PN.out.2.2; omega)
        obtain ⟨en, hen⟩ : ∃ en, en = nn - i := ⟨_, rfl⟩
        rw [← hen] at e1
        have NS := Lib.hid (show i = a + S1.length ∧ m = i + S2.length ∧ en = m + T1.length ∧ e = en + T2.length ∧ mid = i + T1.length ∧ en = mid + S2.length ∧ a = A.length ∧ n = a + S1.length + S2.length + T1.length + T2.length + R.length ∧ n < 4611686018427387904 by omega)
        have EX2 := Lib.hid (show X = A ++ (S1 ++ (S2 ++ (T1 ++ (T2 ++ R)))) by rw [← EX.out]; simp only [List.append_assoc])
        have BB := Lib.hid HB.out.2
        have b56 := Lib.hid (And.intro b5 b6)
        clear hn hl ha hm he hsz l1 l2 hen b1 b2 b3 b4 b5 b6 hij HB hlt MO ST CUT HC
        -- the seven ways
        have ROT := Lib.hid (show 0 < S2.length → 0 < T1.length → Calls Try.prog 73 #[.slice (some ⟨b, 0, none⟩) n cap, .int .i64 i, .int .i64 m, .int .i64 en, cmpV] wr (SrtRet w0 b cap (A ++ (S1 ++ (T1 ++ (S2 ++ (T2 ++ R)))))) from fun h1 h2 => by
          obtain ⟨n1, n2, n3, n4, n5, n6, n7, n8, n9⟩ := NS.out
          refine rotate_any w0 wr b cap _ X n i m en S2.length T1.length ?_ n2.symm n3.symm ⟨A ++ S1, S2, T1, T2 ++ R, ?_, ?_, rfl, rfl, ?_, h1, h2⟩ BB.out
          · rw [EX2.out]
            simp only [List.length_append]
            omega
          · rw [EX2.out]
            simp only [List.append_assoc]
          · simp only [List.append_assoc]
          · rw [List.length_append]
            omega)
        have SY1 := Lib.hid (show 0 < S1.length → 0 < T1.length → ∀ W, SrtW w0 b cap (A ++ (S1 ++ (T1 ++ (S2 ++ (T2 ++ R))))) W → Calls Try.prog 71 #[.slice (some ⟨b, 0, none⟩) n cap, .int .i64 a, .int .i64 i, .int .i64 mid, cmpV] W (SymRet w0 b cap A S1 T1 (S2 ++ (T2 ++ R))) from fun h1 h2 W hW => by
          obtain ⟨n1, n2, n3, n4, n5, n6, n7, n8, n9⟩ := NS.out
          have q1 := PN.out.2.1.h2
          refine HI.out A S1 T1 (S2 ++ (T2 ++ R)) a i mid W ?_ n7 n1 n5 ?_ h1 h2 (List.pairwise_append.1 SO.out.1).1 (List.pairwise_append.1 SO.out.2).1 hW
          · simp only [List.length_append]
            omega
          · simp only [List.length_append] at q1 ⊢
            omega)
        have SY2 := Lib.hid (show 0 < S2.length → 0 < T2.length → ∀ U1, U1.length = S1.length + T1.length → ∀ W, SrtW w0 b cap (A ++ (U1 ++ (S2 ++ (T2 ++ R)))) W → Calls Try.prog 71 #[.slice (some ⟨b, 0, none⟩) n cap, .int .i64 mid, .int .i64 en, .int .i64 e, cmpV] W (fun r w' => r = .returned (.tuple #[]) ∧ ∃ U2, StS (S2 ++ T2) U2 ∧ SrtW w0 b cap (A ++ (U1 ++ (U2 ++ R))) w') from fun h1 h2 U1 hU W hW => by
          obtain ⟨n1, n2, n3, n4, n5, n6, n7, n8, n9⟩ := NS.out
          have q1 := PN.out.2.1.h1
          refine (HI.out (A ++ U1) S2 T2 R mid en e W ?_ ?_ n6 n4 ?_ h1 h2 (List.pairwise_append.1 SO.out.1).2.1 (List.pairwise_append.1 SO.out.2).2.1 (by rw [List.append_assoc]; exact hW)).mono ?_
          · simp only [List.length_append]
            omega
          · rw [List.length_append]
            omega
          · simp only [List.length_append] at q1 ⊢
            omega
          · rintro r w' ⟨hr, U2, h3, h4⟩
            exact ⟨hr, U2, h3, by rw [List.append_assoc] at h4; exact h4⟩)
        have FIN := Lib.hid (show ∀ U1 U2 W, StS (S1 ++ T1) U1 → StS (S2 ++ T2) U2 → SrtW w0 b cap (A ++ (U1 ++ (U2 ++ R))) W → ∃ U, StS ((S1 ++ S2) ++ (T1 ++ T2)) U ∧ SrtW w0 b cap (A ++ (U ++ R)) W from fun U1 U2 W h1 h2 hW =>
          ⟨U1 ++ U2, StS.halves SO.out.1 SO.out.2 b56.out.1 b56.out.2 h1 h2, by rw [List.append_assoc]; exact hW⟩)
        have D1 := Lib.hid (show S1.length = 0 ∨ T1.length = 0 → StS (S1 ++ T1) (S1 ++ T1) from fun h => by
          rcases h with h | h
          · rw [List.eq_nil_of_length_eq_zero h]
            exact .self (List.pairwise_append.1 SO.out.2).1
          · rw [List.eq_nil_of_length_eq_zero h, List.append_nil]
            exact .self (List.pairwise_append.1 SO.out.1).1)
        have D2 := Lib.hid (show S2.length = 0 ∨ T2.length = 0 → StS (S2 ++ T2) (S2 ++ T2) from fun h => by
          rcases h with h | h
          · rw [List.eq_nil_of_length_eq_zero h]
            exact .self (List.pairwise_append.1 SO.out.2).2.1
          · rw [List.eq_nil_of_length_eq_zero h, List.append_nil]
            exact .self (List.pairwise_append.1 SO.out.1).2.1)
        have D0 := Lib.hid (show S2.length = 0 ∨ T1.length = 0 → SrtW w0 b cap (A ++ (S1 ++ (T1 ++ (S2 ++ (T2 ++ R))))) wr from fun h => by
          have h0 := BB.out
          rw [EX2.out] at h0
          rcases h with h | h <;> rw [List.eq_nil_of_length_eq_zero h] at h0 ⊢ <;> exact h0)
        have E12 : ∀ W, SrtW w0 b cap (A ++ (S1 ++ (T1 ++ (S2 ++ (T2 ++ R))))) W → SrtW w0 b cap (A ++ ((S1 ++ T1) ++ (S2 ++ (T2 ++ R)))) W := fun W h => by rw [List.append_assoc]; exact h
        have E23 : ∀ U1 W, SrtW w0 b cap (A ++ (U1 ++ (S2 ++ (T2 ++ R)))) W → SrtW w0 b cap (A ++ (U1 ++ ((S2 ++ T2) ++ R))) W := fun U1 W h => by rw [List.append_assoc]; exact h
        have E12 := Lib.hid E12
        have E23 := Lib.hid E23
        have BIG := Lib.hid (show 1 < S1.length + S2.length ∧ 1 < T1.length + T2.length from ⟨by rw [← List.length_append]; exact L2.out.1, by rw [← List.length_append]; exact L2.out.2⟩)
        have PRE := Lib.hid NS.out
        clear NS
        have GT := Lib.hid (show (0 < S1.length → (a : Int) < (i : Int)) ∧ (0 < S2.length → (i : Int) < (m : Int) ∧ (mid : Int) < (en : Int)) ∧ (0 < T1.length → (m : Int) < (en : Int) ∧ (i : Int) < (mid : Int)) ∧ (0 < T2.length → (en : Int) < (e : Int)) from by have := PRE.out; clear f1 f2 f3 f4 f5 f6 f7 e1; omega)
        have LE := Lib.hid (show (S1.length = 0 → ¬ (a : Int) < (i : Int)) ∧ (S2.length = 0 → ¬ (i : Int) < (m : Int) ∧ ¬ (mid : Int) < (en : Int)) ∧ (T1.length = 0 → ¬ (m : Int) < (en : Int) ∧ ¬ (i : Int) < (mid : Int)) ∧ (T2.length = 0 → ¬ (en : Int) < (e : Int)) from by have := PRE.out; clear f1 f2 f3 f4 f5 f6 f7 e1; omega)
        rcases Nat.eq_zero_or_pos T1.length with hz0 | hz0
        · have P3 := Lib.hid hz0
          clear hz0
          rcases Nat.eq_zero_or_pos S2.length with hz1 | hz1
          · have P2 := Lib.hid hz1
            clear hz1
            have P1 := Lib.hid (show 0 < S1.length by have := BIG.out; have := P2.out; clear f1 f2 f3 f4 f5 f6 f7 e1; omega)
            have P4 := Lib.hid (show 0 < T2.length by have := BIG.out; have := P3.out; clear f1 f2 f3 f4 f5 f6 f7 e1; omega)
            have g1 := GT.out.1 P1.out
            obtain ⟨g2, g3⟩ := LE.out.2.1 P2.out
            obtain ⟨g4, g5⟩ := LE.out.2.2.1 P3.out
            have g6 := GT.out.2.2.2 P4.out
            have B1 := Lib.hid (D0.out (.inl P2.out))
            have K1 := Lib.hid (D1.out (.inr P3.out))
            have K2 := Lib.hid (D2.out (.inl P2.out))
            clear GT LE ROT SY1 SY2 D0 D1 D2
            go_wp2_with fail
            go_end0
            exact ⟨rfl, FIN.out (S1 ++ T1) _ _ K1.out K2.out (E23.out _ _ (E12.out _ B1.out))⟩
          · have P2 := Lib.hid hz1
            clear hz1
            rcases Nat.eq_zero_or_pos S1.length with hz2 | hz2
            · have P1 := Lib.hid hz2
              clear hz2
              have P4 := Lib.hid (show 0 < T2.length by have := BIG.out; have := P3.out; clear f1 f2 f3 f4 f5 f6 f7 e1; omega)
              have g1 := LE.out.1 P1.out
              obtain ⟨g2, g3⟩ := GT.out.2.1 P2.out
              obtain ⟨g4, g5⟩ := LE.out.2.2.1 P3.out
              have g6 := GT.out.2.2.2 P4.out
              have B1 := Lib.hid (D0.out (.inr P3.out))
              have K1 := Lib.hid (D1.out (.inl P1.out))
              have SC2 := Lib.hid (SY2.out P2.out P4.out)
              clear GT LE ROT SY1 SY2 D0 D1 D2
              go_wp2_with (first | (go_at_call_of 71 (Value.int IntKind.i64 (e : Int)); refine (SC2.out (S1 ++ T1) (by rw [List.length_append]) _ (E12.out _ B1.out)).mono ?_; rintro e0 w3 ⟨rfl, U2, h1, hw⟩; have B3 := Lib.hid (And.intro h1 hw); clear h1 hw))
              go_end0
              exact ⟨rfl, FIN.out (S1 ++ T1) _ _ K1.out B3.out.1 B3.out.2⟩
            · have P1 := Lib.hid hz2
              clear hz2
              have P4 := Lib.hid (show 0 < T2.length by have := BIG.out; have := P3.out; clear f1 f2 f3 f4 f5 f6 f7 e1; omega)
              have g1 := GT.out.1 P1.out
              obtain ⟨g2, g3⟩ := GT.out.2.1 P2.out
              obtain ⟨g4, g5⟩ := LE.out.2.2.1 P3.out
              have g6 := GT.out.2.2.2 P4.out
              have B1 := Lib.hid (D0.out (.inr P3.out))
              have K1 := Lib.hid (D1.out (.inr P3.out))
              have SC2 := Lib.hid (SY2.out P2.out P4.out)
              clear GT LE ROT SY1 SY2 D0 D1 D2
              go_wp2_with (first | (go_at_call_of 71 (Value.int IntKind.i64 (e : Int)); refine (SC2.out (S1 ++ T1) (by rw [List.length_append]) _ (E12.out _ B1.out)).mono ?_; rintro e0 w3 ⟨rfl, U2, h1, hw⟩; have B3 := Lib.hid (And.intro h1 hw); clear h1 hw))
              go_end0
              exact ⟨rfl, FIN.out (S1 ++ T1) _ _ K1.out B3.out.1 B3.out.2⟩
        · have P3 := Lib.hid hz0
          clear hz0
          rcases Nat.eq_zero_or_pos S2.length with hz1 | hz1
          · have P2 := Lib.hid hz1
            clear hz1
            have P1 := Lib.hid (show 0 < S1.length by have := BIG.out; have := P2.out; clear f1 f2 f3 f4 f5 f6 f7 e1; omega)
            rcases Nat.eq_zero_or_pos T2.length with hz3 | hz3
            · have P4 := Lib.hid hz3
              clear hz3
              have g1 := GT.out.1 P1.out
              obtain ⟨g2, g3⟩ := LE.out.2.1 P2.out
              obtain ⟨g4, g5⟩ := GT.out.2.2.1 P3.out
              have g6 := LE.out.2.2.2 P4.out
              have B1 := Lib.hid (D0.out (.inl P2.out))
              have SC1 := Lib.hid (SY1.out P1.out P3.out)
              have K2 := Lib.hid (D2.out (.inl P2.out))
              clear GT LE ROT SY1 SY2 D0 D1 D2
              go_wp2_with (first | (go_at_call_of 71 (Value.int IntKind.i64 (a : Int)); refine (SC1.out _ B1.out).mono ?_; rintro e0 w2 ⟨rfl, U1, h1, hw⟩; have B2 := Lib.hid (And.intro h1 hw); clear h1 hw))
              go_end0
              exact ⟨rfl, FIN.out U1 _ _ B2.out.1 K2.out (E23.out _ _ B2.out.2)⟩
            · have P4 := Lib.hid hz3
              clear hz3
              have g1 := GT.out.1 P1.out
              obtain ⟨g2, g3⟩ := LE.out.2.1 P2.out
              obtain ⟨g4, g5⟩ := GT.out.2.2.1 P3.out
              have g6 := GT.out.2.2.2 P4.out
              have B1 := Lib.hid (D0.out (.inl P2.out))
              have SC1 := Lib.hid (SY1.out P1.out P3.out)
              have K2 := Lib.hid (D2.out (.inl P2.out))
              clear GT LE ROT SY1 SY2 D0 D1 D2
              go_wp2_with (first | (go_at_call_of 71 (Value.int IntKind.i64 (a : Int)); refine (SC1.out _ B1.out).mono ?_; rintro e0 w2 ⟨rfl, U1, h1, hw⟩; have B2 := Lib.hid (And.intro h1 hw); clear h1 hw))
              go_end0
              exact ⟨rfl, FIN.out U1 _ _ B2.out.1 K2.out (E23.out _ _ B2.out.2)⟩
          · have P2 := Lib.hid hz1
            clear hz1
            rcases Nat.eq_zero_or_pos S1.length with hz2 | hz2
            · have P1 := Lib.hid hz2
              clear hz2
              rcases Nat.eq_zero_or_pos T2.length with hz3 | hz3
              · have P4 := Lib.hid hz3
                clear hz3
                have g1 := LE.out.1 P1.out
                obtain ⟨g2, g3⟩ := GT.out.2.1 P2.out
                obtain ⟨g4, g5⟩ := GT.out.2.2.1 P3.out
                have g6 := LE.out.2.2.2 P4.out
                have RO := Lib.hid (ROT.out P2.out P3.out)
                have K1 := Lib.hid (D1.out (.inl P1.out))
                have K2 := Lib.hid (D2.out (.inr P4.out))
                clear GT LE ROT SY1 SY2 D0 D1 D2
                go_wp2_with (first | (go_at_call 73; refine RO.out.mono ?_; rintro e0 w1 ⟨rfl, hw⟩; have B1 := Lib.hid hw; clear hw))
                go_end0
                exact ⟨rfl, FIN.out (S1 ++ T1) _ _ K1.out K2.out (E23.out _ _ (E12.out _ B1.out))⟩
              · have P4 := Lib.hid hz3
                clear hz3
                have g1 := LE.out.1 P1.out
                obtain ⟨g2, g3⟩ := GT.out.2.1 P2.out
                obtain ⟨g4, g5⟩ := GT.out.2.2.1 P3.out
                have g6 := GT.out.2.2.2 P4.out
                have RO := Lib.hid (ROT.out P2.out P3.out)
                have K1 := Lib.hid (D1.out (.inl P1.out))
                have SC2 := Lib.hid (SY2.out P2.out P4.out)
                clear GT LE ROT SY1 SY2 D0 D1 D2
                go_wp2_with (first | (go_at_call 73; refine RO.out.mono ?_; rintro e0 w1 ⟨rfl, hw⟩; have B1 := Lib.hid hw; clear hw) | (go_at_call_of 71 (Value.int IntKind.i64 (e : Int)); refine (SC2.out (S1 ++ T1) (by rw [List.length_append]) _ (E12.out _ B1.out)).mono ?_; rintro e0 w3 ⟨rfl, U2, h1, hw⟩; have B3 := Lib.hid (And.intro h1 hw); clear h1 hw))
                go_end0
                exact ⟨rfl, FIN.out (S1 ++ T1) _ _ K1.out B3.out.1 B3.out.2⟩
            · have P1 := Lib.hid hz2
              clear hz2
              rcases Nat.eq_zero_or_pos T2.length with hz3 | hz3
              · have P4 := Lib.hid hz3
                clear hz3
                have g1 := GT.out.1 P1.out
                obtain ⟨g2, g3⟩ := GT.out.2.1 P2.out
                obtain ⟨g4, g5⟩ := GT.out.2.2.1 P3.out
                have g6 := LE.out.2.2.2 P4.out
                have RO := Lib.hid (ROT.out P2.out P3.out)
                have SC1 := Lib.hid (SY1.out P1.out P3.out)
                have K2 := Lib.hid (D2.out (.inr P4.out))
                clear GT LE ROT SY1 SY2 D0 D1 D2
                go_wp2_with (first | (go_at_call 73; refine RO.out.mono ?_; rintro e0 w1 ⟨rfl, hw⟩; have B1 := Lib.hid hw; clear hw) | (go_at_call_of 71 (Value.int IntKind.i64 (a : Int)); refine (SC1.out _ B1.out).mono ?_; rintro e0 w2 ⟨rfl, U1, h1, hw⟩; have B2 := Lib.hid (And.intro h1 hw); clear h1 hw))
                go_end0
                exact ⟨rfl, FIN.out U1 _ _ B2.out.1 K2.out (E23.out _ _ B2.out.2)⟩
              · have P4 := Lib.hid hz3
                clear hz3
                have g1 := GT.out.1 P1.out
                obtain ⟨g2, g3⟩ := GT.out.2.1 P2.out
                obtain ⟨g4, g5⟩ := GT.out.2.2.1 P3.out
                have g6 := GT.out.2.2.2 P4.out
                have RO := Lib.hid (ROT.out P2.out P3.out)
                have SC1 := Lib.hid (SY1.out P1.out P3.out)
                have SC2 := Lib.hid (SY2.out P2.out P4.out)
                clear GT LE ROT SY1 SY2 D0 D1 D2
                go_wp2_with (first | (go_at_call 73; refine RO.out.mono ?_; rintro e0 w1 ⟨rfl, hw⟩; have B1 := Lib.hid hw; clear hw) | (go_at_call_of 71 (Value.int IntKind.i64 (a : Int)); refine (SC1.out _ B1.out).mono ?_; rintro e0 w2 ⟨rfl, U1, h1, hw⟩; have B2 := Lib.hid (And.intro h1 hw); clear h1 hw) | (go_at_call_of 71 (Value.int IntKind.i64 (e : Int)); refine (SC2.out U1 (by rw [B2.out.1.2.len, List.length_append]) _ B2.out.2).mono ?_; rintro e0 w3 ⟨rfl, U2, h1, hw⟩; have B3 := Lib.hid (And.intro h1 hw); clear h1 hw))
                go_end0
                exact ⟨rfl, FIN.out U1 _ _ B2.out.1 B3.out.1 B3.out.2⟩
end Go.Proofs.Ytippimonpdeioaa
