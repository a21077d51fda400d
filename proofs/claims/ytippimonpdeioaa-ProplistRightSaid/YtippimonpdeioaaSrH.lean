/- The library's stable sort: stable and SortStableFunc, walked. -/
import Derived.Test.YtippimonpdeioaaSrG
namespace Go.Proofs.Ytippimonpdeioaa
set_option linter.all false
open Go.ChangeShapes Go.WideShapes Go.ChangeAt Go.RowKit Go.Sort Go.Deep

theorem add_w {a s n : Nat} (h : a + s ≤ n) (hn : n < 9223372036854775807) : ∃ m : Nat, m = a + s ∧ wrap64 ((a : Int) + (s : Int)) = (m : Int) := ⟨a + s, rfl, w64 (by omega) (by omega)⟩
theorem meas_n {n a c : Nat} (h : a < c) (hl : a < n) : n - ((c : Int)).toNat < n - ((a : Int)).toNat := by
  simp only [Int.toNat_natCast]
  omega
theorem meas_n2 {n a c b : Nat} (h : c = b) (hb : a < b) (hl : b ≤ n) : n + 1 - ((c : Int)).toNat < n + 1 - ((a : Int)).toNat := by
  simp only [Int.toNat_natCast]
  omega

set_option maxRecDepth 100000 in
set_option maxHeartbeats 16000000 in
theorem stable_any (w0 w : World) (b cap : Nat) (X : List Val) (n : Nat) (hn : n = X.length) (hsz : n < 1152921504606846976) (hS : SrtW w0 b cap X w) :
    Calls Try.prog 67 #[.slice (some ⟨b, 0, none⟩) n cap, .int .i64 n, cmpV] w fun r w' => r = .returned (.tuple #[]) ∧ ∃ L, StS X L ∧ SrtW w0 b cap L w' := by
  have W0 := Lib.hid hS
  have NN := Lib.hid (And.intro hn hsz)
  have IH := Lib.hid (fun N => symIH_any w0 b cap n (by omega) N)
  clear hn hsz hS
  go_enter Try.func67, Try.ntmps67
  go_wp2
  go_loopw [7, 8] (fun y z wr => ∃ (a c : Nat) (L : List Val), y = .int .i64 a ∧ z = .int .i64 c ∧ Hid (c = a + 20 ∧ St1 a X L ∧ SrtW w0 b cap L wr)) (fun y _ _ => n - (intOf y).toNat)
  case atStart => exact ⟨0, 20, X, rfl, rfl, Lib.hid ⟨rfl, St1.start X, W0.out⟩⟩
  case round =>
    obtain ⟨a, c, L, rfl, rfl, HL⟩ := hrel
    by_cases hlt : c ≤ n
    · have q0 : (c : Int) ≤ (n : Int) := by omega
      have hl := HL.out.2.1.len
      have hc := HL.out.1
      have hn := NN.out
      have e1 : wrap64 ((c : Int) + 20) = ((c + 20 : Nat) : Int) := w64 (by omega) (by omega)
      obtain ⟨d, hd⟩ : ∃ d, d = c + 20 := ⟨_, rfl⟩
      rw [← hd] at e1
      have IS := Lib.hid (insSort_any w0 wr b cap L n a c (by omega) (by omega) (by omega) (by omega) HL.out.2.2)
      have GO := Lib.hid (fun L' ho => HL.out.2.1.step (L' := L') ho hc)
      have DD := Lib.hid (And.intro hd (And.intro (show a < c by omega) (show a < n by omega)))
      clear hd hl hc hn hlt
      go_wp2_with (go_at_call 70; refine IS.out.mono ?_; rintro e0 w1 ⟨rfl, L1, ho, hw⟩; have B1 := Lib.hid (And.intro ho hw); clear ho hw)
      go_roundw
      case rel => exact ⟨c, d, L1, by with_reducible rfl, by first | with_reducible rfl | rw [e1], Lib.hid ⟨DD.out.1, GO.out _ B1.out.1, B1.out.2⟩⟩
      case measure => exact meas_n DD.out.2.1 DD.out.2.2
    · have q0 : ¬ (c : Int) ≤ (n : Int) := by omega
      have hl := HL.out.2.1.len
      have hc := HL.out.1
      have hn := NN.out
      have IS := Lib.hid (insSort_any w0 wr b cap L n a n (by omega) (by omega) (by omega) (by omega) HL.out.2.2)
      have GO := Lib.hid (fun L' ho => HL.out.2.1.last (L' := L') (n := n) ho hn.1 (by omega))
      clear hl hc hn hlt
      go_wp2_with (go_at_call 70; refine IS.out.mono ?_; rintro e0 w1 ⟨rfl, L1, ho, hw⟩; have B1 := Lib.hid (And.intro (GO.out _ ho) hw); clear ho hw)
      clear IS GO HL q0
      go_loopw [6] (fun y wr => ∃ (s : Nat) (M : List Val), y = .int .i64 s ∧ Hid (0 < s ∧ Bl s X M ∧ SrtW w0 b cap M wr)) (fun y _ => n - (intOf y).toNat)
      case atStart => exact ⟨20, L1, rfl, Lib.hid ⟨by omega, B1.out.1, B1.out.2⟩⟩
      case round =>
        clear B1
        obtain ⟨s, M, rfl, HM⟩ := hrel
        by_cases hsn : s < n
        · have q0 : (s : Int) < (n : Int) := by omega
          have hn := NN.out
          have h0 := HM.out.1
          have e1 : wrap64 (2 * (s : Int)) = ((2 * s : Nat) : Int) := w64 (by omega) (by omega)
          have e2 : wrap64 ((s : Int) * 2) = ((2 * s : Nat) : Int) := w64 (by omega) (by omega)
          obtain ⟨s2, hs2⟩ : ∃ s2, s2 = 2 * s := ⟨_, rfl⟩
          rw [← hs2] at e1 e2
          have DD := Lib.hid (And.intro hs2 (And.intro hsn h0))
          clear hn h0 hs2 hsn
          go_wp2
          go_simp
          go_loopw [7, 8] (fun y z wr => ∃ (a c : Nat) (L : List Val), y = .int .i64 a ∧ z = .int .i64 c ∧ Hid (c = a + 2 * s ∧ St2 s a X L ∧ SrtW w0 b cap L wr)) (fun y _ _ => n + 1 - (intOf y).toNat)
          case atStart => exact ⟨0, s2, M, rfl, by first | with_reducible rfl | rw [e1], Lib.hid ⟨by rw [DD.out.1, Nat.zero_add], St2.start HM.out.2.1, HM.out.2.2⟩⟩
          case round =>
            clear HM
            obtain ⟨a, c, L, rfl, rfl, HL⟩ := hrel
            by_cases hlt : c ≤ n
            · have q1 : (c : Int) ≤ (n : Int) := by omega
              have hl := HL.out.2.1.len
              have hc := HL.out.1
              have hn := NN.out
              obtain ⟨A, S, T, R, eL, hA, hS, hT, oS, oT, GO⟩ := HL.out.2.1.step (by clear e1 e2; omega)
              have h3 := DD.out
              obtain ⟨m, hm, e3⟩ := add_w (a := a) (s := s) (n := 5764607523034234880) (by clear e1 e2 oS oT GO; omega) (by decide)
              obtain ⟨d, hd, e4⟩ := add_w (a := c) (s := s2) (n := 5764607523034234880) (by clear e1 e2 e3 oS oT GO; omega) (by decide)
              have SY := Lib.hid (IH.out _ A S T R a m c wr (by rw [← eL]; clear e1 e2 e3 e4; omega) hA.symm (by clear e1 e2 e3 e4; omega) (by clear e1 e2 e3 e4; omega) (Nat.lt_succ_self _) (by clear e1 e2 e3 e4; omega) (by clear e1 e2 e3 e4; omega) oS oT (by rw [← eL]; exact HL.out.2.2))
              have G2 := Lib.hid GO
              have D2 := Lib.hid (show d = c + 2 * s ∧ c = a + 2 * s ∧ a < c ∧ c ≤ n by clear e1 e2 e3 e4; omega)
              clear hl hc hn eL hA hS hT oS oT GO h3 hm hd hlt
              go_wp2_with (go_at_call 71; refine SY.out.mono ?_; rintro e0 w1 ⟨rfl, U, ho, hw⟩; have B1 := Lib.hid (And.intro ho hw); clear ho hw)
              go_roundw
              case rel => exact ⟨c, d, A ++ (U ++ R), by with_reducible rfl, by first | with_reducible rfl | rw [e4], Lib.hid ⟨D2.out.1, by rw [D2.out.2.1]; exact G2.out U B1.out.1, B1.out.2⟩⟩
              case measure => exact meas_n2 rfl D2.out.2.2.1 D2.out.2.2.2
            · have q1 : ¬ (c : Int) ≤ (n : Int) := by omega
              have hl := HL.out.2.1.len
              have hc := HL.out.1
              have hn := NN.out
              have h3 := DD.out
              obtain ⟨m, hm, e3⟩ := add_w (a := a) (s := s) (n := 5764607523034234880) (by clear e1 e2; omega) (by decide)
              by_cases hmn : m < n
              · have q2 : (m : Int) < (n : Int) := by clear e1 e2 e3; omega
                obtain ⟨A, S, T, eL, hA, hS, hT, oS, oT, GO⟩ := HL.out.2.1.last (by clear e1 e2 e3; omega) (by clear e1 e2 e3; omega)
                have SY := Lib.hid (IH.out _ A S T [] a m n wr (by rw [← eL]; clear e1 e2 e3; omega) hA.symm (by clear e1 e2 e3; omega) (by clear e1 e2 e3; omega) (Nat.lt_succ_self _) (by clear e1 e2 e3; omega) (by clear e1 e2 e3; omega) oS oT (by rw [← eL]; exact HL.out.2.2))
                have G2 := Lib.hid GO
                clear hl hc hn eL hA hS hT oS oT GO h3 hm hlt hmn
                go_wp2_with (go_at_call 71; refine SY.out.mono ?_; rintro e0 w1 ⟨rfl, U, ho, hw⟩; have B1 := Lib.hid (And.intro ho hw); clear ho hw)
                go_roundw
                case rel => exact ⟨s2, A ++ (U ++ []), by first | with_reducible rfl | rw [e2], Lib.hid ⟨by have := DD.out; clear e1 e2 e3; omega, by rw [DD.out.1]; exact G2.out U B1.out.1, B1.out.2⟩⟩
                case measure => ((try rw [e2]); exact meas_n (by have := DD.out; clear e1 e2 e3; omega) DD.out.2.1)
              · have q2 : ¬ (m : Int) < (n : Int) := by clear e1 e2 e3; omega
                have G2 := Lib.hid (HL.out.2.1.skip (by clear e1 e2 e3; omega) (by clear e1 e2 e3; omega) h3.2.2)
                clear hl hc hn h3 hm hlt hmn
                go_wp2
                go_roundw
                case rel => exact ⟨s2, L, by first | with_reducible rfl | rw [e2], Lib.hid ⟨by have := DD.out; clear e1 e2 e3; omega, by rw [DD.out.1]; exact G2.out, HL.out.2.2⟩⟩
                case measure => ((try rw [e2]); exact meas_n (by have := DD.out; clear e1 e2 e3; omega) DD.out.2.1)
        · have q0 : ¬ (s : Int) < (n : Int) := by omega
          have DN := Lib.hid (HM.out.2.1.whole HM.out.1 (by have := NN.out.1; omega))
          clear hsn
          go_wp2
          go_end0
          exact ⟨rfl, M, DN.out, HM.out.2.2⟩

set_option maxRecDepth 100000 in
set_option maxHeartbeats 4000000 in
theorem sortStable_any (w0 w : World) (b cap : Nat) (X : List Val) (hsz : X.length < 1152921504606846976) (hS : SrtW w0 b cap X w) :
    Calls Try.prog 57 #[.slice (some ⟨b, 0, none⟩) X.length cap, cmpV] w fun r w' => r = .returned (.tuple #[]) ∧ ∃ L, StS X L ∧ SrtW w0 b cap L w' := by
  have SB := Lib.hid (stable_any w0 w b cap X X.length rfl hsz hS)
  obtain ⟨n, hn⟩ : ∃ n, n = X.length := ⟨_, rfl⟩
  rw [← hn] at SB ⊢
  clear hn hsz hS
  go_enter Try.func57, Try.ntmps57
  go_wp2_with (go_at_call 67; refine SB.out.mono ?_; rintro e0 w1 ⟨rfl, L, ho, hw⟩; have B1 := Lib.hid (And.intro ho hw); clear ho hw)
  go_end0
  exact ⟨rfl, L, B1.out.1, B1.out.2⟩
/-- .. of no keys at all -/
theorem sortStable_nil (w : World) : Calls Try.prog 57 #[.slice none 0 0, cmpV] w fun r w' => r = .returned (.tuple #[]) ∧ Below w.heap.size w w' := by
  have IS : ∀ w, Calls Try.prog 70 #[.slice none 0 0, .int .i64 0, .int .i64 0, cmpV] w fun r w' => r = .returned (.tuple #[]) ∧ Below w.heap.size w w' := by
    intro w
    go_enter Try.func70, Try.ntmps70
    go_wp2
    refine wp_loop_rounds 1 ?_
    rw [rounds_succ]
    go_wp2
    go_end0
    exact ⟨rfl, by (repeat (with_reducible first | exact Below.refl _ _ | (refine bl_set ?_ (by first | omega | (simp; done) | (simp; omega)) _) | refine bl_gr ?_ _ | refine bl_al ?_ _ | refine below_setRow ?_ (by first | omega | (simp; done) | (simp; omega)) _ | refine bl_drewN ?_ _ | refine Below.drew ?_ | (refine bl_tr ?_ (by assumption))))⟩
  have SB : ∀ w, Calls Try.prog 67 #[.slice none 0 0, .int .i64 0, cmpV] w fun r w' => r = .returned (.tuple #[]) ∧ Below w.heap.size w w' := by
    intro w
    have IS := Lib.hid (callGr (IS w))
    go_enter Try.func67, Try.ntmps67
    go_wp2
    refine wp_loop_rounds 1 ?_
    rw [rounds_succ]
    go_wp2_with (go_at_call 70; refine IS.out.mono ?_; rintro e0 w1 ⟨pp, rfl, rfl⟩)
    refine wp_loop_rounds 1 ?_
    rw [rounds_succ]
    go_wp2
    go_end0
    exact ⟨rfl, by (repeat (with_reducible first | exact Below.refl _ _ | (refine bl_set ?_ (by first | omega | (simp; done) | (simp; omega)) _) | refine bl_gr ?_ _ | refine bl_al ?_ _ | refine below_setRow ?_ (by first | omega | (simp; done) | (simp; omega)) _ | refine bl_drewN ?_ _ | refine Below.drew ?_ | (refine bl_tr ?_ (by assumption))))⟩
  have SB := Lib.hid (callGr (SB w))
  go_enter Try.func57, Try.ntmps57
  go_wp2_with (go_at_call 67; refine SB.out.mono ?_; rintro e0 w1 ⟨pp, rfl, rfl⟩)
  go_end0
  exact ⟨rfl, by (repeat (with_reducible first | exact Below.refl _ _ | (refine bl_set ?_ (by first | omega | (simp; done) | (simp; omega)) _) | refine bl_gr ?_ _ | refine bl_al ?_ _ | refine below_setRow ?_ (by first | omega | (simp; done) | (simp; omega)) _ | refine bl_drewN ?_ _ | refine Below.drew ?_ | (refine bl_tr ?_ (by assumption))))⟩
end Go.Proofs.Ytippimonpdeioaa
