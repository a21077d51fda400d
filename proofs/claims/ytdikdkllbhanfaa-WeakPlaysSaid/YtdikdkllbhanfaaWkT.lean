/- Weak maps: the law's ints, and the example. -/
import Derived.Test.YtdikdkllbhanfaaWkS
namespace Go.Proofs.Ytdikdkllbhanfaa
set_option linter.all false
open Go.RowKit Go.Sort Go.Deep Go.Shelf

set_option maxHeartbeats 1000000 in
theorem ints_any (a b : Value) (xs ys : List Int) (w : World) (ha : IsI w a xs) (hb : IsI w b ys) :
    Calls Try.prog 14 #[a, b] w fun e w' => e = .returned (.bool (decide (xs = ys))) ∧ Below w.heap.size w w' := by
  obtain ⟨A, ca, rfl, hca, hma⟩ := ha.form
  obtain ⟨B, cb, rfl, hcb, hmb⟩ := hb.form
  unfold maxLen at hma hmb
  by_cases hl : xs.length = ys.length
  case neg =>
    have hne : ((xs.length : Int) != (ys.length : Int)) = true := bne_iff_ne.2 (by omega)
    go_enter Try.func14, Try.ntmps14
    go_wp2
    go_ret
    exact ⟨ret_bool (by symm; simp; intro h; exact hl (by rw [h])), by (repeat (with_reducible first | exact Below.refl _ _ | (refine bl_set ?_ (by first | omega | (simp; done) | (simp; omega)) _) | refine bl_gr ?_ _ | refine bl_al ?_ _ | refine below_setRow ?_ (by first | omega | (simp; done) | (simp; omega)) _ | refine bl_drewN ?_ _ | refine Below.drew ?_ | (refine bl_tr ?_ (by assumption))))⟩
  have HL := Lib.hid hl
  have hle1 : xs.length ≤ ys.length := by omega
  have hle2 : ys.length ≤ xs.length := by omega
  have hne : ((xs.length : Int) != (ys.length : Int)) = false := by simp [hl]
  clear hl
  go_enter Try.func14, Try.ntmps14
  go_wp2
  go_loopw [5] (fun i wr => ∃ k : Nat, k ≤ xs.length ∧ i = .int .i64 k ∧ xs.take k = ys.take k ∧ Below w.heap.size w wr) (fun i _ => xs.length - (intOf i).toNat)
  case atStart => exact ⟨0, by omega, rfl, rfl, Below.refl _ _⟩
  case round =>
    obtain ⟨k, hk, rfl, htk, hbw⟩ := hrel
    have HT := Lib.hid htk
    clear htk
    by_cases hlt : k < xs.length
    · obtain ⟨b1, o1, _, e1, _, hb1, hx⟩ := (ha.below hbw).at_ (by omega)
      obtain ⟨b2, o2, _, e2, _, hb2, hy⟩ := (hb.below hbw).at_ (by omega)
      simp only [Value.slice.injEq] at e1 e2
      obtain ⟨rfl, _, rfl⟩ := e1
      obtain ⟨rfl, _, rfl⟩ := e2
      have hlt2 : k < ys.length := by omega
      obtain ⟨x, ex⟩ : ∃ x, xs[k]? = some x := ⟨_, List.getElem?_eq_getElem hlt⟩
      obtain ⟨y, ey⟩ : ∃ y, ys[k]? = some y := ⟨_, List.getElem?_eq_getElem hlt2⟩
      have cx0 : wr.cell? ⟨b1, o1 + k, none⟩ = some (.int .i64 x) := by have := hx k x ex 0 _ rfl; simpa using this
      have cy0 : wr.cell? ⟨b2, o2 + k, none⟩ = some (.int .i64 y) := by have := hy k y ey 0 _ rfl; simpa using this
      have EX := Lib.hid ex
      have EY := Lib.hid ey
      clear hx hy ex ey ha hb
      go_wp2
      ((first | (with_reducible refine wp_quiet_gr Try.mixed ?_ ?_) | (with_reducible refine wp_quiet_any Try.mixed ?_ ?_)); (next => kernel_rfl); (repeat (with_reducible refine wpQuiet_step (fun K hK => ?_); go_simp; first | (refine hK _ ?_; clear hK K) | (apply Exists.intro; refine ⟨fun _ => ?_, hK _ ?_⟩; (fail); clear hK K))); refine wpQuiet_nil ?_; intro pq)
      go_wp2
      · have hq : (x != y) = true := by assumption
        go_ret
        refine ⟨ret_bool ?_, by (repeat (with_reducible first | exact Below.refl _ _ | (refine bl_set ?_ (by first | omega | (simp; done) | (simp; omega)) _) | refine bl_gr ?_ _ | refine bl_al ?_ _ | refine below_setRow ?_ (by first | omega | (simp; done) | (simp; omega)) _ | refine bl_drewN ?_ _ | refine Below.drew ?_ | (refine bl_tr ?_ (by assumption))))⟩
        symm
        rw [decide_eq_false_iff_not]
        rintro rfl
        have := EX.out.symm.trans EY.out
        simp only [Option.some.injEq] at this
        subst this
        simp at hq
      · have hq : (x != y) = false := by assumption
        have hxy : x = y := by simpa using hq
        have HXY := Lib.hid hxy
        clear hxy
        go_roundw
        case rel =>
          refine ⟨k + 1, by omega, by go_num, ?_, by (repeat (with_reducible first | exact Below.refl _ _ | (refine bl_set ?_ (by first | omega | (simp; done) | (simp; omega)) _) | refine bl_gr ?_ _ | refine bl_al ?_ _ | refine below_setRow ?_ (by first | omega | (simp; done) | (simp; omega)) _ | refine bl_drewN ?_ _ | refine Below.drew ?_ | (refine bl_tr ?_ (by assumption))))⟩
          rw [List.take_add_one, List.take_add_one, HT.out, EX.out, EY.out, HXY.out]
        case measure => simp [intOf]; omega
    · go_wp2
      go_ret
      refine ⟨ret_bool ?_, by (repeat (with_reducible first | exact Below.refl _ _ | (refine bl_set ?_ (by first | omega | (simp; done) | (simp; omega)) _) | refine bl_gr ?_ _ | refine bl_al ?_ _ | refine below_setRow ?_ (by first | omega | (simp; done) | (simp; omega)) _ | refine bl_drewN ?_ _ | refine Below.drew ?_ | (refine bl_tr ?_ (by assumption))))⟩
      symm
      rw [decide_eq_true_iff]
      have := HT.out
      have e := HL.out
      rwa [List.take_of_length_le (by omega), List.take_of_length_le (by omega)] at this

/-! the reference's weak -/
abbrev objV (n : Int) : Val := ⟨7, n, ⟨#[]⟩⟩
abbrev numV (n : Int) : Val := ⟨3, n, ⟨#[]⟩⟩
abbrev cellW1 : CellD := ⟨8, 0, 0, 0, [⟨1, 0, ⟨#[]⟩⟩], [objV 3, objV 5, objV 5, numV 7]⟩
abbrev cellW2 : CellD := ⟨8, 0, 0, 0, [⟨1, 0, ⟨#[]⟩⟩], [objV 3, objV 5]⟩
theorem opW : opC cellW1 [3] = [5] := by first | rfl | kernel_rfl | decide +kernel
theorem clW : cleanC cellW1 [3] = cellW2 := by first | rfl | kernel_rfl | decide +kernel
theorem geW : getC cellW1 (objV 5) = numV 7 := by first | rfl | kernel_rfl | decide +kernel
theorem gbW : getB cellW1 (objV 5) = true := by first | rfl | kernel_rfl | decide +kernel
theorem le1 : lenW cellW1 = 2 := by first | rfl | kernel_rfl | decide +kernel
theorem le2 : lenW cellW2 = 1 := by first | rfl | kernel_rfl | decide +kernel
theorem okW1 : cellW1.ok := ⟨(⟨by decide, by decide⟩ : i64ok 8), (⟨by decide, by decide⟩ : i64ok 0), (⟨by decide, by decide⟩ : i64ok 0), (⟨by decide, by decide⟩ : i64ok 0), by
  intro x hx
  obtain rfl := List.mem_singleton.1 hx
  exact ⟨(⟨by decide, by decide⟩ : i64ok 1), (⟨by decide, by decide⟩ : i64ok 0), Nat.zero_le _⟩, by
  intro x hx
  have hx : x = objV 3 ∨ x = objV 5 ∨ x = numV 7 := by simpa using hx
  rcases hx with rfl | rfl | rfl
  · exact ⟨(⟨by decide, by decide⟩ : i64ok 7), (⟨by decide, by decide⟩ : i64ok 3), Nat.zero_le _⟩
  · exact ⟨(⟨by decide, by decide⟩ : i64ok 7), (⟨by decide, by decide⟩ : i64ok 5), Nat.zero_le _⟩
  · exact ⟨(⟨by decide, by decide⟩ : i64ok 3), (⟨by decide, by decide⟩ : i64ok 7), Nat.zero_le _⟩⟩
theorem okW2 : cellW2.ok := ⟨(⟨by decide, by decide⟩ : i64ok 8), (⟨by decide, by decide⟩ : i64ok 0), (⟨by decide, by decide⟩ : i64ok 0), (⟨by decide, by decide⟩ : i64ok 0), okW1.2.2.2.2.1, by
  intro x hx
  have hx : x = objV 3 ∨ x = objV 5 := by simpa using hx
  exact okW1.2.2.2.2.2 x (by rcases hx with rfl | rfl <;> simp)⟩
theorem setV {w X : World} {b : Nat} {u : Val} (k n : Int) (s : ByteArray) (h : X.heap[b]? = some (valB u)) (hb : Below w.heap.size w X) (hl : w.heap.size ≤ b) :
    ∃ Y, Y = (((X.setCell ⟨b, 0, none⟩ (.int .i64 k)).setCell ⟨b, 1, none⟩ (.int .i64 n)).setCell ⟨b, 2, none⟩ (.string s)) ∧ Y.heap[b]? = some (valB ⟨k, n, s⟩) ∧ Below w.heap.size w Y := by
  have P := put3 (v := ⟨k, n, s⟩) hb hl h
  exact ⟨_, rfl, P.1, P.2⟩
theorem lit_int3 {W : World} {B : Nat} (hB : B = W.heap.size) : IsI (W.alloc (.cells #[.int .i64 3] 3)) (.slice (some ⟨B, 0, none⟩) 1 1) [3] := by
  subst hB
  exact OwnI.isI (lo := 0) (World.ownsRow_lit W #[.int .i64 3] 1 (Nat.zero_le _) (by unfold maxLen; omega) rfl)
theorem anyH_alloc {P : Program} {md : Region.Mode} {ops : Array Oper} {Q : Exit → Act → World → Prop} {S : World → Prop} {f : Nat} {l : Array Bool} {a : Act} {W : World} {o : Obj} {B : Nat} (hB : B = W.heap.size)
    (h : ∀ Z, Z.heap[B]? = some o → Below W.heap.size W Z → wpAnyH P md ops Q S f l a Z) : wpAnyH P md ops Q S f l a (W.alloc o) := h _ (by rw [hB]; exact heap_alloc_new _ _) (bl_al (Below.refl _ _) _)
theorem anyH_allocD {P : Program} {md : Region.Mode} {ops : Array Oper} {Q : Exit → Act → World → Prop} {S : World → Prop} {f : Nat} {l : Array Bool} {a : Act} {W : World} {o : Obj} {B : Nat} (hB : B = W.heap.size)
    (h : ∀ Z, Z.heap[B]? = some o → Below W.heap.size W Z → wpAnyH P md ops Q S f l a Z) : wpAnyH P md ops Q S f l a (W.alloc o).drew := h _ (by rw [hB]; exact heap_alloc_new _ _) (Below.drew (bl_al (Below.refl _ _) _))
set_option maxRecDepth 100000 in
set_option maxHeartbeats 8000000 in
theorem awake_any (w : World) : Calls Try.prog 7 #[] w fun e w' => e = .returned (.bool true) ∧ Below w.heap.size w w' := by
  go_enter Try.func7, Try.ntmps7
  go_upto_region 2 with (go_at_call 25; refine (callGr (object_any _ _)).mono ?_; rintro e w' ⟨pp, rfl, rfl⟩)
  generalize rapp (rapp _ _) _ = P
  obtain ⟨M, hM⟩ : ∃ M, M = w.heap.size + 1 + P.os.size := ⟨_, rfl⟩
  rw [← hM]
  refine wp_world (fun W => W.heap[M + 1]? = some (cellO 8 0 0 0 (.slice (some ⟨w.heap.size, 0, none⟩) 1 1) (.slice (some ⟨M, 0, none⟩) 4 4)) ∧ IsV W (.slice (some ⟨w.heap.size, 0, none⟩) 1 1) cellW1.sl ∧ IsV W (.slice (some ⟨M, 0, none⟩) 4 4) cellW1.mo ∧ Below w.heap.size w W) ⟨?_, ?_, ?_, ?_⟩ ?_
  · have := heap_alloc_new ((gr (w.alloc (.cells #[.int .i64 1, .int .i64 0, .string ⟨#[]⟩] 34)) P).alloc (.cells #[.int .i64 7, .int .i64 3, .string ⟨#[]⟩, .int .i64 7, .int .i64 5, .string ⟨#[]⟩, .int .i64 7, .int .i64 5, .string ⟨#[]⟩, .int .i64 3, .int .i64 7, .string ⟨#[]⟩] 34)) (cellO 8 0 0 0 (.slice (some ⟨w.heap.size, 0, none⟩) 1 1) (.slice (some ⟨M, 0, none⟩) 4 4))
    rw [World.size_alloc, gr_size, World.size_alloc, ← hM] at this
    exact this
  · exact (lit_valsB (W := w) (l := cellW1.sl) (k := 1) rfl rfl rfl (by omega)).below (bl_al (bl_al (below_gr _ _) _) _)
  · exact (lit_valsB (W := gr (w.alloc (.cells #[.int .i64 1, .int .i64 0, .string ⟨#[]⟩] 34)) P) (B := M) (l := cellW1.mo) (k := 4) (by rw [gr_size, World.size_alloc, hM]) rfl rfl (by omega)).below (bl_al (Below.refl _ _) _)
  · (repeat (with_reducible first | exact Below.refl _ _ | (refine bl_set ?_ (by first | omega | (simp; done) | (simp; omega)) _) | refine bl_gr ?_ _ | refine bl_al ?_ _ | refine below_setRow ?_ (by first | omega | (simp; done) | (simp; omega)) _ | refine bl_drewN ?_ _ | refine Below.drew ?_ | (refine bl_tr ?_ (by assumption))))
  rintro W ⟨j1, i1, i2, jb⟩
  have l1 : M + 1 < W.heap.size := (Array.getElem?_eq_some_iff.1 j1).1
  have KK := Lib.hid (show ∀ X, Below W.heap.size W X → X.heap[M + 1]? = some (cellO 8 0 0 0 (.slice (some ⟨w.heap.size, 0, none⟩) 1 1) (.slice (some ⟨M, 0, none⟩) 4 4)) from fun X h => (h.block _ l1).trans j1)
  have I1 := Lib.hid i1
  have I2 := Lib.hid i2
  have BW := Lib.hid jb
  obtain ⟨⟨a0, a1, a2, a3, a4, a5⟩, _⟩ := cells6 j1
  clear j1 i1 i2 jb hM
  have fW : cellW1.fit := ⟨by unfold fitV; simp, by unfold fitV; simp⟩
  have OP := Lib.hid (fun W lv a b c => by have := opens_any (.slice (some ⟨w.heap.size, 0, none⟩) 1 1) (.slice (some ⟨M, 0, none⟩) 4 4) lv cellW1 [3] okW1 W a b c; rw [opW] at this; exact this : ∀ (W : World) (lv : Value), IsV W (.slice (some ⟨w.heap.size, 0, none⟩) 1 1) cellW1.sl → IsV W (.slice (some ⟨M, 0, none⟩) 4 4) cellW1.mo → IsI W lv [3] → Calls Try.prog 11 #[cellV 8 0 0 0 (.slice (some ⟨w.heap.size, 0, none⟩) 1 1) (.slice (some ⟨M, 0, none⟩) 4 4), lv] W fun e w' => ∃ v, e = .returned v ∧ IsI w' v [5] ∧ Below W.heap.size W w')
  have CL := Lib.hid (fun W lv a b c => by have := clean_any (.slice (some ⟨w.heap.size, 0, none⟩) 1 1) (.slice (some ⟨M, 0, none⟩) 4 4) lv cellW1 [3] okW1 fW W a b c; rw [clW] at this; exact this : ∀ (W : World) (lv : Value), IsV W (.slice (some ⟨w.heap.size, 0, none⟩) 1 1) cellW1.sl → IsV W (.slice (some ⟨M, 0, none⟩) 4 4) cellW1.mo → IsI W lv [3] → Calls Try.prog 10 #[cellV 8 0 0 0 (.slice (some ⟨w.heap.size, 0, none⟩) 1 1) (.slice (some ⟨M, 0, none⟩) 4 4), lv] W (RetD W cellW2))
  have GE := Lib.hid (fun W a b => by have := get_any (.slice (some ⟨w.heap.size, 0, none⟩) 1 1) (.slice (some ⟨M, 0, none⟩) 4 4) cellW1 (objV 5) okW1 W a b; rw [geW, gbW] at this; exact this : ∀ (W : World), IsV W (.slice (some ⟨w.heap.size, 0, none⟩) 1 1) cellW1.sl → IsV W (.slice (some ⟨M, 0, none⟩) 4 4) cellW1.mo → Calls Try.prog 20 #[cellV 8 0 0 0 (.slice (some ⟨w.heap.size, 0, none⟩) 1 1) (.slice (some ⟨M, 0, none⟩) 4 4), (objV 5).agg] W fun e w' => e = .returned (.tuple #[(numV 7).agg, .bool true]) ∧ Below W.heap.size W w')
  have LE1 := Lib.hid (fun W a b => by have := len_any (.slice (some ⟨w.heap.size, 0, none⟩) 1 1) (.slice (some ⟨M, 0, none⟩) 4 4) cellW1 okW1 W a b; rw [le1] at this; exact this : ∀ (W : World), IsV W (.slice (some ⟨w.heap.size, 0, none⟩) 1 1) cellW1.sl → IsV W (.slice (some ⟨M, 0, none⟩) 4 4) cellW1.mo → Calls Try.prog 22 #[cellV 8 0 0 0 (.slice (some ⟨w.heap.size, 0, none⟩) 1 1) (.slice (some ⟨M, 0, none⟩) 4 4)] W fun e w' => e = .returned (.int .i64 2) ∧ Below W.heap.size W w')
  have LE2 := Lib.hid (fun sv mv W a b => by have := len_any sv mv cellW2 okW2 W a b; rw [le2] at this; exact this : ∀ (sv mv : Value) (W : World), IsV W sv cellW2.sl → IsV W mv cellW2.mo → Calls Try.prog 22 #[cellV 8 0 0 0 sv mv] W fun e w' => e = .returned (.int .i64 1) ∧ Below W.heap.size W w')
  clear fW
  go_upto_region 3 with (go_at_call 11; refine (OP.out _ _ (I1.out.below (by (repeat (with_reducible first | exact Below.refl _ _ | (refine bl_set ?_ (by first | omega | (simp; done) | (simp; omega)) _) | refine bl_gr ?_ _ | refine bl_al ?_ _ | refine below_setRow ?_ (by first | omega | (simp; done) | (simp; omega)) _ | refine bl_drewN ?_ _ | refine Below.drew ?_ | (refine bl_tr ?_ (by assumption)))))) (I2.out.below (by (repeat (with_reducible first | exact Below.refl _ _ | (refine bl_set ?_ (by first | omega | (simp; done) | (simp; omega)) _) | refine bl_gr ?_ _ | refine bl_al ?_ _ | refine below_setRow ?_ (by first | omega | (simp; done) | (simp; omega)) _ | refine bl_drewN ?_ _ | refine Below.drew ?_ | (refine bl_tr ?_ (by assumption)))))) (lit_int3 rfl)).mono ?_; rintro e w1 ⟨_, rfl, o1, hb⟩; obtain ⟨A7, n7, rfl, _, _⟩ := o1.form; have B1 := Lib.hid (show Below W.heap.size W w1 from bl_tr (by (repeat (with_reducible first | exact Below.refl _ _ | (refine bl_set ?_ (by first | omega | (simp; done) | (simp; omega)) _) | refine bl_gr ?_ _ | refine bl_al ?_ _ | refine below_setRow ?_ (by first | omega | (simp; done) | (simp; omega)) _ | refine bl_drewN ?_ _ | refine Below.drew ?_ | (refine bl_tr ?_ (by assumption))))) hb); have O1 := Lib.hid o1; clear o1 hb)
  have lw1 : M + 1 < w1.heap.size := by have := B1.out.size; omega
  clear a0 a1 a2 a3 a4 a5
  obtain ⟨⟨a0, a1, a2, a3, a4, a5⟩, _⟩ := cells6 (KK.out w1 B1.out)
  go_upto_region 4 with (go_at_call 10; refine (CL.out _ _ (I1.out.below (by (repeat (with_reducible first | exact B1.out | exact Below.refl _ _ | refine bl_rapp ?_ | (refine bl_set ?_ (by first | omega | (simp; done) | (simp; omega)) _) | refine bl_gr ?_ _ | refine bl_al ?_ _ | refine bl_drewN ?_ _ | refine Below.drew ?_)))) (I2.out.below (by (repeat (with_reducible first | exact B1.out | exact Below.refl _ _ | refine bl_rapp ?_ | (refine bl_set ?_ (by first | omega | (simp; done) | (simp; omega)) _) | refine bl_gr ?_ _ | refine bl_al ?_ _ | refine bl_drewN ?_ _ | refine Below.drew ?_)))) (lit_int3 rfl)).mono ?_; rintro e w2 ⟨A5, n5, A6, n6, rfl, o1, o2, hb⟩; have B2 := Lib.hid (show Below W.heap.size W w2 from bl_tr (by (repeat (with_reducible first | exact B1.out | exact Below.refl _ _ | refine bl_rapp ?_ | (refine bl_set ?_ (by first | omega | (simp; done) | (simp; omega)) _) | refine bl_gr ?_ _ | refine bl_al ?_ _ | refine bl_drewN ?_ _ | refine Below.drew ?_))) hb); have O2 := Lib.hid (And.intro o1 o2); have O3 := Lib.hid ((O1.out.below (by (repeat (with_reducible first  | exact Below.refl _ _ | refine bl_rapp ?_ | (refine bl_set ?_ (by first | omega | (simp; done) | (simp; omega)) _) | refine bl_gr ?_ _ | refine bl_al ?_ _ | refine bl_drewN ?_ _ | refine Below.drew ?_)))).below hb); clear o1 o2 hb)
  refine wp_world (fun X => X.heap[w2.heap.size]? = some (cellO 8 0 0 0 (.slice A5 1 n5) (.slice A6 2 n6)) ∧ Below w2.heap.size w2 X) ⟨heap_alloc_new _ _, bl_al (Below.refl _ _) _⟩ ?_
  rintro X ⟨z0, zb⟩
  have B3 := Lib.hid (bl_tr B2.out zb)
  have O4 := Lib.hid (And.intro (O2.out.1.below zb) (And.intro (O2.out.2.below zb) (And.intro (O3.out.below zb) z0)))
  clear a0 a1 a2 a3 a4 a5 z0 zb O2 O3 O1 B1 lw1
  have lX := (Array.getElem?_eq_some_iff.1 O4.out.2.2.2).1
  have lM : M + 1 < X.heap.size := by have := B3.out.size; omega
  go_cut [4, 5] (fun p9 e9 Y9 => ∃ B, p9 = .pointer (some ⟨B, 0, none⟩) ∧ e9 = .bool true ∧ Y9.heap[B]? = some (valB (numV 7)) ∧ Below X.heap.size X Y9)
  case first =>
    (refine wp_region_held_drew (S := (fun Z : World => Below X.heap.size X Z)) Try.mixed (by ((repeat (with_reducible first | exact B9.out | exact Below.refl _ _ | refine bl_rapp ?_ | (refine bl_set ?_ (by first | omega | (simp; done) | (simp; omega)) _) | refine bl_gr ?_ _ | refine bl_al ?_ _ | refine bl_drewN ?_ _ | refine Below.drew ?_)))) (fun hS => ?_); (refine wpAnyH_take (i := 0) (v := ?_) rfl (by kernel_rfl) (by kernel_rfl) (by kernel_rfl) (fun _ _ _ h => h) ?_ (by assumption) ?_; rotate_left; (next => (refine Or.inl ⟨by kernel_rfl, ?_⟩; ((intro w hSw; (try dsimp only at hSw); (obtain ⟨⟨a0, a1, a2, a3, a4, a5⟩, _⟩ := cells6 (KK.out _ (bl_tr B3.out hSw))); go_simp) <;> with_reducible rfl))); (try simp only [Act.put, List.setIfInBounds_toArray, List.set_cons_zero, List.set_cons_succ])); refine wpAnyH_ready (rs := [1, 6]) (by kernel_rfl) (by simp) ?_; refine AllReadyH.cons rfl (fun K hK => ?_) (AllReadyH.cons rfl (fun K hK => ?_) AllReadyH.nil); go_simp; (((go_at_call 25; refine (callGr (object_any _ _)).mono ?_; rintro e w' ⟨pp, rfl, rfl⟩))); refine hK.out _ _ (by ((repeat (with_reducible first | exact B9.out | exact Below.refl _ _ | refine bl_rapp ?_ | (refine bl_set ?_ (by first | omega | (simp; done) | (simp; omega)) _) | refine bl_gr ?_ _ | refine bl_al ?_ _ | refine bl_drewN ?_ _ | refine Below.drew ?_)))) (fun hS => ?_); clear hK K; (try simp only [Act.put, List.setIfInBounds_toArray, List.set_cons_zero, List.set_cons_succ]); refine wpAnyH_ready (rs := [2, 6]) (by kernel_rfl) (by simp) ?_; refine AllReadyH.cons rfl (fun K hK => ?_) (AllReadyH.cons rfl (fun K hK => ?_) AllReadyH.nil); go_simp; ((go_at_call 20; refine (callGr (GE.out _ (I1.out.below (bl_tr B3.out (by (repeat (with_reducible first | exact B9.out | exact Below.refl _ _ | refine bl_rapp ?_ | (refine bl_set ?_ (by first | omega | (simp; done) | (simp; omega)) _) | refine bl_gr ?_ _ | refine bl_al ?_ _ | refine bl_drewN ?_ _ | refine Below.drew ?_))))) (I2.out.below (bl_tr B3.out (by (repeat (with_reducible first | exact B9.out | exact Below.refl _ _ | refine bl_rapp ?_ | (refine bl_set ?_ (by first | omega | (simp; done) | (simp; omega)) _) | refine bl_gr ?_ _ | refine bl_al ?_ _ | refine bl_drewN ?_ _ | refine Below.drew ?_))))))).mono ?_; rintro e w' ⟨pp, rfl, rfl⟩)); refine hK.out _ _ (by ((repeat (with_reducible first | exact B9.out | exact Below.refl _ _ | refine bl_rapp ?_ | (refine bl_set ?_ (by first | omega | (simp; done) | (simp; omega)) _) | refine bl_gr ?_ _ | refine bl_al ?_ _ | refine bl_drewN ?_ _ | refine Below.drew ?_)))) (fun hS => ?_); clear hK K; (try simp only [Act.put, List.setIfInBounds_toArray, List.set_cons_zero, List.set_cons_succ]); (refine wpAnyH_take (i := 3) (v := ?_) rfl (by kernel_rfl) (by kernel_rfl) (by kernel_rfl) (fun _ _ _ h => h) ?_ (by assumption) ?_; rotate_left; (next => (refine Or.inl ⟨by kernel_rfl, ?_⟩; ((intro w hSw; (try dsimp only at hSw); go_simp) <;> with_reducible rfl))); (try simp only [Act.put, List.setIfInBounds_toArray, List.set_cons_zero, List.set_cons_succ])); (refine wpAnyH_take (i := 4) (v := ?_) rfl (by kernel_rfl) (by kernel_rfl) (by kernel_rfl) (fun _ _ _ h => h) ?_ (by assumption) ?_; rotate_left; (next => (refine Or.inl ⟨by kernel_rfl, ?_⟩; ((intro w hSw; (try dsimp only at hSw); go_simp) <;> with_reducible rfl))); (try simp only [Act.put, List.setIfInBounds_toArray, List.set_cons_zero, List.set_cons_succ])); (refine wpAnyH_take (i := 5) (v := ?_) rfl (by kernel_rfl) (by kernel_rfl) (by kernel_rfl) (fun _ _ _ h => h) ?_ (by assumption) ?_; rotate_left; (next => (refine Or.inl ⟨by kernel_rfl, ?_⟩; ((intro w hSw; (try dsimp only at hSw); go_simp) <;> with_reducible rfl))); (try simp only [Act.put, List.setIfInBounds_toArray, List.set_cons_zero, List.set_cons_succ])); refine wpAnyH_ready (rs := [6]) (by kernel_rfl) (by simp) ?_; refine AllReadyH.cons rfl (fun K hK => ?_) AllReadyH.nil; go_simp; refine hK.out _ _ (by ((repeat (with_reducible first | exact B9.out | exact Below.refl _ _ | refine bl_rapp ?_ | (refine bl_set ?_ (by first | omega | (simp; done) | (simp; omega)) _) | refine bl_gr ?_ _ | refine bl_al ?_ _ | refine bl_drewN ?_ _ | refine Below.drew ?_)))) (fun hS => ?_); clear hK K; (try simp only [Act.put, List.setIfInBounds_toArray, List.set_cons_zero, List.set_cons_succ]); (first | refine anyH_alloc rfl (fun Z fB bB => ?_) | refine anyH_allocD rfl (fun Z fB bB => ?_)); have B9 := Lib.hid (show Below X.heap.size X Z from bl_tr (by (repeat (with_reducible first  | exact Below.refl _ _ | refine bl_rapp ?_ | (refine bl_set ?_ (by first | omega | (simp; done) | (simp; omega)) _) | refine bl_gr ?_ _ | refine bl_al ?_ _ | refine bl_drewN ?_ _ | refine Below.drew ?_))) bB); (try simp only [gr_size, World.size_alloc] at fB); have FB := Lib.hid fB; have lZ := (Array.getElem?_eq_some_iff.1 fB).1; obtain ⟨⟨x0, x1, x2⟩, y0, y1, y2⟩ := cells3f fB; clear fB bB; refine wpAnyH_ready (rs := [7]) (by kernel_rfl) (by simp) ?_; refine AllReadyH.cons rfl (fun K hK => ?_) AllReadyH.nil; go_simp; refine hK.out _ _ (by ((repeat (with_reducible first | exact B9.out | exact Below.refl _ _ | refine bl_rapp ?_ | (refine bl_set ?_ (by first | omega | (simp; done) | (simp; omega)) _) | refine bl_gr ?_ _ | refine bl_al ?_ _ | refine bl_drewN ?_ _ | refine Below.drew ?_)))) (fun hS => ?_); clear hK K; (try simp only [Act.put, List.setIfInBounds_toArray, List.set_cons_zero, List.set_cons_succ]); (refine wpAnyH_take (i := 8) (v := ?_) rfl (by kernel_rfl) (by kernel_rfl) (by kernel_rfl) (fun _ _ _ h => h) ?_ (by assumption) ?_; rotate_left; (next => (refine Or.inl ⟨by kernel_rfl, ?_⟩; ((intro w hSw; (try dsimp only at hSw); go_simp) <;> with_reducible rfl))); (try simp only [Act.put, List.setIfInBounds_toArray, List.set_cons_zero, List.set_cons_succ])); refine wpAnyH_done (by kernel_rfl) ?_ _; rotate_left 1; go_simp; refine hK.out _ _ (by ((repeat (with_reducible first | exact B9.out | exact Below.refl _ _ | refine bl_rapp ?_ | (refine bl_set ?_ (by first | omega | (simp; done) | (simp; omega)) _) | refine bl_gr ?_ _ | refine bl_al ?_ _ | refine bl_drewN ?_ _ | refine Below.drew ?_)))) (fun hS => ?_); clear hK K; (try simp only [Act.put, List.setIfInBounds_toArray, List.set_cons_zero, List.set_cons_succ]); (first | refine anyH_alloc rfl (fun Z fB bB => ?_) | refine anyH_allocD rfl (fun Z fB bB => ?_)); have B9 := Lib.hid (show Below X.heap.size X Z from bl_tr (by (repeat (with_reducible first  | exact Below.refl _ _ | refine bl_rapp ?_ | (refine bl_set ?_ (by first | omega | (simp; done) | (simp; omega)) _) | refine bl_gr ?_ _ | refine bl_al ?_ _ | refine bl_drewN ?_ _ | refine Below.drew ?_))) bB); (try simp only [gr_size, World.size_alloc] at fB); have FB := Lib.hid fB; have lZ := (Array.getElem?_eq_some_iff.1 fB).1; obtain ⟨⟨x0, x1, x2⟩, y0, y1, y2⟩ := cells3f fB; clear fB bB; refine wpAnyH_ready (rs := [2]) (by kernel_rfl) (by simp) ?_; refine AllReadyH.cons rfl (fun K hK => ?_) AllReadyH.nil; go_simp; ((go_at_call 20; refine (callGr (GE.out _ (I1.out.below (bl_tr B3.out (by (repeat (with_reducible first | exact B9.out | exact Below.refl _ _ | refine bl_rapp ?_ | (refine bl_set ?_ (by first | omega | (simp; done) | (simp; omega)) _) | refine bl_gr ?_ _ | refine bl_al ?_ _ | refine bl_drewN ?_ _ | refine Below.drew ?_))))) (I2.out.below (bl_tr B3.out (by (repeat (with_reducible first | exact B9.out | exact Below.refl _ _ | refine bl_rapp ?_ | (refine bl_set ?_ (by first | omega | (simp; done) | (simp; omega)) _) | refine bl_gr ?_ _ | refine bl_al ?_ _ | refine bl_drewN ?_ _ | refine Below.drew ?_))))))).mono ?_; rintro e w' ⟨pp, rfl, rfl⟩)); refine hK.out _ _ (by ((repeat (with_reducible first | exact B9.out | exact Below.refl _ _ | refine bl_rapp ?_ | (refine bl_set ?_ (by first | omega | (simp; done) | (simp; omega)) _) | refine bl_gr ?_ _ | refine bl_al ?_ _ | refine bl_drewN ?_ _ | refine Below.drew ?_)))) (fun hS => ?_); clear hK K; (try simp only [Act.put, List.setIfInBounds_toArray, List.set_cons_zero, List.set_cons_succ]); (refine wpAnyH_take (i := 3) (v := ?_) rfl (by kernel_rfl) (by kernel_rfl) (by kernel_rfl) (fun _ _ _ h => h) ?_ (by assumption) ?_; rotate_left; (next => (refine Or.inl ⟨by kernel_rfl, ?_⟩; ((intro w hSw; (try dsimp only at hSw); go_simp) <;> with_reducible rfl))); (try simp only [Act.put, List.setIfInBounds_toArray, List.set_cons_zero, List.set_cons_succ])); (refine wpAnyH_take (i := 4) (v := ?_) rfl (by kernel_rfl) (by kernel_rfl) (by kernel_rfl) (fun _ _ _ h => h) ?_ (by assumption) ?_; rotate_left; (next => (refine Or.inl ⟨by kernel_rfl, ?_⟩; ((intro w hSw; (try dsimp only at hSw); go_simp) <;> with_reducible rfl))); (try simp only [Act.put, List.setIfInBounds_toArray, List.set_cons_zero, List.set_cons_succ])); (refine wpAnyH_take (i := 5) (v := ?_) rfl (by kernel_rfl) (by kernel_rfl) (by kernel_rfl) (fun _ _ _ h => h) ?_ (by assumption) ?_; rotate_left; (next => (refine Or.inl ⟨by kernel_rfl, ?_⟩; ((intro w hSw; (try dsimp only at hSw); go_simp) <;> with_reducible rfl))); (try simp only [Act.put, List.setIfInBounds_toArray, List.set_cons_zero, List.set_cons_succ])); refine wpAnyH_ready (rs := [7]) (by kernel_rfl) (by simp) ?_; refine AllReadyH.cons rfl (fun K hK => ?_) AllReadyH.nil; go_simp; refine hK.out _ _ (by ((repeat (with_reducible first | exact B9.out | exact Below.refl _ _ | refine bl_rapp ?_ | (refine bl_set ?_ (by first | omega | (simp; done) | (simp; omega)) _) | refine bl_gr ?_ _ | refine bl_al ?_ _ | refine bl_drewN ?_ _ | refine Below.drew ?_)))) (fun hS => ?_); clear hK K; (try simp only [Act.put, List.setIfInBounds_toArray, List.set_cons_zero, List.set_cons_succ]); (refine wpAnyH_take (i := 8) (v := ?_) rfl (by kernel_rfl) (by kernel_rfl) (by kernel_rfl) (fun _ _ _ h => h) ?_ (by assumption) ?_; rotate_left; (next => (refine Or.inl ⟨by kernel_rfl, ?_⟩; ((intro w hSw; (try dsimp only at hSw); go_simp) <;> with_reducible rfl))); (try simp only [Act.put, List.setIfInBounds_toArray, List.set_cons_zero, List.set_cons_succ])); refine wpAnyH_done (by kernel_rfl) ?_ _; rotate_left 1; go_simp; refine hK.out _ _ (by ((repeat (with_reducible first | exact B9.out | exact Below.refl _ _ | refine bl_rapp ?_ | (refine bl_set ?_ (by first | omega | (simp; done) | (simp; omega)) _) | refine bl_gr ?_ _ | refine bl_al ?_ _ | refine bl_drewN ?_ _ | refine Below.drew ?_)))) (fun hS => ?_); clear hK K; (try simp only [Act.put, List.setIfInBounds_toArray, List.set_cons_zero, List.set_cons_succ]); (first | refine anyH_alloc rfl (fun Z fB bB => ?_) | refine anyH_allocD rfl (fun Z fB bB => ?_)); have B9 := Lib.hid (show Below X.heap.size X Z from bl_tr (by (repeat (with_reducible first  | exact Below.refl _ _ | refine bl_rapp ?_ | (refine bl_set ?_ (by first | omega | (simp; done) | (simp; omega)) _) | refine bl_gr ?_ _ | refine bl_al ?_ _ | refine bl_drewN ?_ _ | refine Below.drew ?_))) bB); (try simp only [gr_size, World.size_alloc] at fB); have FB := Lib.hid fB; have lZ := (Array.getElem?_eq_some_iff.1 fB).1; obtain ⟨⟨x0, x1, x2⟩, y0, y1, y2⟩ := cells3f fB; clear fB bB; refine wpAnyH_ready (rs := [1]) (by kernel_rfl) (by simp) ?_; refine AllReadyH.cons rfl (fun K hK => ?_) AllReadyH.nil; go_simp; (((go_at_call 25; refine (callGr (object_any _ _)).mono ?_; rintro e w' ⟨pp, rfl, rfl⟩))); refine hK.out _ _ (by ((repeat (with_reducible first | exact B9.out | exact Below.refl _ _ | refine bl_rapp ?_ | (refine bl_set ?_ (by first | omega | (simp; done) | (simp; omega)) _) | refine bl_gr ?_ _ | refine bl_al ?_ _ | refine bl_drewN ?_ _ | refine Below.drew ?_)))) (fun hS => ?_); clear hK K; (try simp only [Act.put, List.setIfInBounds_toArray, List.set_cons_zero, List.set_cons_succ]); refine wpAnyH_ready (rs := [2]) (by kernel_rfl) (by simp) ?_; refine AllReadyH.cons rfl (fun K hK => ?_) AllReadyH.nil; go_simp; ((go_at_call 20; refine (callGr (GE.out _ (I1.out.below (bl_tr B3.out (by (repeat (with_reducible first | exact B9.out | exact Below.refl _ _ | refine bl_rapp ?_ | (refine bl_set ?_ (by first | omega | (simp; done) | (simp; omega)) _) | refine bl_gr ?_ _ | refine bl_al ?_ _ | refine bl_drewN ?_ _ | refine Below.drew ?_))))) (I2.out.below (bl_tr B3.out (by (repeat (with_reducible first | exact B9.out | exact Below.refl _ _ | refine bl_rapp ?_ | (refine bl_set ?_ (by first | omega | (simp; done) | (simp; omega)) _) | refine bl_gr ?_ _ | refine bl_al ?_ _ | refine bl_drewN ?_ _ | refine Below.drew ?_))))))).mono ?_; rintro e w' ⟨pp, rfl, rfl⟩)); refine hK.out _ _ (by ((repeat (with_reducible first | exact B9.out | exact Below.refl _ _ | refine bl_rapp ?_ | (refine bl_set ?_ (by first | omega | (simp; done) | (simp; omega)) _) | refine bl_gr ?_ _ | refine bl_al ?_ _ | refine bl_drewN ?_ _ | refine Below.drew ?_)))) (fun hS => ?_); clear hK K; (try simp only [Act.put, List.setIfInBounds_toArray, List.set_cons_zero, List.set_cons_succ]); (refine wpAnyH_take (i := 3) (v := ?_) rfl (by kernel_rfl) (by kernel_rfl) (by kernel_rfl) (fun _ _ _ h => h) ?_ (by assumption) ?_; rotate_left; (next => (refine Or.inl ⟨by kernel_rfl, ?_⟩; ((intro w hSw; (try dsimp only at hSw); go_simp) <;> with_reducible rfl))); (try simp only [Act.put, List.setIfInBounds_toArray, List.set_cons_zero, List.set_cons_succ])); (refine wpAnyH_take (i := 4) (v := ?_) rfl (by kernel_rfl) (by kernel_rfl) (by kernel_rfl) (fun _ _ _ h => h) ?_ (by assumption) ?_; rotate_left; (next => (refine Or.inl ⟨by kernel_rfl, ?_⟩; ((intro w hSw; (try dsimp only at hSw); go_simp) <;> with_reducible rfl))); (try simp only [Act.put, List.setIfInBounds_toArray, List.set_cons_zero, List.set_cons_succ])); (refine wpAnyH_take (i := 5) (v := ?_) rfl (by kernel_rfl) (by kernel_rfl) (by kernel_rfl) (fun _ _ _ h => h) ?_ (by assumption) ?_; rotate_left; (next => (refine Or.inl ⟨by kernel_rfl, ?_⟩; ((intro w hSw; (try dsimp only at hSw); go_simp) <;> with_reducible rfl))); (try simp only [Act.put, List.setIfInBounds_toArray, List.set_cons_zero, List.set_cons_succ])); refine wpAnyH_ready (rs := [7]) (by kernel_rfl) (by simp) ?_; refine AllReadyH.cons rfl (fun K hK => ?_) AllReadyH.nil; go_simp; refine hK.out _ _ (by ((repeat (with_reducible first | exact B9.out | exact Below.refl _ _ | refine bl_rapp ?_ | (refine bl_set ?_ (by first | omega | (simp; done) | (simp; omega)) _) | refine bl_gr ?_ _ | refine bl_al ?_ _ | refine bl_drewN ?_ _ | refine Below.drew ?_)))) (fun hS => ?_); clear hK K; (try simp only [Act.put, List.setIfInBounds_toArray, List.set_cons_zero, List.set_cons_succ]); (refine wpAnyH_take (i := 8) (v := ?_) rfl (by kernel_rfl) (by kernel_rfl) (by kernel_rfl) (fun _ _ _ h => h) ?_ (by assumption) ?_; rotate_left; (next => (refine Or.inl ⟨by kernel_rfl, ?_⟩; ((intro w hSw; (try dsimp only at hSw); go_simp) <;> with_reducible rfl))); (try simp only [Act.put, List.setIfInBounds_toArray, List.set_cons_zero, List.set_cons_succ])); refine wpAnyH_done (by kernel_rfl) ?_ _)
    all_goals go_simp
    all_goals
      have PP := setV (w := X) (u := Val.zero) 3 7 ⟨#[]⟩ FB.out B9.out
      obtain ⟨Y, hY, hc, hB⟩ := PP (by omega)
      clear PP
      rw [← hY]
      have lY := (Array.getElem?_eq_some_iff.1 hc).1
      have HC := Lib.hid (And.intro hc (And.intro hB lY))
      clear hY hc hB lY x0 x1 x2 y0 y1 y2 hS
      go_wp2_with fail
      go_meet
      exact ⟨_, rfl, rfl, by first | exact HC.out.1 | exact ((below_gr _ _).block _ HC.out.2.2).trans HC.out.1, by first | exact HC.out.2.1 | exact bl_gr HC.out.2.1 _⟩
  case rest =>
    obtain ⟨B, rfl, rfl, hx, bY⟩ := hcut
    obtain ⟨b, off, cap, e1, _, hb, hxx⟩ := (O4.out.2.2.1.below bY).at_ (by simp)
    simp only [Value.slice.injEq] at e1
    obtain ⟨rfl, -, rfl⟩ := e1
    have cx : wc.cell? ⟨b, off, none⟩ = some (.int .i64 5) := by have := hxx 0 5 rfl 0 _ rfl; simpa using this
    obtain ⟨u0, u1, u2⟩ := cells3 hx
    obtain ⟨⟨a0, a1, a2, a3, a4, a5⟩, _⟩ := cells6 (KK.out wc (bl_tr B3.out bY))
    obtain ⟨⟨d0, d1, d2, d3, d4, d5⟩, _⟩ := cells6 ((bY.block _ lX).trans O4.out.2.2.2)
    have B5 := Lib.hid (bl_tr B3.out bY)
    have O6 := Lib.hid (And.intro (O4.out.1.below bY) (O4.out.2.1.below bY))
    have lB := (Array.getElem?_eq_some_iff.1 hx).1
    have lX2 : w2.heap.size < wc.heap.size := Nat.lt_of_lt_of_le lX bY.size
    have lM2 : M + 1 < wc.heap.size := Nat.lt_of_lt_of_le lM bY.size
    clear hx bY hxx
    go_wp2_with (first
      | (go_at_call_of 22 A5; refine (callGr (LE2.out _ _ _ (O6.out.1.below (by (repeat (with_reducible first  | exact Below.refl _ _ | refine bl_rapp ?_ | (refine bl_set ?_ (by first | omega | (simp; done) | (simp; omega)) _) | refine bl_gr ?_ _ | refine bl_al ?_ _ | refine bl_drewN ?_ _ | refine Below.drew ?_)))) (O6.out.2.below (by (repeat (with_reducible first  | exact Below.refl _ _ | refine bl_rapp ?_ | (refine bl_set ?_ (by first | omega | (simp; done) | (simp; omega)) _) | refine bl_gr ?_ _ | refine bl_al ?_ _ | refine bl_drewN ?_ _ | refine Below.drew ?_)))))).mono ?_; rintro e w' ⟨pp, rfl, rfl⟩)
      | (go_at_call_of 22 M; refine (callGr (LE1.out _ (I1.out.below (by (repeat (with_reducible first | exact B5.out | exact Below.refl _ _ | refine bl_rapp ?_ | (refine bl_set ?_ (by first | omega | (simp; done) | (simp; omega)) _) | refine bl_gr ?_ _ | refine bl_al ?_ _ | refine bl_drewN ?_ _ | refine Below.drew ?_)))) (I2.out.below (by (repeat (with_reducible first | exact B5.out | exact Below.refl _ _ | refine bl_rapp ?_ | (refine bl_set ?_ (by first | omega | (simp; done) | (simp; omega)) _) | refine bl_gr ?_ _ | refine bl_al ?_ _ | refine bl_drewN ?_ _ | refine Below.drew ?_)))))).mono ?_; rintro e w' ⟨pp, rfl, rfl⟩))
    go_ret
    exact ⟨rfl, bl_tr BW.out (by (repeat (with_reducible first | exact B5.out | exact Below.refl _ _ | refine bl_rapp ?_ | (refine bl_set ?_ (by first | omega | (simp; done) | (simp; omega)) _) | refine bl_gr ?_ _ | refine bl_al ?_ _ | refine bl_drewN ?_ _ | refine Below.drew ?_)))⟩
end Go.Proofs.Ytdikdkllbhanfaa
