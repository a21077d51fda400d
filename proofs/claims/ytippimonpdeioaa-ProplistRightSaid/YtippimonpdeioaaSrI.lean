/- Order of package key, walked. -/
import Derived.Test.YtippimonpdeioaaElem
namespace Go.Proofs.Ytippimonpdeioaa
set_option linter.all false
open Go.ChangeShapes Go.WideShapes Go.ChangeAt Go.RowKit Go.Sort Go.Deep

/-- a row of keys of the call's own -/
abbrev RowKy (w : World) (lo : Nat) (v : Value) (xs : List Val) : Prop := w.ownsRow lo 24 3 v xs.length (flat Val.cs xs)
def KeysI (W : World) (ys : List Val) (o : Value) (wr : World) : Prop := RowKy wr W.heap.size o ys ∧ Below W.heap.size W wr
/-- a key in a block of its own -/
abbrev keyO (k : Val) : Obj := .cells #[.int .i64 k.k, .int .i64 k.n, .string k.s] 24
theorem cells3k {w : World} {b : Nat} {k : Val} (h : w.heap[b]? = some (keyO k)) : (w.cell? ⟨b, 0, none⟩ = some (.int .i64 k.k) ∧ w.cell? ⟨b, 1, none⟩ = some (.int .i64 k.n) ∧ w.cell? ⟨b, 2, none⟩ = some (.string k.s)) ∧ ∀ j, w.frozen? ⟨b, j, none⟩ = false := by
  refine ⟨?_, fun j => frozen_of_row w b j _ _ h⟩
  and_intros <;> (rw [cell_of_row w b _ _ _ _ h]; rfl)
theorem KeysI.app {W wr X w5 : World} {ys : List Val} {o v : Value} {x : Val} (h : KeysI W ys o wr) (hb : Below wr.heap.size wr X) (hg : (X.alloc (keyO x)).grownBy w5 o.ownBlock) (h5 : RowKy w5 W.heap.size v (ys ++ [x])) : KeysI W (ys ++ [x]) v w5 :=
  ⟨h5, grown_lo (bl_al (bl_tr h.2 hb) _) hg (own_lo h.1)⟩
theorem filt_step {xs : List Val} {k : Nat} {x : Val} (h : xs[k]? = some x) : (xs.take (k + 1)).filter keyM = (xs.take k).filter keyM ++ if keyM x then [x] else [] := by
  rw [List.take_add_one, h, List.filter_append, Option.toList_some, List.filter_cons]
  split <;> simp

set_option maxRecDepth 100000 in
set_option maxHeartbeats 8000000 in
theorem keysOrder_any (v : Value) (xs : List Val) (hok : ∀ x ∈ xs, x.s.size ≤ maxLen) (hm : xs.length ≤ 3000) (w : World) (hv : SlOf w 3 Val.cs v xs) :
    Calls Try.prog 44 #[v] w fun e w' => ∃ u, e = .returned u ∧ ∃ L, StS (xs.filter keyM) L ∧ RowKy w' w.heap.size u L ∧ Below w.heap.size w w' := by
  have H := Lib.hid hv
  obtain ⟨A, cp, rfl, hc, _⟩ := hv.form
  have OK := Lib.hid hok
  clear hv hc hok
  go_enter Try.func44, Try.ntmps44
  go_wp2
  go_loopw [3, 8] (fun o i wr => ∃ (k : Nat) (B : Option Addr) (m n : Nat), k ≤ xs.length ∧ i = .int .i64 k ∧ o = .slice B m n ∧ Hid (m = ((xs.take k).filter keyM).length ∧ KeysI w ((xs.take k).filter keyM) (.slice B m n) wr)) (fun _ i _ => xs.length - (intOf i).toNat)
  case atStart => exact ⟨0, none, 0, 0, by omega, rfl, rfl, Lib.hid ⟨rfl, own_nilE, Below.refl _ _⟩⟩
  case round =>
    obtain ⟨k, B, m, n, hk, rfl, rfl, HI⟩ := hrel
    by_cases hlt : k < xs.length
    · have q0 : (k : Int) < (xs.length : Int) := by omega
      have q1 : ¬ (k : Int) < 0 := by omega
      obtain ⟨b1, o1, _, e1, _, hb1, hx⟩ := (H.out.below HI.out.2.2).at_ (by omega)
      simp only [Value.slice.injEq] at e1
      obtain ⟨rfl, _, rfl⟩ := e1
      obtain ⟨x, ex⟩ : ∃ x, xs[k]? = some x := ⟨_, List.getElem?_eq_getElem hlt⟩
      have x0 := hx k x ex 0 _ rfl
      have x1 := hx k x ex 1 _ rfl
      have x2 := hx k x ex 2 _ rfl
      rw [Nat.add_zero] at x0
      have lbn : ∀ u, b1 < wr.heap.size + u := fun u => by omega
      have KR := Lib.hid (fun W => kright_any x (OK.out x (List.mem_of_getElem? ex)) W)
      have FS := Lib.hid (filt_step ex)
      have LT := Lib.hid hlt
      have HB := Lib.hid HI.out.2.2
      clear hx ex hlt
      cases hkm : keyM x
      · rw [hkm] at FS
        have KR2 := Lib.hid (fun W => by have := KR.out W; rw [hkm] at this; exact this : ∀ W, Calls Try.prog 56 #[x.agg] W fun e w' => e = .returned (.bool false) ∧ Below W.heap.size W w')
        clear KR hkm
        go_wp2_with (go_at_call 56; refine (callGr (KR2.out _)).mono ?_; rintro e w' ⟨pp, rfl, rfl⟩)
        go_roundw
        case rel => exact ⟨k + 1, B, m, n, LT.out, by go_num, rfl, Lib.hid ⟨by rw [FS.out]; simpa using HI.out.1, by rw [FS.out]; simp only [if_false, List.append_nil, Bool.false_eq_true]; exact ⟨ownsRow_below HI.out.2.1 (by (repeat (with_reducible first | exact Below.refl _ _ | (refine bl_set ?_ (by first | omega | (simp; done) | (simp; omega)) _) | refine bl_gr ?_ _ | refine bl_al ?_ _ | refine below_setRow ?_ (by first | omega | (simp; done) | (simp; omega)) _ | refine bl_drewN ?_ _ | refine Below.drew ?_ | (refine bl_tr ?_ (by assumption))))), by (repeat (with_reducible first | exact HB.out | exact Below.refl _ _ | refine bl_rapp ?_ | (refine bl_set ?_ (by first | omega | (simp; done) | (simp; omega)) _) | refine bl_gr ?_ _ | refine bl_al ?_ _ | refine bl_drewN ?_ _ | refine Below.drew ?_))⟩⟩⟩
        case measure => have := LT.out; simp [intOf]; omega
      · rw [hkm, if_pos rfl] at FS
        have KR2 := Lib.hid (fun W => by have := KR.out W; rw [hkm] at this; exact this : ∀ W, Calls Try.prog 56 #[x.agg] W fun e w' => e = .returned (.bool true) ∧ Below W.heap.size W w')
        clear KR hkm
        have YL := Lib.hid (show ((xs.take k).filter keyM ++ [x]).length ≤ 3000 by rw [← FS.out]; exact Nat.le_trans (List.length_filter_le _ _) (by rw [List.length_take]; omega))
        generalize (xs.take k).filter keyM = ys at *
        go_upto_region 6 with (go_at_call 56; refine (callGr (KR2.out _)).mono ?_; rintro e w' ⟨pp, rfl, rfl⟩)
        refine wp_worldS (fun X => X.heap[wr.heap.size]? = some (keyO x) ∧ Below wr.heap.size wr X) ⟨((below_gr _ _).block _ (by simp)).trans (heap_alloc_new _ _), by (repeat (with_reducible first | exact Below.refl _ _ | (refine bl_set ?_ (by first | omega | (simp; done) | (simp; omega)) _) | refine bl_gr ?_ _ | refine bl_al ?_ _ | refine below_setRow ?_ (by first | omega | (simp; done) | (simp; omega)) _ | refine bl_drewN ?_ _ | refine Below.drew ?_ | (refine bl_tr ?_ (by assumption))))⟩ ?_
        rintro X ⟨j0, jb⟩
        clear x0 x1 x2 lbn
        obtain ⟨⟨x0, x1, x2⟩, fz⟩ := cells3k j0
        have JB := Lib.hid jb
        have LW := Lib.hid (show w.heap.size ≤ X.heap.size from Nat.le_trans HI.out.2.2.size jb.size)
        clear j0 jb
        go_wp2_with (at_builtin; refine wpList_appG elem_key rfl _ _ rfl w.heap.size ys [x] (yv := .slice B m n) (sv := .slice (some ⟨X.heap.size, 0, none⟩) 1 1) rfl rfl (ownsRow_below HI.out.2.1 (bl_al JB.out _)) (by have := LW.out; rw [World.size_alloc]; omega) (sl_oneE (heap_alloc_new _ _) rfl) (by have := YL.out; omega) (by have := YL.out; omega) ?_; intro A5 n5 w5 o5 g5; obtain ⟨m5, hm5⟩ : ∃ m5, m5 = (ys ++ [x]).length := ⟨_, rfl⟩; rw [← hm5]; have M5 := Lib.hid hm5; have R5 := Lib.hid (HI.out.2.app JB.out g5 o5); clear hm5 g5 o5)
        go_roundw
        case rel => exact ⟨k + 1, A5, m5, n5, LT.out, by go_num, rfl, Lib.hid ⟨by rw [FS.out]; exact M5.out, by rw [FS.out, M5.out]; exact R5.out⟩⟩
        case measure => have := LT.out; simp [intOf]; omega
    · have q0 : ¬ (k : Int) < (xs.length : Int) := by omega
      have hx : xs.take k = xs := List.take_of_length_le (by omega)
      rw [hx] at HI
      have YL := Lib.hid (show (xs.filter keyM).length < 1152921504606846976 from Nat.lt_of_le_of_lt (List.length_filter_le _ _) (by omega))
      generalize hy : xs.filter keyM = ys at HI YL
      have FY := Lib.hid hy
      clear hy
      have BW := Lib.hid HI.out.2.2
      clear hx hlt
      rcases HI.out.2.1.2 with ⟨e0, h0⟩ | ⟨g, cap', cur, e0, hg, hrest⟩
      · simp only [Value.slice.injEq] at e0
        obtain ⟨rfl, rfl, rfl⟩ := e0
        have Y0 := Lib.hid (List.eq_nil_of_length_eq_zero h0)
        have SN := Lib.hid (fun W => callGr (sortStable_nil W))
        clear h0
        go_wp2_with (go_at_call 57; refine (SN.out _).mono ?_; rintro e w' ⟨pp, rfl, rfl⟩)
        go_ret
        rw [FY.out, Y0.out]
        exact ⟨_, rfl, [], .self List.Pairwise.nil, own_nilE, by (repeat (with_reducible first | exact BW.out | exact Below.refl _ _ | refine bl_rapp ?_ | (refine bl_set ?_ (by first | omega | (simp; done) | (simp; omega)) _) | refine bl_gr ?_ _ | refine bl_al ?_ _ | refine bl_drewN ?_ _ | refine Below.drew ?_))⟩
      · simp only [Value.slice.injEq] at e0
        obtain ⟨rfl, hm0, rfl⟩ := e0
        have S0 := HI.out.2.1
        rw [hm0] at S0
        have SS := Lib.hid (sortStable_any wr wr g n ys YL.out (SrtW.start S0))
        rw [← hm0] at SS
        have HG := Lib.hid (And.intro hg hm0)
        clear hg hrest S0 hm0
        go_wp2_with (go_at_call 57; refine SS.out.mono ?_; rintro e w1 ⟨rfl, L, h1, h2⟩; have R1 := Lib.hid (And.intro h1 h2); clear h1 h2)
        go_ret
        rw [FY.out]
        refine ⟨_, rfl, L, R1.out.1, ?_, HI.out.2.2.trans (R1.out.2.1.below HI.out.2.2.size fun k hk => by rw [hk]; exact HG.out.1)⟩
        rw [HG.out.2, ← R1.out.1.2.len]
        exact R1.out.2.own HG.out.1
end Go.Proofs.Ytippimonpdeioaa
