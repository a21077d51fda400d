/- Property lists: the reference's Hard, IsHard, Delete. Property lists: the reference's Define. Property lists: Keys, and the reference's. Property lists: what hardening leaves, in bits. Property lists: the law's small functions: value, few, touched. -/
import Derived.Test.YtippimonpdeioaaPmC
import Derived.Test.YtippimonpdeioaaSrN
import Derived.Test.YtippimonpdeioaaDescI
import Derived.Test.YtippimonpdeioaaPmB
namespace Go.Proofs.Ytippimonpdeioaa
set_option linter.all false
open Go.ChangeShapes Go.WideShapes Go.ChangeAt Go.RowKit Go.Sort Go.Deep

/-- behind j rounds the row ys -/
def RowI (w : World) (ys : List Prp) (B : Option Addr) (m n : Nat) (wr : World) : Prop := m = ys.length ∧ OwnP wr w.heap.size (.slice B m n) ys ∧ Below w.heap.size w wr
theorem RowI.push {w X w' : World} {ys : List Prp} {B : Option Addr} {m n g n5 m5 : Nat} {y : Prp} (h : RowI w ys B m n X) (hm : m5 = (ys ++ [y]).length) (ho : OwnP w' w.heap.size (.slice (some ⟨g, 0, none⟩) m5 n5) (ys ++ [y]))
    (ht : Touch (fun k => Value.ownBlock (.slice B m n) = some k) X w') : RowI w (ys ++ [y]) (some ⟨g, 0, none⟩) m5 n5 w' :=
  ⟨hm, ho, h.2.2.trans (ht.below h.2.2.size fun k hk => own_lo h.2.1 k hk)⟩
theorem RowI.below {w X w' : World} {ys : List Prp} {B : Option Addr} {m n : Nat} (h : RowI w ys B m n X) (hb : Below X.heap.size X w') : RowI w ys B m n w' := ⟨h.1, ownsRow_below h.2.1 hb, bl_tr h.2.2 hb⟩

set_option maxRecDepth 100000 in
set_option maxHeartbeats 8000000 in
theorem rhard_any (v : Value) (xs : List Prp) (fr : Bool) (hm : xs.length ≤ 3000) (w : World) (hv : IsP w v xs) : Calls Try.prog 22 #[v, .bool fr] w (RetP w (hardM xs fr)) := by
  obtain ⟨A, cp, rfl, _, _⟩ := hv.form
  have H := Lib.hid hv
  have HM := Lib.hid hm
  clear hv hm
  go_enter Try.func22, Try.ntmps22
  go_wp2
  go_loopw [5, 6] (fun o i wr => ∃ (j : Nat) (B : Option Addr) (m n : Nat), i = .int .i64 j ∧ o = .slice B m n ∧ Hid (j ≤ xs.length ∧ RowI w (hardM (xs.take j) fr) B m n wr)) (fun _ i _ => xs.length - (intOf i).toNat)
  case atStart => exact ⟨0, some ⟨w.heap.size, 0, none⟩, 0, 0, rfl, rfl, Lib.hid ⟨Nat.zero_le _, rfl, own_empty (heap_alloc_new _ _) (Nat.le_refl _), by (repeat (with_reducible first | exact Below.refl _ _ | (refine bl_set ?_ (by first | omega | (simp; done) | (simp; omega)) _) | refine bl_gr ?_ _ | refine bl_al ?_ _ | refine below_setRow ?_ (by first | omega | (simp; done) | (simp; omega)) _ | refine bl_drewN ?_ _ | refine Below.drew ?_ | (refine bl_tr ?_ (by assumption))))⟩⟩
  case round =>
    obtain ⟨j, B, m, n, rfl, rfl, HI⟩ := hrel
    by_cases hlt : j < xs.length
    · have q0 : (j : Int) < (xs.length : Int) := by omega
      have q1 : ¬ (j : Int) < 0 := by omega
      obtain ⟨b, off, cap', e1, lb, -, h0, h1, h2, h3, h4, h5, h6, h7, h8, h9, h10, h11, h12⟩ := IsP.at13 (H.out.below HI.out.2.2.2) (pAt_lt hlt)
      simp only [Value.slice.injEq] at e1
      obtain ⟨rfl, _, rfl⟩ := e1
      obtain ⟨jp, hjp, ek1⟩ : ∃ jp : Nat, jp = j + 1 ∧ wrap64 ((j : Int) + 1) = (jp : Int) := ⟨j + 1, rfl, w64 rfl (by have := HM.out; omega)⟩
      have KP := Lib.hid (And.intro hjp hlt)
      have HS := Lib.hid (show hardM (xs.take (j + 1)) fr = hardM (xs.take j) fr ++ [hardP fr (pAt xs j)] by unfold hardM; rw [List.take_add_one, pAt_lt hlt]; simp)
      have LY := Lib.hid (show (hardM (xs.take j) fr).length ≤ 3000 by have := HM.out; simp [hardM]; omega)
      clear hlt hjp
      generalize pAt xs j = x at *
      generalize hardM (xs.take j) fr = ys at *
      obtain ⟨y, hy⟩ : ∃ y, y = hardP fr x := ⟨_, rfl⟩
      rw [← hy] at HS
      have HY := Lib.hid hy
      clear hy
      cases fr
      · have YV := Lib.hid (show y = ⟨x.k, bits .andNot .i64 x.a 4, x.v, x.g, x.t⟩ by rw [HY.out, hardP, hardA_f])
        go_upto_region 9 with fail
        refine wp_world4 (fun X => X.heap[wr.heap.size]? = some (prpO y) ∧ Below wr.heap.size wr X) ⟨by rw [YV.out]; exact heap_alloc_new _ _, by (repeat (with_reducible first | exact Below.refl _ _ | (refine bl_set ?_ (by first | omega | (simp; done) | (simp; omega)) _) | refine bl_gr ?_ _ | refine bl_al ?_ _ | refine below_setRow ?_ (by first | omega | (simp; done) | (simp; omega)) _ | refine bl_drewN ?_ _ | refine Below.drew ?_ | (refine bl_tr ?_ (by assumption))))⟩ ?_
        rintro X ⟨j0, jb⟩
        clear h0 h1 h2 h3 h4 h5 h6 h7 h8 h9 h10 h11 h12 lb
        obtain ⟨⟨x0, x1, x2, x3, x4, x5, x6, x7, x8, x9, x10, x11, x12⟩, _⟩ := cells13 j0
        have HX := Lib.hid (HI.out.2.below jb)
        have lX := (Array.getElem?_eq_some_iff.1 j0).1
        clear j0 jb
        go_wp2_with (at_builtin; refine wpList_pushG elem_prp rfl _ _ rfl w.heap.size ys m (yv := .slice B m n) (S := X.heap.size) y rfl rfl (by have := HX.out.2.2.size; rw [World.size_alloc]; omega) HX.out.1 (ownsRow_below HX.out.2.1 (bl_al (Below.refl _ _) _)) (heap_alloc_new _ _) (by have := LY.out; have := HX.out.1; omega) (by decide) ?_; intro g5 n5 m5 w5 hm5 o5 t5 l5; have R5 := Lib.hid ((HX.out.below (bl_al (Below.refl _ _) _)).push hm5 (by rw [← hm5] at o5; unfold OwnP; rw [← hm5]; exact o5) t5); clear hm5 o5 t5 l5)
        go_roundw
        case rel => exact ⟨jp, some ⟨g5, 0, none⟩, m5, n5, by first | with_reducible rfl | rw [ek1], rfl, Lib.hid ⟨by rw [KP.out.1]; exact KP.out.2, by rw [KP.out.1, HS.out]; exact R5.out⟩⟩
        case measure => ((try rw [ek1]); exact meas_n3 KP.out.1 KP.out.2)
      · cases e8 : bits .and .i64 (bits .andNot .i64 x.a 4) 8 == 0
        · have YV := Lib.hid (show y = ⟨x.k, bits .andNot .i64 x.a 4, x.v, x.g, x.t⟩ by rw [HY.out]; simp [hardP, hardA, e8])
          go_upto_region 9 with fail
          refine wp_world4 (fun X => X.heap[wr.heap.size]? = some (prpO y) ∧ Below wr.heap.size wr X) ⟨by rw [YV.out]; exact heap_alloc_new _ _, by (repeat (with_reducible first | exact Below.refl _ _ | (refine bl_set ?_ (by first | omega | (simp; done) | (simp; omega)) _) | refine bl_gr ?_ _ | refine bl_al ?_ _ | refine below_setRow ?_ (by first | omega | (simp; done) | (simp; omega)) _ | refine bl_drewN ?_ _ | refine Below.drew ?_ | (refine bl_tr ?_ (by assumption))))⟩ ?_
          rintro X ⟨j0, jb⟩
          clear h0 h1 h2 h3 h4 h5 h6 h7 h8 h9 h10 h11 h12 lb
          obtain ⟨⟨x0, x1, x2, x3, x4, x5, x6, x7, x8, x9, x10, x11, x12⟩, _⟩ := cells13 j0
          have HX := Lib.hid (HI.out.2.below jb)
          have lX := (Array.getElem?_eq_some_iff.1 j0).1
          clear j0 jb
          go_wp2_with (at_builtin; refine wpList_pushG elem_prp rfl _ _ rfl w.heap.size ys m (yv := .slice B m n) (S := X.heap.size) y rfl rfl (by have := HX.out.2.2.size; rw [World.size_alloc]; omega) HX.out.1 (ownsRow_below HX.out.2.1 (bl_al (Below.refl _ _) _)) (heap_alloc_new _ _) (by have := LY.out; have := HX.out.1; omega) (by decide) ?_; intro g5 n5 m5 w5 hm5 o5 t5 l5; have R5 := Lib.hid ((HX.out.below (bl_al (Below.refl _ _) _)).push hm5 (by rw [← hm5] at o5; unfold OwnP; rw [← hm5]; exact o5) t5); clear hm5 o5 t5 l5)
          go_roundw
          case rel => exact ⟨jp, some ⟨g5, 0, none⟩, m5, n5, by first | with_reducible rfl | rw [ek1], rfl, Lib.hid ⟨by rw [KP.out.1]; exact KP.out.2, by rw [KP.out.1, HS.out]; exact R5.out⟩⟩
          case measure => ((try rw [ek1]); exact meas_n3 KP.out.1 KP.out.2)
        · have YV := Lib.hid (show y = ⟨x.k, bits .andNot .i64 (bits .andNot .i64 x.a 4) 1, x.v, x.g, x.t⟩ by rw [HY.out]; simp [hardP, hardA, e8])
          go_upto_region 9 with fail
          refine wp_world4 (fun X => X.heap[wr.heap.size]? = some (prpO y) ∧ Below wr.heap.size wr X) ⟨by rw [YV.out]; exact heap_alloc_new _ _, by (repeat (with_reducible first | exact Below.refl _ _ | (refine bl_set ?_ (by first | omega | (simp; done) | (simp; omega)) _) | refine bl_gr ?_ _ | refine bl_al ?_ _ | refine below_setRow ?_ (by first | omega | (simp; done) | (simp; omega)) _ | refine bl_drewN ?_ _ | refine Below.drew ?_ | (refine bl_tr ?_ (by assumption))))⟩ ?_
          rintro X ⟨j0, jb⟩
          clear h0 h1 h2 h3 h4 h5 h6 h7 h8 h9 h10 h11 h12 lb
          obtain ⟨⟨x0, x1, x2, x3, x4, x5, x6, x7, x8, x9, x10, x11, x12⟩, _⟩ := cells13 j0
          have HX := Lib.hid (HI.out.2.below jb)
          have lX := (Array.getElem?_eq_some_iff.1 j0).1
          clear j0 jb
          go_wp2_with (at_builtin; refine wpList_pushG elem_prp rfl _ _ rfl w.heap.size ys m (yv := .slice B m n) (S := X.heap.size) y rfl rfl (by have := HX.out.2.2.size; rw [World.size_alloc]; omega) HX.out.1 (ownsRow_below HX.out.2.1 (bl_al (Below.refl _ _) _)) (heap_alloc_new _ _) (by have := LY.out; have := HX.out.1; omega) (by decide) ?_; intro g5 n5 m5 w5 hm5 o5 t5 l5; have R5 := Lib.hid ((HX.out.below (bl_al (Below.refl _ _) _)).push hm5 (by rw [← hm5] at o5; unfold OwnP; rw [← hm5]; exact o5) t5); clear hm5 o5 t5 l5)
          go_roundw
          case rel => exact ⟨jp, some ⟨g5, 0, none⟩, m5, n5, by first | with_reducible rfl | rw [ek1], rfl, Lib.hid ⟨by rw [KP.out.1]; exact KP.out.2, by rw [KP.out.1, HS.out]; exact R5.out⟩⟩
          case measure => ((try rw [ek1]); exact meas_n3 KP.out.1 KP.out.2)
    · have q0 : ¬ (j : Int) < (xs.length : Int) := by omega
      have RW := Lib.hid (show RowI w (hardM xs fr) B m n wr from by
        have := HI.out.2
        rwa [List.take_of_length_le (by omega)] at this)
      clear hlt
      go_wp2
      go_ret
      exact ⟨B, n, by rw [← RW.out.1]; rfl, by rw [← RW.out.1]; exact RW.out.2.1, RW.out.2.2⟩

set_option maxRecDepth 100000 in
set_option maxHeartbeats 4000000 in
theorem risHard_any (v : Value) (xs : List Prp) (ext fr : Bool) (hm : xs.length ≤ 3000) (w : World) (hv : IsP w v xs) : Calls Try.prog 24 #[v, .bool ext, .bool fr] w fun e w' => e = .returned (.bool (!ext && decide (hardM xs fr = xs))) ∧ Below w.heap.size w w' := by
  obtain ⟨A, cp, rfl, _, _⟩ := hv.form
  have HD := Lib.hid (rhard_any _ xs fr hm w hv)
  have SM := Lib.hid (fun u W h1 h2 => rsameP_any u (.slice A xs.length cp) (hardM xs fr) xs (by simpa [hardM] using hm) W h1 h2)
  have HV := Lib.hid hv
  clear hv hm
  cases ext
  · as_aux_lemma =>
    go_enter Try.func24, Try.ntmps24
    go_wp2_with (first | (go_at_call 22; refine HD.out.mono ?_; rintro e w3 ⟨A3, n3, rfl, o3, b3⟩; have O3 := Lib.hid (And.intro o3 b3); clear o3 b3) | (go_at_call 14; refine (callGr (SM.out _ _ O3.out.1.isP (HV.out.below O3.out.2))).mono ?_; rintro e w' ⟨pp, rfl, rfl⟩))
    go_ret
    exact ⟨by simp, bl_gr O3.out.2 _⟩
  · as_aux_lemma =>
    go_enter Try.func24, Try.ntmps24
    go_wp2
    go_ret
    exact ⟨by simp, by (repeat (with_reducible first | exact Below.refl _ _ | (refine bl_set ?_ (by first | omega | (simp; done) | (simp; omega)) _) | refine bl_gr ?_ _ | refine bl_al ?_ _ | refine below_setRow ?_ (by first | omega | (simp; done) | (simp; omega)) _ | refine bl_drewN ?_ _ | refine Below.drew ?_ | (refine bl_tr ?_ (by assumption))))⟩

/-- xs without place F, behind j rounds -/
def skipL (F : Int) (xs : List Prp) : Nat → List Prp
  | 0 => []
  | j + 1 => if (j : Int) = F then skipL F xs j else skipL F xs j ++ [pAt xs j]
theorem skipL_len (F : Int) (xs : List Prp) : ∀ j, (skipL F xs j).length ≤ j
  | 0 => Nat.le_refl _
  | j + 1 => by
    have := skipL_len F xs j
    unfold skipL
    split <;> simp <;> omega
theorem skipL_no {xs : List Prp} : ∀ {j : Nat}, j ≤ xs.length → skipL (-1) xs j = xs.take j
  | 0, _ => by simp [skipL]
  | j + 1, h => by
    have h' : j < xs.length := h
    unfold skipL
    rw [if_neg (by omega), skipL_no (by omega), List.take_add_one, pAt_lt h']
    rfl
theorem skipL_lo {xs : List Prp} {i : Nat} : ∀ {j : Nat}, j ≤ i → j ≤ xs.length → skipL (i : Int) xs j = xs.take j
  | 0, _, _ => by simp [skipL]
  | j + 1, h, h2 => by
    have h' : j < xs.length := h2
    unfold skipL
    rw [if_neg (by omega), skipL_lo (by omega) (by omega), List.take_add_one, pAt_lt h']
    rfl
theorem skipL_hi {xs : List Prp} {i : Nat} (hi : i < xs.length) : ∀ {j : Nat}, i < j → j ≤ xs.length → skipL (i : Int) xs j = xs.take i ++ (xs.take j).drop (i + 1)
  | 0, h, _ => by omega
  | j + 1, h, h2 => by
    have h' : j < xs.length := h2
    unfold skipL
    by_cases e : j = i
    · subst e
      rw [if_pos rfl, skipL_lo (Nat.le_refl _) (by omega), List.drop_eq_nil_of_le (by simp; omega), List.append_nil]
    · rw [if_neg (by omega), skipL_hi hi (by omega) (by omega), List.take_add_one, pAt_lt h', List.append_assoc]
      congr 1
      rw [List.drop_append_of_le_length (by simp; omega)]
      rfl
theorem skipL_all {xs : List Prp} {i : Nat} (hi : i < xs.length) : skipL (i : Int) xs xs.length = xs.take i ++ xs.drop (i + 1) := by
  rw [skipL_hi hi hi (Nat.le_refl _), List.take_length]

set_option maxRecDepth 100000 in
set_option maxHeartbeats 8000000 in
theorem rdelete_walk (v : Value) (xs : List Prp) (k : Val) (F : Int) (hF : F = -1 ∨ ∃ i : Nat, F = i ∧ i < xs.length ∧ (bits .and .i64 (pAt xs i).a 4 == 0) = false) (hm : xs.length ≤ 3000) (hf : findM xs k = F) (w : World) (hv : IsP w v xs) :
    Calls Try.prog 20 #[v, k.agg] w (RetPB w (skipL F xs xs.length) true) := by
  obtain ⟨A, cp, rfl, _, _⟩ := hv.form
  have H := Lib.hid hv
  have HM := Lib.hid hm
  have FD := Lib.hid (fun W (h : IsP W (.slice A xs.length cp) xs) => (show Calls Try.prog 27 #[.slice A xs.length cp, k.agg] W fun e w' => e = .returned (.int .i64 F) ∧ Below W.heap.size W w' from by
    have := rfind_any _ xs k hm W h
    rwa [hf] at this))
  clear hv hm hf
  go_enter Try.func20, Try.ntmps20
  rcases hF with rfl | ⟨i, rfl, hi, h4⟩
  · go_upto_region 4 with (go_at_call 27; refine (callGr (FD.out _ (H.out.below (by (repeat (with_reducible first | exact Below.refl _ _ | (refine bl_set ?_ (by first | omega | (simp; done) | (simp; omega)) _) | refine bl_gr ?_ _ | refine bl_al ?_ _ | refine below_setRow ?_ (by first | omega | (simp; done) | (simp; omega)) _ | refine bl_drewN ?_ _ | refine Below.drew ?_ | (refine bl_tr ?_ (by assumption)))))))).mono ?_; rintro e w' ⟨pp, rfl, rfl⟩)
    refine wp_world4 (fun X => Below w.heap.size w X) (by first | exact BX.out | (repeat (with_reducible first | exact Below.refl _ _ | (refine bl_set ?_ (by first | omega | (simp; done) | (simp; omega)) _) | refine bl_gr ?_ _ | refine bl_al ?_ _ | refine below_setRow ?_ (by first | omega | (simp; done) | (simp; omega)) _ | refine bl_drewN ?_ _ | refine Below.drew ?_ | (refine bl_tr ?_ (by assumption))))) ?_
    intro Y hY
    have BY := Lib.hid hY
    clear hY
    go_wp2
    go_loopw [7, 8] (fun o iv wr => ∃ (j : Nat) (B : Option Addr) (m n : Nat), iv = .int .i64 j ∧ o = .slice B m n ∧ Hid (j ≤ xs.length ∧ RowI w (skipL (-1) xs j) B m n wr)) (fun _ iv _ => xs.length - (intOf iv).toNat)
    case atStart => exact ⟨0, some ⟨Y.heap.size, 0, none⟩, 0, 0, rfl, rfl, Lib.hid ⟨Nat.zero_le _, rfl, own_empty (heap_alloc_new _ _) BY.out.size, bl_al BY.out _⟩⟩
    case round =>
      obtain ⟨j, B, m, n, rfl, rfl, HI⟩ := hrel
      by_cases hlt : j < xs.length
      · have q0 : (j : Int) < (xs.length : Int) := by omega
        have q1 : ¬ (j : Int) < 0 := by omega
        obtain ⟨b2, off2, cap2, e2, lb2, -, h0, h1, h2, h3, h4', h5, h6, h7, h8, h9, h10, h11, h12⟩ := IsP.at13 (H.out.below HI.out.2.2.2) (pAt_lt hlt)
        simp only [Value.slice.injEq] at e2
        obtain ⟨rfl, -, -⟩ := e2
        obtain ⟨jp, hjp, ek1⟩ : ∃ jp : Nat, jp = j + 1 ∧ wrap64 ((j : Int) + 1) = (jp : Int) := ⟨j + 1, rfl, w64 rfl (by have := HM.out; omega)⟩
        have KP := Lib.hid (And.intro hjp hlt)
        have SS := Lib.hid (show skipL (-1) xs (j + 1) = if (j : Int) = -1 then skipL (-1) xs j else skipL (-1) xs j ++ [pAt xs j] from rfl)
        have LY := Lib.hid (show (skipL (-1) xs j).length ≤ 3000 from Nat.le_trans (skipL_len _ _ _) (by have := HM.out; omega))
        have lbn : ∀ u, b2 < wr.heap.size + u := fun u => Nat.lt_of_lt_of_le lb2 (Nat.le_add_right _ _)
        clear hlt hjp
        generalize pAt xs j = x at *
        generalize skipL (-1) xs j = ys at *
        by_cases hne : (j : Int) = -1
        · have e9 : ((j : Int) != -1) = false := by simp [hne]
          rw [if_pos hne] at SS
          have HN := Lib.hid hne
          clear hne
          go_wp2
          go_roundw
          case rel => exact ⟨jp, B, m, n, by first | with_reducible rfl | rw [ek1], rfl, Lib.hid ⟨by rw [KP.out.1]; exact KP.out.2, by rw [KP.out.1, SS.out]; exact HI.out.2⟩⟩
          case measure => ((try rw [ek1]); exact meas_n3 KP.out.1 KP.out.2)
        · have e9 : ((j : Int) != -1) = true := by simpa using hne
          rw [if_neg hne] at SS
          have HN := Lib.hid hne
          have HX := Lib.hid HI.out.2
          go_upto_region 9 with fail
          go_wp2_with (at_builtin; refine wpList_pushG elem_prp rfl _ _ rfl w.heap.size ys m (yv := .slice B m n) (S := wr.heap.size) x rfl rfl (by have := HX.out.2.2.size; rw [World.size_alloc]; omega) HX.out.1 (ownsRow_below HX.out.2.1 (bl_al (Below.refl _ _) _)) (heap_alloc_new _ _) (by have := LY.out; have := HX.out.1; omega) (by decide) ?_; intro g5 n5 m5 w5 hm5 o5 t5 l5; have R5 := Lib.hid ((HX.out.below (bl_al (Below.refl _ _) _)).push hm5 (by rw [← hm5] at o5; unfold OwnP; rw [← hm5]; exact o5) t5); clear hm5 o5 t5 l5)
          go_roundw
          case rel => exact ⟨jp, some ⟨g5, 0, none⟩, m5, n5, by first | with_reducible rfl | rw [ek1], rfl, Lib.hid ⟨by rw [KP.out.1]; exact KP.out.2, by rw [KP.out.1, SS.out]; exact R5.out⟩⟩
          case measure => ((try rw [ek1]); exact meas_n3 KP.out.1 KP.out.2)
      · have q0 : ¬ (j : Int) < (xs.length : Int) := by omega
        have RW := Lib.hid (show RowI w (skipL (-1) xs xs.length) B m n wr from by
          have := HI.out.2
          rwa [show j = xs.length by have := HI.out.1; omega] at this)
        clear hlt
        go_wp2
        refine bodyPost_ret (v := .tuple #[.slice B m n, .bool true]) (by simp [results, Try.results20, go_sem, gr_size]) rfl ⟨B, n, by rw [← RW.out.1], by rw [← RW.out.1]; exact RW.out.2.1, RW.out.2.2⟩
  · obtain ⟨b0, o0, c0, e0, -⟩ := IsP.at13 H.out (pAt_lt hi)
    simp only [Value.slice.injEq] at e0
    obtain ⟨rfl, -, -⟩ := e0
    have r0 : (i : Int) < (xs.length : Int) := by omega
    have r1 : ¬ (i : Int) < 0 := by omega
    have HI0 := Lib.hid hi
    go_upto_region 2 with (go_at_call 27; refine (callGr (FD.out _ (H.out.below (by (repeat (with_reducible first | exact Below.refl _ _ | (refine bl_set ?_ (by first | omega | (simp; done) | (simp; omega)) _) | refine bl_gr ?_ _ | refine bl_al ?_ _ | refine below_setRow ?_ (by first | omega | (simp; done) | (simp; omega)) _ | refine bl_drewN ?_ _ | refine Below.drew ?_ | (refine bl_tr ?_ (by assumption)))))))).mono ?_; rintro e w' ⟨pp, rfl, rfl⟩)
    refine wp_world4 (fun X => Below w.heap.size w X) (by (repeat (with_reducible first | exact Below.refl _ _ | (refine bl_set ?_ (by first | omega | (simp; done) | (simp; omega)) _) | refine bl_gr ?_ _ | refine bl_al ?_ _ | refine below_setRow ?_ (by first | omega | (simp; done) | (simp; omega)) _ | refine bl_drewN ?_ _ | refine Below.drew ?_ | (refine bl_tr ?_ (by assumption))))) ?_
    intro X hX
    obtain ⟨b, off, cap', e1, lb, -, -, -, -, h3, -⟩ := IsP.at13 (H.out.below hX) (pAt_lt hi)
    simp only [Value.slice.injEq, Option.some.injEq, Addr.mk.injEq, true_and, and_true] at e1
    obtain ⟨⟨rfl, rfl⟩, -⟩ := e1
    have BX := Lib.hid hX
    clear hX hi
    go_upto_region 4 with fail
    clear h3 lb
    refine wp_world4 (fun X => Below w.heap.size w X) (by first | exact BX.out | (repeat (with_reducible first | exact Below.refl _ _ | (refine bl_set ?_ (by first | omega | (simp; done) | (simp; omega)) _) | refine bl_gr ?_ _ | refine bl_al ?_ _ | refine below_setRow ?_ (by first | omega | (simp; done) | (simp; omega)) _ | refine bl_drewN ?_ _ | refine Below.drew ?_ | (refine bl_tr ?_ (by assumption))))) ?_
    intro Y hY
    have BY := Lib.hid hY
    clear hY
    go_wp2
    go_loopw [7, 8] (fun o iv wr => ∃ (j : Nat) (B : Option Addr) (m n : Nat), iv = .int .i64 j ∧ o = .slice B m n ∧ Hid (j ≤ xs.length ∧ RowI w (skipL ((i : Int)) xs j) B m n wr)) (fun _ iv _ => xs.length - (intOf iv).toNat)
    case atStart => exact ⟨0, some ⟨Y.heap.size, 0, none⟩, 0, 0, rfl, rfl, Lib.hid ⟨Nat.zero_le _, rfl, own_empty (heap_alloc_new _ _) BY.out.size, bl_al BY.out _⟩⟩
    case round =>
      obtain ⟨j, B, m, n, rfl, rfl, HI⟩ := hrel
      by_cases hlt : j < xs.length
      · have q0 : (j : Int) < (xs.length : Int) := by omega
        have q1 : ¬ (j : Int) < 0 := by omega
        obtain ⟨b2, off2, cap2, e2, lb2, -, h0, h1, h2, h3, h4', h5, h6, h7, h8, h9, h10, h11, h12⟩ := IsP.at13 (H.out.below HI.out.2.2.2) (pAt_lt hlt)
        simp only [Value.slice.injEq, Option.some.injEq, Addr.mk.injEq, true_and, and_true] at e2
        obtain ⟨⟨rfl, rfl⟩, -⟩ := e2
        obtain ⟨jp, hjp, ek1⟩ : ∃ jp : Nat, jp = j + 1 ∧ wrap64 ((j : Int) + 1) = (jp : Int) := ⟨j + 1, rfl, w64 rfl (by have := HM.out; omega)⟩
        have KP := Lib.hid (And.intro hjp hlt)
        have SS := Lib.hid (show skipL ((i : Int)) xs (j + 1) = if (j : Int) = (i : Int) then skipL ((i : Int)) xs j else skipL ((i : Int)) xs j ++ [pAt xs j] from rfl)
        have LY := Lib.hid (show (skipL ((i : Int)) xs j).length ≤ 3000 from Nat.le_trans (skipL_len _ _ _) (by have := HM.out; omega))
        have lbn : ∀ u, b0 < wr.heap.size + u := fun u => Nat.lt_of_lt_of_le lb2 (Nat.le_add_right _ _)
        clear hlt hjp
        obtain ⟨x, hx⟩ : ∃ x, x = pAt xs j := ⟨_, rfl⟩
        rw [← hx] at h0 h1 h2 h3 h4' h5 h6 h7 h8 h9 h10 h11 h12 SS
        clear hx
        generalize skipL ((i : Int)) xs j = ys at *
        by_cases hne : (j : Int) = (i : Int)
        · have e9 : ((j : Int) != (i : Int)) = false := by simp [hne]
          rw [if_pos hne] at SS
          have HN := Lib.hid hne
          clear hne
          go_wp2
          go_roundw
          case rel => exact ⟨jp, B, m, n, by first | with_reducible rfl | rw [ek1], rfl, Lib.hid ⟨by rw [KP.out.1]; exact KP.out.2, by rw [KP.out.1, SS.out]; exact HI.out.2⟩⟩
          case measure => ((try rw [ek1]); exact meas_n3 KP.out.1 KP.out.2)
        · have e9 : ((j : Int) != (i : Int)) = true := by simpa using hne
          rw [if_neg hne] at SS
          have HN := Lib.hid hne
          have HX := Lib.hid HI.out.2
          go_upto_region 9 with fail
          go_wp2_with (at_builtin; refine wpList_pushG elem_prp rfl _ _ rfl w.heap.size ys m (yv := .slice B m n) (S := wr.heap.size) x rfl rfl (by have := HX.out.2.2.size; rw [World.size_alloc]; omega) HX.out.1 (ownsRow_below HX.out.2.1 (bl_al (Below.refl _ _) _)) (heap_alloc_new _ _) (by have := LY.out; have := HX.out.1; omega) (by decide) ?_; intro g5 n5 m5 w5 hm5 o5 t5 l5; have R5 := Lib.hid ((HX.out.below (bl_al (Below.refl _ _) _)).push hm5 (by rw [← hm5] at o5; unfold OwnP; rw [← hm5]; exact o5) t5); clear hm5 o5 t5 l5)
          go_roundw
          case rel => exact ⟨jp, some ⟨g5, 0, none⟩, m5, n5, by first | with_reducible rfl | rw [ek1], rfl, Lib.hid ⟨by rw [KP.out.1]; exact KP.out.2, by rw [KP.out.1, SS.out]; exact R5.out⟩⟩
          case measure => ((try rw [ek1]); exact meas_n3 KP.out.1 KP.out.2)
      · have q0 : ¬ (j : Int) < (xs.length : Int) := by omega
        have RW := Lib.hid (show RowI w (skipL ((i : Int)) xs xs.length) B m n wr from by
          have := HI.out.2
          rwa [show j = xs.length by have := HI.out.1; omega] at this)
        clear hlt
        go_wp2
        refine bodyPost_ret (v := .tuple #[.slice B m n, .bool true]) (by simp [results, Try.results20, go_sem, gr_size]) rfl ⟨B, n, by rw [← RW.out.1], by rw [← RW.out.1]; exact RW.out.2.1, RW.out.2.2⟩
end Go.Proofs.Ytippimonpdeioaa
namespace Go.Proofs.Ytippimonpdeioaa
set_option linter.all false
open Go.ChangeShapes Go.WideShapes Go.ChangeAt Go.RowKit Go.Sort Go.Deep

/-- what the reference's Define answers -/
def rdefM (xs : List Prp) (ext : Bool) (k : Val) (d : Dsc) : List Prp × Bool :=
  match xs.findIdx? (keyIs k) with
  | none => if (applyR .nil false ext k d).2 && decide (xs.length < 1024) then (xs ++ [(applyR .nil false ext k d).1], true) else ([], false)
  | some i => if (applyR (pAt xs i) true ext k d).2 then (xs.set i (applyR (pAt xs i) true ext k d).1, true) else ([], false)
theorem own_form {w : World} {lo m n : Nat} {A : Option Addr} {xs : List Prp} (h : OwnP w lo (.slice A m n) xs) (hi : 0 < xs.length) : ∃ g, A = some ⟨g, 0, none⟩ ∧ m = xs.length := by
  rcases h.2 with ⟨e, h0⟩ | ⟨g, cap, cur, e, _⟩
  · have := h0
    omega
  · simp only [Value.slice.injEq] at e
    exact ⟨g, e.1, e.2.1⟩

set_option maxRecDepth 100000 in
set_option maxHeartbeats 8000000 in
theorem rdefine_any (v : Value) (xs : List Prp) (ext : Bool) (k : Val) (d : Dsc) (hn : i64ok d.h) (ha : i64ok d.a) (hp0 : ∀ x ∈ xs, i64ok x.a) (hm : xs.length ≤ 3000) (w : World) (hv : IsP w v xs) :
    Calls Try.prog 13 #[v, .bool ext, k.agg, d.agg] w (RetPB w (rdefM xs ext k d).1 (rdefM xs ext k d).2) := by
  obtain ⟨A, cp, rfl, _, _⟩ := hv.form
  have HV := Lib.hid hv
  obtain ⟨L, ok, hL⟩ : ∃ L ok, rdefM xs ext k d = (L, ok) := ⟨_, _, rfl⟩
  have hD := hL
  unfold rdefM at hD
  rw [hL]
  cases hf : xs.findIdx? (keyIs k) with
  | none =>
    have FD := Lib.hid (fun W (h : IsP W (.slice A xs.length cp) xs) => (show Calls Try.prog 27 #[.slice A xs.length cp, k.agg] W fun e w' => e = .returned (.int .i64 (-1)) ∧ Below W.heap.size W w' from by
      have := rfind_any _ xs k hm W h
      rwa [show findM xs k = -1 by unfold findM placeM; rw [hf]] at this))
    obtain ⟨p, ap, hp⟩ : ∃ p ap, applyR .nil false ext k d = (p, ap) := ⟨_, _, rfl⟩
    have AP := Lib.hid (fun W => (show Calls Try.prog 39 #[Prp.nil.agg, .bool false, .bool ext, k.agg, d.agg] W fun e w' => e = .returned (.tuple #[p.agg, .bool ap]) ∧ Below W.heap.size W w' from by
      have := rapply_any .nil k d W hn ha (by unfold i64ok; decide) false ext
      rwa [hp] at this))
    rw [hf] at hD
    simp only [hp] at hD
    have DD := Lib.hid hD
    have HM := Lib.hid hm
    clear hv hm hf hL hp hD hn ha hp0
    go_enter Try.func13, Try.ntmps13
    go_upto_region 5 with (go_at_call 27; refine (callGr (FD.out _ (HV.out.below (by (repeat (with_reducible first | exact Below.refl _ _ | (refine bl_set ?_ (by first | omega | (simp; done) | (simp; omega)) _) | refine bl_gr ?_ _ | refine bl_al ?_ _ | refine below_setRow ?_ (by first | omega | (simp; done) | (simp; omega)) _ | refine bl_drewN ?_ _ | refine Below.drew ?_ | (refine bl_tr ?_ (by assumption)))))))).mono ?_; rintro e w' ⟨pp, rfl, rfl⟩)
    go_cut [12, 13] (fun pt o Y => ∃ B, pt = .pointer (some ⟨B, 0, none⟩) ∧ o = .bool ap ∧ Y.heap[B]? = some (prpO p) ∧ Below w.heap.size w Y)
    case first =>
      go_wp2_with (go_at_call 39; refine (callGr (AP.out _)).mono ?_; rintro e w' ⟨pp, rfl, rfl⟩)
      go_meet
      exact ⟨_, rfl, rfl, heap_new (by simp [gr_size]), by (repeat (with_reducible first | exact Below.refl _ _ | (refine bl_set ?_ (by first | omega | (simp; done) | (simp; omega)) _) | refine bl_gr ?_ _ | refine bl_al ?_ _ | refine below_setRow ?_ (by first | omega | (simp; done) | (simp; omega)) _ | refine bl_drewN ?_ _ | refine Below.drew ?_ | (refine bl_tr ?_ (by assumption))))⟩
    case rest =>
      obtain ⟨B, rfl, rfl, hB, bY⟩ := hcut
      obtain ⟨⟨x0, x1, x2, x3, x4, x5, x6, x7, x8, x9, x10, x11, x12⟩, _⟩ := cells13 hB
      have lB := (Array.getElem?_eq_some_iff.1 hB).1
      have HB := Lib.hid (fun Z (h : Below wc.heap.size wc Z) => (h.block _ lB).trans hB)
      have BY := Lib.hid bY
      have VY := Lib.hid (HV.out.below bY)
      clear hB bY
      cases ap
      · have hD := DD.out
        simp only [Bool.false_and, Bool.false_eq_true, if_false] at hD
        have e1 := congrArg Prod.fst hD
        have e2 := congrArg Prod.snd hD
        clear hD
        dsimp only at e1 e2
        subst e1 e2
        clear DD
        go_wp2
        refine bodyPost_ret (v := .tuple #[.slice none 0 0, .bool false]) (by simp [results, Try.results13, go_sem, gr_size]) rfl ⟨_, _, rfl, own_nilE, BY.out⟩
      · by_cases hl : xs.length < 1024
        · have q0 : ¬ (1024 : Int) ≤ (xs.length : Int) := by omega
          have hD := DD.out
          simp only [Bool.true_and, hl, decide_true, if_true] at hD
          have e1 := congrArg Prod.fst hD
          have e2 := congrArg Prod.snd hD
          clear hD
          dsimp only at e1 e2
          subst e2
          have LL := Lib.hid e1
          clear DD hl e1
          go_upto_region 10 with (at_builtin; refine wpList_appG elem_prp rfl _ _ rfl wc.heap.size [] xs (yv := .slice (some ⟨wc.heap.size, 0, none⟩) 0 0) (sv := .slice A xs.length cp) rfl rfl (own_empty (heap_alloc_new _ _) (Nat.le_refl _)) (by simp) (VY.out.below (bl_al (Below.refl _ _) _)) (by have := HM.out; simp; omega) (by have := HM.out; simp; omega) ?_; intro A5 n5 w5 o5 g5; obtain ⟨m5, hm5⟩ : ∃ m5, m5 = (([] : List Prp) ++ xs).length := ⟨_, rfl⟩; rw [← hm5]; have R5 := Lib.hid (show RowI wc xs A5 m5 n5 w5 from ⟨hm5, by rw [hm5]; exact o5, grown_lo (bl_al (Below.refl _ _) _) g5 (by intro g hg; simp [Value.ownBlock] at hg; omega)⟩); clear hm5 o5 g5)
          obtain ⟨⟨y0, y1, y2, y3, y4, y5, y6, y7, y8, y9, y10, y11, y12⟩, _⟩ := cells13 (HB.out _ R5.out.2.2)
          have lB5 := Nat.lt_of_lt_of_le lB R5.out.2.2.size
          clear x0 x1 x2 x3 x4 x5 x6 x7 x8 x9 x10 x11 x12
          go_wp2_with (at_builtin; refine wpList_pushG elem_prp rfl _ _ rfl wc.heap.size xs m5 (yv := .slice A5 m5 n5) (S := w5.heap.size) p rfl rfl (by have := R5.out.2.2.size; rw [World.size_alloc]; omega) R5.out.1 (ownsRow_below R5.out.2.1 (bl_al (Below.refl _ _) _)) (heap_alloc_new _ _) (by have := HM.out; have := R5.out.1; omega) (by decide) ?_; intro g6 n6 m6 w6 hm6 o6 t6 l6; have R6 := Lib.hid ((R5.out.below (bl_al (Below.refl _ _) _)).push hm6 (by rw [← hm6] at o6; unfold OwnP; rw [← hm6]; exact o6) t6); clear hm6 o6 t6 l6)
          rw [← LL.out]
          refine bodyPost_ret (v := .tuple #[.slice (some ⟨g6, 0, none⟩) m6 n6, .bool true]) (by simp [results, Try.results13, go_sem, gr_size]) rfl ⟨_, _, by rw [← R6.out.1], by rw [← R6.out.1]; exact ownsRow_low R6.out.2.1 BY.out.size, bl_tr BY.out R6.out.2.2⟩
        · have q0 : (1024 : Int) ≤ (xs.length : Int) := by omega
          have hD := DD.out
          simp only [Bool.true_and, hl, decide_false, if_false, Bool.false_eq_true] at hD
          have e1 := congrArg Prod.fst hD
          have e2 := congrArg Prod.snd hD
          dsimp only at e1 e2
          subst e1 e2
          clear DD hD hl
          go_wp2
          refine bodyPost_ret (v := .tuple #[.slice none 0 0, .bool false]) (by simp [results, Try.results13, go_sem, gr_size]) rfl ⟨_, _, rfl, own_nilE, BY.out⟩
  | some i =>
    have hi := find_lt hf
    have FD := Lib.hid (fun W (h : IsP W (.slice A xs.length cp) xs) => (show Calls Try.prog 27 #[.slice A xs.length cp, k.agg] W fun e w' => e = .returned (.int .i64 (i : Int)) ∧ Below W.heap.size W w' from by
      have := rfind_any _ xs k hm W h
      rwa [show findM xs k = i by unfold findM placeM; rw [hf]] at this))
    obtain ⟨p, ap, hp⟩ : ∃ p ap, applyR (pAt xs i) true ext k d = (p, ap) := ⟨_, _, rfl⟩
    have AP := Lib.hid (fun W => (show Calls Try.prog 39 #[(pAt xs i).agg, .bool true, .bool ext, k.agg, d.agg] W fun e w' => e = .returned (.tuple #[p.agg, .bool ap]) ∧ Below W.heap.size W w' from by
      have := rapply_any (pAt xs i) k d W hn ha (hp0 _ (List.mem_of_getElem? (pAt_lt hi))) true ext
      rwa [hp] at this))
    have PX := Lib.hid (fun W (h : IsP W (.slice A xs.length cp) xs) => IsP.at13 h (pAt_lt hi))
    rw [hf] at hD
    simp only [hp] at hD
    have DD := Lib.hid hD
    generalize pAt xs i = x at *
    have q0 : (i : Int) < (xs.length : Int) := by omega
    have q1 : ¬ (i : Int) < 0 := by omega
    have HM := Lib.hid (And.intro hi hm)
    obtain ⟨b0, o0, c0, e0, -⟩ := PX.out _ HV.out
    simp only [Value.slice.injEq] at e0
    obtain ⟨rfl, -, -⟩ := e0
    clear hv hm hf hL hp hD hn ha hp0 hi
    go_enter Try.func13, Try.ntmps13
    go_upto_region 2 with (go_at_call 27; refine (callGr (FD.out _ (HV.out.below (by (repeat (with_reducible first | exact Below.refl _ _ | (refine bl_set ?_ (by first | omega | (simp; done) | (simp; omega)) _) | refine bl_gr ?_ _ | refine bl_al ?_ _ | refine below_setRow ?_ (by first | omega | (simp; done) | (simp; omega)) _ | refine bl_drewN ?_ _ | refine Below.drew ?_ | (refine bl_tr ?_ (by assumption)))))))).mono ?_; rintro e w' ⟨pp, rfl, rfl⟩)
    refine wp_world4 (fun X => X.heap[w.heap.size]? = some (keyO k) ∧ X.heap[w.heap.size + 1]? = some (dscO d) ∧ Below w.heap.size w X) ⟨((below_gr _ _).block _ (by simp; omega)).trans ((heap_alloc_old _ _ (by simp)).trans (heap_alloc_new _ _)), ((below_gr _ _).block _ (by simp)).trans (heap_new (by simp)), by (repeat (with_reducible first | exact Below.refl _ _ | (refine bl_set ?_ (by first | omega | (simp; done) | (simp; omega)) _) | refine bl_gr ?_ _ | refine bl_al ?_ _ | refine below_setRow ?_ (by first | omega | (simp; done) | (simp; omega)) _ | refine bl_drewN ?_ _ | refine Below.drew ?_ | (refine bl_tr ?_ (by assumption))))⟩ ?_
    rintro X ⟨j0, j1, jb⟩
    have BX := Lib.hid jb
    have VX := Lib.hid (HV.out.below jb)
    obtain ⟨b1, o1, c1, e1, lb, -, y0, y1, y2, y3, y4, y5, y6, y7, y8, y9, y10, y11, y12⟩ := PX.out _ (HV.out.below jb)
    simp only [Value.slice.injEq, Option.some.injEq, Addr.mk.injEq, true_and, and_true] at e1
    obtain ⟨⟨rfl, rfl⟩, -⟩ := e1
    obtain ⟨⟨k0, k1, k2⟩, _⟩ := cells3k j0
    obtain ⟨⟨d0, d1, d2, d3, d4, d5, d6, d7, d8, d9, d10⟩, _⟩ := cells11 j1
    have l0 := (Array.getElem?_eq_some_iff.1 j0).1
    have l1 := (Array.getElem?_eq_some_iff.1 j1).1
    have lbn : ∀ u, b0 < X.heap.size + u := fun u => Nat.lt_of_lt_of_le lb (Nat.le_add_right _ _)
    have l0n : ∀ u, w.heap.size < X.heap.size + u := fun u => Nat.lt_of_lt_of_le l0 (Nat.le_add_right _ _)
    have l1n : ∀ u, w.heap.size + 1 < X.heap.size + u := fun u => Nat.lt_of_lt_of_le l1 (Nat.le_add_right _ _)
    clear j0 j1 jb PX
    go_upto_region 5 with fail
    go_cut [12, 13] (fun pt o Y => ∃ B, pt = .pointer (some ⟨B, 0, none⟩) ∧ o = .bool ap ∧ Y.heap[B]? = some (prpO p) ∧ Below X.heap.size X Y)
    case first =>
      go_wp2_with (go_at_call 39; refine (callGr (AP.out _)).mono ?_; rintro e w' ⟨pp, rfl, rfl⟩)
      go_meet
      exact ⟨_, rfl, rfl, heap_new (by simp [gr_size]), by (repeat (with_reducible first | exact Below.refl _ _ | (refine bl_set ?_ (by first | omega | (simp; done) | (simp; omega)) _) | refine bl_gr ?_ _ | refine bl_al ?_ _ | refine below_setRow ?_ (by first | omega | (simp; done) | (simp; omega)) _ | refine bl_drewN ?_ _ | refine Below.drew ?_ | (refine bl_tr ?_ (by assumption))))⟩
    case rest =>
      obtain ⟨B, rfl, rfl, hB, bY⟩ := hcut
      obtain ⟨⟨x0, x1, x2, x3, x4, x5, x6, x7, x8, x9, x10, x11, x12⟩, _⟩ := cells13 hB
      have lB := (Array.getElem?_eq_some_iff.1 hB).1
      have HB := Lib.hid (fun Z (h : Below wc.heap.size wc Z) => (h.block _ lB).trans hB)
      have BY := Lib.hid (bl_tr BX.out bY)
      have VY := Lib.hid (VX.out.below bY)
      clear hB bY k0 k1 k2 d0 d1 d2 d3 d4 d5 d6 d7 d8 d9 d10 y0 y1 y2 y3 y4 y5 y6 y7 y8 y9 y10 y11 y12
      cases ap
      · have hD := DD.out
        simp only [Bool.false_eq_true, if_false] at hD
        have e1 := congrArg Prod.fst hD
        have e2 := congrArg Prod.snd hD
        clear hD
        dsimp only at e1 e2
        subst e1 e2
        clear DD
        go_wp2
        refine bodyPost_ret (v := .tuple #[.slice none 0 0, .bool false]) (by simp [results, Try.results13, go_sem, gr_size]) rfl ⟨_, _, rfl, own_nilE, BY.out⟩
      · have hD := DD.out
        simp only [if_true] at hD
        have e1 := congrArg Prod.fst hD
        have e2 := congrArg Prod.snd hD
        clear hD
        dsimp only at e1 e2
        subst e2
        have LL := Lib.hid e1
        clear DD e1
        go_upto_region 11 with (at_builtin; refine wpList_appG elem_prp rfl _ _ rfl wc.heap.size [] xs (yv := .slice (some ⟨wc.heap.size, 0, none⟩) 0 0) (sv := .slice (some ⟨b0, o0, none⟩) xs.length cp) rfl rfl (own_empty (heap_alloc_new _ _) (Nat.le_refl _)) (by simp) (VY.out.below (bl_al (Below.refl _ _) _)) (by have := HM.out; simp; omega) (by have := HM.out; simp; omega) ?_; intro A5 n5 w5 o5 g5; obtain ⟨g, rfl, -⟩ := own_form o5 (by have := HM.out; simp; omega); obtain ⟨m5, hm5⟩ : ∃ m5, m5 = (([] : List Prp) ++ xs).length := ⟨_, rfl⟩; rw [← hm5]; have B5 := Lib.hid (show Below wc.heap.size wc w5 from grown_lo (bl_al (Below.refl _ _) _) g5 (by intro g hg; simp [Value.ownBlock] at hg; omega)); have R5 := Lib.hid (show RowP w g m5 n5 xs w5 from ⟨hm5, ownsRow_low (by rw [hm5]; exact o5) BY.out.size, Nat.le_trans BY.out.size (own_lo o5 g rfl), bl_tr BY.out B5.out⟩); clear hm5 o5 g5)
        obtain ⟨⟨z0, z1, z2, z3, z4, z5, z6, z7, z8, z9, z10, z11, z12⟩, _⟩ := cells13 (HB.out _ B5.out)
        have fz := R5.out.fz
        have lg := R5.out.lt
        have RP := Lib.hid (R5.out.put HM.out.1 p)
        have r1 : (i : Int) < (m5 : Int) := by have := R5.out.1; have := HM.out.1; omega
        obtain ⟨r0, r1', r2, r3, r4, r5, r6, r7, r8, r9, r10, r11, r12⟩ := R5.out.at_ HM.out.1
        go_wp2
        rw [← LL.out]
        refine bodyPost_ret (v := .tuple #[.slice (some ⟨g, 0, none⟩) m5 n5, .bool true]) (by simp [results, Try.results13, go_sem, gr_size]) rfl ⟨_, _, by rw [← RP.out.1], by rw [← RP.out.1]; exact RP.out.2.1, RP.out.2.2.2⟩
end Go.Proofs.Ytippimonpdeioaa
namespace Go.Proofs.Ytippimonpdeioaa
set_option linter.all false
open Go.ChangeShapes Go.WideShapes Go.ChangeAt Go.RowKit Go.Sort Go.Deep

/-- keys in enumeration order come back -/
def RetK (w : World) (xs : List Prp) : Ending → World → Prop := fun e w' => ∃ u, e = .returned u ∧ ∃ L, StS ((xs.map (·.k)).filter keyM) L ∧ RowKy w' w.heap.size u L ∧ Below w.heap.size w w'
/-- behind j rounds the row ys -/
def RowKI (w : World) (ys : List Val) (B : Option Addr) (m n : Nat) (wr : World) : Prop := m = ys.length ∧ RowKy wr w.heap.size (.slice B m n) ys ∧ Below w.heap.size w wr
theorem RowKI.push {w X w' : World} {ys : List Val} {B : Option Addr} {m n g n5 m5 : Nat} {y : Val} (h : RowKI w ys B m n X) (hm : m5 = (ys ++ [y]).length) (ho : RowKy w' w.heap.size (.slice (some ⟨g, 0, none⟩) m5 n5) (ys ++ [y]))
    (ht : Touch (fun k => Value.ownBlock (.slice B m n) = some k) X w') : RowKI w (ys ++ [y]) (some ⟨g, 0, none⟩) m5 n5 w' :=
  ⟨hm, ho, h.2.2.trans (ht.below h.2.2.size fun k hk => own_lo h.2.1 k hk)⟩
theorem RowKI.below {w X w' : World} {ys : List Val} {B : Option Addr} {m n : Nat} (h : RowKI w ys B m n X) (hb : Below X.heap.size X w') : RowKI w ys B m n w' := ⟨h.1, ownsRow_below h.2.1 hb, bl_tr h.2.2 hb⟩

set_option maxRecDepth 100000 in
set_option maxHeartbeats 8000000 in
theorem keys_any (v : Value) (xs : List Prp) (hok : ∀ x ∈ xs, x.k.ok) (hm : xs.length ≤ 3000) (w : World) (hv : IsP w v xs) : Calls Try.prog 25 #[v] w (RetK w xs) := by
  obtain ⟨A, cp, rfl, _, _⟩ := hv.form
  have H := Lib.hid hv
  have HM := Lib.hid hm
  have KO := Lib.hid (fun u W (h : SlOf W 3 Val.cs u (xs.map (·.k))) => keysOrder_any u (xs.map (·.k)) (fun x hx => by obtain ⟨y, hy, rfl⟩ := List.mem_map.1 hx; exact (hok y hy).2.2) (by simpa using hm) W h)
  clear hv hm hok
  go_enter Try.func25, Try.ntmps25
  go_wp2
  go_loopw [3, 8] (fun o i wr => ∃ (j : Nat) (B : Option Addr) (m n : Nat), i = .int .i64 j ∧ o = .slice B m n ∧ Hid (j ≤ xs.length ∧ RowKI w ((xs.take j).map (·.k)) B m n wr)) (fun _ i _ => xs.length - (intOf i).toNat)
  case atStart => exact ⟨0, none, 0, 0, rfl, rfl, Lib.hid ⟨Nat.zero_le _, rfl, own_nilE, Below.refl _ _⟩⟩
  case round =>
    obtain ⟨j, B, m, n, rfl, rfl, HI⟩ := hrel
    by_cases hlt : j < xs.length
    · have q0 : (j : Int) < (xs.length : Int) := by omega
      have q1 : ¬ (j : Int) < 0 := by omega
      obtain ⟨b, off, cap', e1, lb, -, h0, h1, h2, h3, h4, h5, h6, h7, h8, h9, h10, h11, h12⟩ := IsP.at13 (H.out.below HI.out.2.2.2) (pAt_lt hlt)
      simp only [Value.slice.injEq] at e1
      obtain ⟨rfl, _, rfl⟩ := e1
      obtain ⟨jp, hjp, ek1⟩ : ∃ jp : Nat, jp = j + 1 ∧ wrap64 ((j : Int) + 1) = (jp : Int) := ⟨j + 1, rfl, w64 rfl (by have := HM.out; omega)⟩
      have KP := Lib.hid (And.intro hjp hlt)
      have HS := Lib.hid (show (xs.take (j + 1)).map (·.k) = (xs.take j).map (·.k) ++ [(pAt xs j).k] by rw [List.take_add_one, pAt_lt hlt]; simp)
      have LY := Lib.hid (show ((xs.take j).map (·.k)).length ≤ 3000 by have := HM.out; simp; omega)
      clear hlt hjp
      generalize pAt xs j = x at *
      generalize (xs.take j).map (·.k) = ys at *
      go_upto_region 5 with fail
      refine wp_world4 (fun X => X.heap[wr.heap.size]? = some (prpO x) ∧ Below wr.heap.size wr X) ⟨heap_alloc_new _ _, by (repeat (with_reducible first | exact Below.refl _ _ | (refine bl_set ?_ (by first | omega | (simp; done) | (simp; omega)) _) | refine bl_gr ?_ _ | refine bl_al ?_ _ | refine below_setRow ?_ (by first | omega | (simp; done) | (simp; omega)) _ | refine bl_drewN ?_ _ | refine Below.drew ?_ | (refine bl_tr ?_ (by assumption))))⟩ ?_
      rintro X ⟨j0, jb⟩
      clear h0 h1 h2 h3 h4 h5 h6 h7 h8 h9 h10 h11 h12 lb
      obtain ⟨⟨x0, x1, x2, -⟩, _⟩ := cells13 j0
      have HX := Lib.hid (HI.out.2.below jb)
      have lX := (Array.getElem?_eq_some_iff.1 j0).1
      clear j0 jb
      go_wp2_with (at_builtin; refine wpList_pushG elem_key rfl _ _ rfl w.heap.size ys m (yv := .slice B m n) (S := X.heap.size) x.k rfl rfl (by have := HX.out.2.2.size; rw [World.size_alloc]; omega) HX.out.1 (ownsRow_below HX.out.2.1 (bl_al (Below.refl _ _) _)) (heap_alloc_new _ _) (by have := LY.out; have := HX.out.1; omega) (by decide) ?_; intro g5 n5 m5 w5 hm5 o5 t5 l5; have R5 := Lib.hid ((HX.out.below (bl_al (Below.refl _ _) _)).push hm5 o5 t5); clear hm5 o5 t5 l5)
      go_roundw
      case rel => exact ⟨jp, some ⟨g5, 0, none⟩, m5, n5, by first | with_reducible rfl | rw [ek1], rfl, Lib.hid ⟨by rw [KP.out.1]; exact KP.out.2, by rw [KP.out.1, HS.out]; exact R5.out⟩⟩
      case measure => ((try rw [ek1]); exact meas_n3 KP.out.1 KP.out.2)
    · have q0 : ¬ (j : Int) < (xs.length : Int) := by omega
      have RW := Lib.hid (show RowKI w (xs.map (·.k)) B m n wr from by
        have := HI.out.2
        rwa [List.take_of_length_le (by omega)] at this)
      have SL := Lib.hid (show SlOf wr 3 Val.cs (.slice B m n) (xs.map (·.k)) from ownsRow_slOf cs_len (RW.out.2.1))
      have KZ := Lib.hid (KO.out _ wr SL.out)
      clear hlt
      go_wp2_with (go_at_call 44; refine KZ.out.mono ?_; rintro e w3 ⟨u, rfl, L, k1, k2, k3⟩; have R3 := Lib.hid (And.intro k1 (And.intro k2 k3)); clear k1 k2 k3)
      go_ret
      exact ⟨u, rfl, L, R3.out.1, ownsRow_low R3.out.2.1 RW.out.2.2.size, bl_tr RW.out.2.2 R3.out.2.2⟩

/-- .. of the reference: the list need not be the call's own -/
def RetK' (w : World) (xs : List Prp) : Ending → World → Prop := fun e w' => ∃ u, e = .returned u ∧ ∃ L, StS ((xs.map (·.k)).filter keyM) L ∧ SlOf w' 3 Val.cs u L ∧ Below w.heap.size w w'
set_option maxRecDepth 100000 in
set_option maxHeartbeats 8000000 in
theorem rkeys_any (v : Value) (xs : List Prp) (hok : ∀ x ∈ xs, x.k.ok) (hm : xs.length ≤ 3000) (w : World) (hv : IsP w v xs) : Calls Try.prog 30 #[v] w (RetK' w xs) := by
  obtain ⟨A, cp, rfl, _, _⟩ := hv.form
  have H := Lib.hid hv
  have HM := Lib.hid hm
  have KO := Lib.hid (fun u W (h : SlOf W 3 Val.cs u (xs.map (·.k))) => rkeysOrder_any u (xs.map (·.k)) (fun x hx => by obtain ⟨y, hy, rfl⟩ := List.mem_map.1 hx; exact (hok y hy).2.2) (by simpa using hm) W h)
  clear hv hm hok
  go_enter Try.func30, Try.ntmps30
  go_wp2
  go_loopw [3, 4] (fun o i wr => ∃ (j : Nat) (B : Option Addr) (m n : Nat), i = .int .i64 j ∧ o = .slice B m n ∧ Hid (j ≤ xs.length ∧ RowKI w ((xs.take j).map (·.k)) B m n wr)) (fun _ i _ => xs.length - (intOf i).toNat)
  case atStart => exact ⟨0, some ⟨w.heap.size, 0, none⟩, 0, 0, rfl, rfl, Lib.hid ⟨Nat.zero_le _, rfl, own_empty (heap_alloc_new _ _) (Nat.le_refl _), by (repeat (with_reducible first | exact Below.refl _ _ | (refine bl_set ?_ (by first | omega | (simp; done) | (simp; omega)) _) | refine bl_gr ?_ _ | refine bl_al ?_ _ | refine below_setRow ?_ (by first | omega | (simp; done) | (simp; omega)) _ | refine bl_drewN ?_ _ | refine Below.drew ?_ | (refine bl_tr ?_ (by assumption))))⟩⟩
  case round =>
    obtain ⟨j, B, m, n, rfl, rfl, HI⟩ := hrel
    by_cases hlt : j < xs.length
    · have q0 : (j : Int) < (xs.length : Int) := by omega
      have q1 : ¬ (j : Int) < 0 := by omega
      obtain ⟨b, off, cap', e1, lb, -, h0, h1, h2, -⟩ := IsP.at13 (H.out.below HI.out.2.2.2) (pAt_lt hlt)
      simp only [Value.slice.injEq] at e1
      obtain ⟨rfl, _, rfl⟩ := e1
      obtain ⟨jp, hjp, ek1⟩ : ∃ jp : Nat, jp = j + 1 ∧ wrap64 ((j : Int) + 1) = (jp : Int) := ⟨j + 1, rfl, w64 rfl (by have := HM.out; omega)⟩
      have KP := Lib.hid (And.intro hjp hlt)
      have HS := Lib.hid (show (xs.take (j + 1)).map (·.k) = (xs.take j).map (·.k) ++ [(pAt xs j).k] by rw [List.take_add_one, pAt_lt hlt]; simp)
      have LY := Lib.hid (show ((xs.take j).map (·.k)).length ≤ 3000 by have := HM.out; simp; omega)
      clear hlt hjp
      generalize pAt xs j = x at *
      generalize (xs.take j).map (·.k) = ys at *
      have HX := Lib.hid HI.out.2
      go_wp2_with (at_builtin; refine wpList_pushG elem_key rfl _ _ rfl w.heap.size ys m (yv := .slice B m n) (S := wr.heap.size) x.k rfl rfl (by have := HX.out.2.2.size; rw [World.size_alloc]; omega) HX.out.1 (ownsRow_below HX.out.2.1 (bl_al (Below.refl _ _) _)) (heap_alloc_new _ _) (by have := LY.out; have := HX.out.1; omega) (by decide) ?_; intro g5 n5 m5 w5 hm5 o5 t5 l5; have R5 := Lib.hid ((HX.out.below (bl_al (Below.refl _ _) _)).push hm5 o5 t5); clear hm5 o5 t5 l5)
      go_roundw
      case rel => exact ⟨jp, some ⟨g5, 0, none⟩, m5, n5, by first | with_reducible rfl | rw [ek1], rfl, Lib.hid ⟨by rw [KP.out.1]; exact KP.out.2, by rw [KP.out.1, HS.out]; exact R5.out⟩⟩
      case measure => ((try rw [ek1]); exact meas_n3 KP.out.1 KP.out.2)
    · have q0 : ¬ (j : Int) < (xs.length : Int) := by omega
      have RW := Lib.hid (show RowKI w (xs.map (·.k)) B m n wr from by
        have := HI.out.2
        rwa [List.take_of_length_le (by omega)] at this)
      have SL := Lib.hid (show SlOf wr 3 Val.cs (.slice B m n) (xs.map (·.k)) from ownsRow_slOf cs_len (RW.out.2.1))
      have KZ := Lib.hid (KO.out _ wr SL.out)
      clear hlt
      go_wp2_with (go_at_call 46; refine KZ.out.mono ?_; rintro e w3 ⟨u, rfl, L, k1, k2, k3⟩; have R3 := Lib.hid (And.intro k1 (And.intro k2 k3)); clear k1 k2 k3)
      go_ret
      exact ⟨u, rfl, L, R3.out.1, R3.out.2.1, bl_tr RW.out.2.2 R3.out.2.2⟩
end Go.Proofs.Ytippimonpdeioaa
namespace Go.Proofs.Ytippimonpdeioaa
set_option linter.all false
open Go.RowKit Go.Sort

theorem wrap_toInt (x : BitVec 64) : IntKind.wrap .i64 (x.toNat : Int) = x.toInt := by
  rw [IntKind.wrap_i64, BitVec.toInt_eq_toNat_bmod]
  have := x.isLt
  rw [Int.bmod_def]
  split <;> omega
theorem bits_and (a m : Int) : bits .and .i64 a m = (BitVec.ofInt 64 a &&& BitVec.ofInt 64 m).toInt := wrap_toInt _
theorem bits_andNot (a m : Int) : bits .andNot .i64 a m = (BitVec.ofInt 64 a &&& ~~~(BitVec.ofInt 64 m)).toInt := wrap_toInt _
theorem toInt_zero {x : BitVec 64} : (x.toInt == 0) = (x == 0#64) := by
  rw [Bool.eq_iff_iff, beq_iff_eq, beq_iff_eq]
  constructor
  · intro h
    exact BitVec.toInt_inj.1 (h.trans (by rfl))
  · rintro rfl
    rfl
theorem ofInt_ok {a : Int} (h : i64ok a) : (BitVec.ofInt 64 a).toInt = a := by
  unfold i64ok at h
  rw [BitVec.toInt_ofInt, Int.bmod_def]
  split <;> omega
/-- the attributes as bits -/
def aX (a : Int) : BitVec 64 := BitVec.ofInt 64 a
theorem and_zero_of {x m k : BitVec 64} (h : m &&& k = 0#64) : x &&& m &&& k = 0#64 := by rw [BitVec.and_assoc, h, BitVec.and_zero]
theorem and_keep {x m k : BitVec 64} (h : m &&& k = k) : x &&& m &&& k = x &&& k := by rw [BitVec.and_assoc, h]
theorem and_all {x m k : BitVec 64} (h : k ||| m = BitVec.allOnes 64) (h0 : x &&& k = 0#64) : x &&& m = x := by
  apply BitVec.eq_of_getLsbD_eq
  intro i hi
  have e := congrArg (fun y => y.getLsbD i) h0
  have f := congrArg (fun y => y.getLsbD i) h
  simp only [BitVec.getLsbD_and, BitVec.getLsbD_zero, BitVec.getLsbD_or, BitVec.getLsbD_allOnes, hi, decide_true] at e f ⊢
  revert e f
  cases x.getLsbD i <;> cases k.getLsbD i <;> cases m.getLsbD i <;> simp

theorem hard_soft0 (a : Int) (h : i64ok a) : (bits .andNot .i64 a 4 = a) ↔ (bits .and .i64 a 4 == 0) = true := by
  rw [bits_and, bits_andNot, toInt_zero, beq_iff_eq]
  conv => lhs; rhs; rw [← ofInt_ok h]
  rw [BitVec.toInt_inj]
  generalize BitVec.ofInt 64 a = x
  constructor
  · intro e
    rw [← e]
    exact and_zero_of (by decide)
  · intro e
    exact and_all (by decide) e
theorem hard_8 (a : Int) : bits .and .i64 (bits .andNot .i64 a 4) 8 = bits .and .i64 a 8 := by
  rw [bits_and, bits_andNot, bits_and, BitVec.ofInt_toInt, and_keep (by decide)]
theorem hard_soft1 (a : Int) (h : i64ok a) : (bits .andNot .i64 (bits .andNot .i64 a 4) 1 = a) ↔ ((bits .and .i64 a 4 == 0) = true ∧ (bits .and .i64 a 1 == 0) = true) := by
  rw [bits_and, bits_and, bits_andNot, bits_andNot, toInt_zero, toInt_zero, beq_iff_eq, beq_iff_eq, BitVec.ofInt_toInt]
  conv => lhs; rhs; rw [← ofInt_ok h]
  rw [BitVec.toInt_inj]
  generalize BitVec.ofInt 64 a = x
  constructor
  · intro e
    constructor
    · rw [← e, BitVec.and_assoc, BitVec.and_assoc]
      rw [show (~~~BitVec.ofInt 64 4 &&& (~~~BitVec.ofInt 64 1 &&& BitVec.ofInt 64 4)) = 0#64 by decide, BitVec.and_zero]
    · rw [← e]
      exact and_zero_of (by decide)
  · rintro ⟨e1, e2⟩
    rw [and_all (by decide) e1, and_all (by decide) e2]
theorem hardA_soft (fr : Bool) (a : Int) (h : i64ok a) : (hardA fr a = a) ↔ (bits .and .i64 a 4 != 0 || (fr && bits .and .i64 a 8 == 0 && bits .and .i64 a 1 != 0)) = false := by
  unfold hardA
  rw [hard_8]
  cases fr
  · simpa using hard_soft0 a h
  · cases h8 : bits .and .i64 a 8 == 0
    · simpa using hard_soft0 a h
    · have := hard_soft1 a h
      simpa using this
theorem hardP_soft (fr : Bool) (p : Prp) (h : i64ok p.a) : (hardP fr p = p) ↔ softM fr p = false := by
  rw [softM, ← hardA_soft fr p.a h]
  obtain ⟨k, a, v, g, t⟩ := p
  simp [hardP]
theorem soft_hard (fr : Bool) (p : Prp) : softM fr (hardP fr p) = false := by
  unfold softM hardP hardA
  simp only [hard_8]
  have e40 : (bits .and .i64 (bits .andNot .i64 p.a 4) 4 == 0) = true := by
    rw [bits_and, bits_andNot, toInt_zero, BitVec.ofInt_toInt, beq_iff_eq]
    exact and_zero_of (by decide)
  cases fr
  · simp only [Bool.false_and, Bool.false_eq_true, if_false, bne, e40]
    rfl
  · cases h8 : bits .and .i64 p.a 8 == 0
    · simp only [Bool.and_false, Bool.false_and, if_false, Bool.false_eq_true]
      have e4 : (bits .and .i64 (bits .andNot .i64 p.a 4) 4 == 0) = true := by
        rw [bits_and, bits_andNot, toInt_zero, BitVec.ofInt_toInt, beq_iff_eq]
        exact and_zero_of (by decide)
      have e8 : (bits .and .i64 (bits .andNot .i64 p.a 4) 8 == 0) = false := by rw [hard_8, h8]
      simp only [bne, e4, Bool.not_true, Bool.false_or, Bool.true_and]
      rw [e8]
      rfl
    · simp only [Bool.and_true, Bool.true_and, if_true]
      have e4 : (bits .and .i64 (bits .andNot .i64 (bits .andNot .i64 p.a 4) 1) 4 == 0) = true := by
        rw [bits_and, bits_andNot, bits_andNot, toInt_zero, BitVec.ofInt_toInt, BitVec.ofInt_toInt, beq_iff_eq, BitVec.and_assoc, BitVec.and_assoc]
        rw [show (~~~BitVec.ofInt 64 4 &&& (~~~BitVec.ofInt 64 1 &&& BitVec.ofInt 64 4)) = 0#64 by decide, BitVec.and_zero]
      have e1 : (bits .and .i64 (bits .andNot .i64 (bits .andNot .i64 p.a 4) 1) 1 == 0) = true := by
        rw [bits_and, bits_andNot, toInt_zero, BitVec.ofInt_toInt, beq_iff_eq]
        exact and_zero_of (by decide)
      simp [bne, e4, e1]
/-- the two IsHards agree -/
theorem isHard_eq {xs : List Prp} (hok : ∀ x ∈ xs, i64ok x.a) (fr : Bool) : decide (placeM (softM fr) xs < 0) = decide (hardM xs fr = xs) := by
  rw [decide_eq_decide]
  unfold placeM hardM
  cases hf : xs.findIdx? (softM fr) with
  | none =>
    simp only [List.findIdx?_eq_none_iff] at hf
    refine ⟨fun _ => ?_, fun _ => by simp⟩
    have : xs.map (hardP fr) = xs.map id := List.map_congr_left fun x hx => (hardP_soft fr x (hok x hx)).2 (by simpa using hf x hx)
    rw [this, List.map_id]
  | some i =>
    simp only [List.findIdx?_eq_some_iff_getElem] at hf
    obtain ⟨hi, h1, _⟩ := hf
    refine ⟨fun h => by simp only at h; omega, fun h => ?_⟩
    have e : (xs.map (hardP fr))[i]? = xs[i]? := by rw [h]
    rw [List.getElem?_map, List.getElem?_eq_getElem hi] at e
    have e := Option.some.inj e
    have := (hardP_soft fr _ (hok _ (List.getElem_mem hi))).1 e
    rw [this] at h1
    cases h1
theorem place_hard (xs : List Prp) (fr : Bool) : placeM (softM fr) (hardM xs fr) = -1 := placeM_no fun y hy => by
  obtain ⟨x, _, rfl⟩ := List.mem_map.1 hy
  exact soft_hard fr x
theorem hard_bit (fr : Bool) (p : Prp) : (bits .and .i64 (hardP fr p).a 4 == 0) = true := by
  have := soft_hard fr p
  unfold softM at this
  simp only [Bool.or_eq_false_iff, bne, Bool.not_eq_false'] at this
  exact this.1
/-- a hard list gives nothing up -/
theorem del_hard {xs : List Prp} {fr : Bool} {i : Nat} (hi : i < xs.length) : ∃ j, (hardM xs fr).findIdx? (fun q => q.k.eq (pAt xs i).k) = some j ∧ (bits .and .i64 (pAt (hardM xs fr) j).a 4 == 0) = true := by
  cases hf : (hardM xs fr).findIdx? (fun q => q.k.eq (pAt xs i).k) with
  | none =>
    simp only [List.findIdx?_eq_none_iff] at hf
    have := hf (hardP fr (pAt xs i)) (List.mem_map.2 ⟨_, List.mem_of_getElem? (pAt_lt hi), rfl⟩)
    simp [hardP, Val.eq_self] at this
  | some j =>
    refine ⟨j, rfl, ?_⟩
    simp only [List.findIdx?_eq_some_iff_getElem] at hf
    obtain ⟨hj, _, _⟩ := hf
    have hj' : j < xs.length := by simpa [hardM] using hj
    have : pAt (hardM xs fr) j = hardP fr (pAt xs j) := by simp [pAt, hardM, hj']
    rw [this]
    exact hard_bit fr _
end Go.Proofs.Ytippimonpdeioaa
namespace Go.Proofs.Ytippimonpdeioaa
set_option linter.all false
open Go.ChangeShapes Go.WideShapes Go.ChangeAt Go.RowKit Go.Sort Go.Deep

abbrev valD (n : Int) : Dsc := ⟨51, 7, ⟨3, n, ⟨#[]⟩⟩, .zero, .zero⟩
set_option maxRecDepth 100000 in
set_option maxHeartbeats 4000000 in
theorem value_any (n : Int) (w : World) : Calls Try.prog 17 #[.int .i64 n] w fun e w' => e = .returned (valD n).agg ∧ Below w.heap.size w w' := by
  go_enter Try.func17, Try.ntmps17
  go_wp2
  refine bodyPost_ret (v := (valD n).agg) (by simp [results, Try.results17, go_sem]) rfl ⟨rfl, by (repeat (with_reducible first | exact Below.refl _ _ | (refine bl_set ?_ (by first | omega | (simp; done) | (simp; omega)) _) | refine bl_gr ?_ _ | refine bl_al ?_ _ | refine below_setRow ?_ (by first | omega | (simp; done) | (simp; omega)) _ | refine bl_drewN ?_ _ | refine Below.drew ?_ | (refine bl_tr ?_ (by assumption))))⟩

def fewB (n : Nat) : Bool := decide (n ≤ 150) || (decide (1024 ≤ n) && decide (n < 1100))
set_option maxRecDepth 100000 in
set_option maxHeartbeats 4000000 in
theorem few_any (v : Value) (xs : List Prp) (w : World) (hv : IsP w v xs) : Calls Try.prog 8 #[v] w fun e w' => e = .returned (.bool (fewB xs.length)) ∧ Below w.heap.size w w' := by
  obtain ⟨A, cp, rfl, _, hm⟩ := hv.form
  clear hv
  generalize xs.length = n at *
  unfold maxLen at hm
  by_cases h1 : n ≤ 150
  · have q1 : (n : Int) ≤ 150 := by omega
    have RS := Lib.hid (show fewB n = true by simp [fewB, h1])
    clear h1 hm
    go_enter Try.func8, Try.ntmps8
    go_wp2
    all_goals go_ret
    all_goals exact ⟨ret_bool (by rw [RS.out]), by (repeat (with_reducible first | exact Below.refl _ _ | (refine bl_set ?_ (by first | omega | (simp; done) | (simp; omega)) _) | refine bl_gr ?_ _ | refine bl_al ?_ _ | refine below_setRow ?_ (by first | omega | (simp; done) | (simp; omega)) _ | refine bl_drewN ?_ _ | refine Below.drew ?_ | (refine bl_tr ?_ (by assumption))))⟩
  · have q1 : ¬ (n : Int) ≤ 150 := by omega
    by_cases h2 : 1024 ≤ n
    · have q2 : (1024 : Int) ≤ (n : Int) := by omega
      by_cases h3 : n < 1100
      · have q3 : (n : Int) < 1100 := by omega
        have RS := Lib.hid (show fewB n = true by simp [fewB, h2, h3])
        clear h1 h2 h3 hm
        go_enter Try.func8, Try.ntmps8
        go_wp2
        all_goals go_ret
        all_goals exact ⟨ret_bool (by rw [RS.out]), by (repeat (with_reducible first | exact Below.refl _ _ | (refine bl_set ?_ (by first | omega | (simp; done) | (simp; omega)) _) | refine bl_gr ?_ _ | refine bl_al ?_ _ | refine below_setRow ?_ (by first | omega | (simp; done) | (simp; omega)) _ | refine bl_drewN ?_ _ | refine Below.drew ?_ | (refine bl_tr ?_ (by assumption))))⟩
      · have q3 : ¬ (n : Int) < 1100 := by omega
        have RS := Lib.hid (show fewB n = false by simp [fewB, h1, h3])
        clear h1 h2 h3 hm
        go_enter Try.func8, Try.ntmps8
        go_wp2
        all_goals go_ret
        all_goals exact ⟨ret_bool (by rw [RS.out]), by (repeat (with_reducible first | exact Below.refl _ _ | (refine bl_set ?_ (by first | omega | (simp; done) | (simp; omega)) _) | refine bl_gr ?_ _ | refine bl_al ?_ _ | refine below_setRow ?_ (by first | omega | (simp; done) | (simp; omega)) _ | refine bl_drewN ?_ _ | refine Below.drew ?_ | (refine bl_tr ?_ (by assumption))))⟩
    · have q2 : ¬ (1024 : Int) ≤ (n : Int) := by omega
      have RS := Lib.hid (show fewB n = false by simp [fewB, h1, h2])
      clear h1 h2 hm
      go_enter Try.func8, Try.ntmps8
      go_wp2
      all_goals go_ret
      all_goals exact ⟨ret_bool (by rw [RS.out]), by (repeat (with_reducible first | exact Below.refl _ _ | (refine bl_set ?_ (by first | omega | (simp; done) | (simp; omega)) _) | refine bl_gr ?_ _ | refine bl_al ?_ _ | refine below_setRow ?_ (by first | omega | (simp; done) | (simp; omega)) _ | refine bl_drewN ?_ _ | refine Below.drew ?_ | (refine bl_tr ?_ (by assumption))))⟩

abbrev badP : Prp := ⟨.zero, -7, .zero, .zero, .zero⟩
/-- a row of the call's own is overwritten: nothing else is -/
def RetT (w0 W : World) (v : Value) : Ending → World → Prop := fun e w' => e = .returned (.tuple #[]) ∧ Below w0.heap.size w0 w' ∧ Touch (fun k => v.ownBlock = some k) W w'
theorem own_formT {w : World} {lo m n : Nat} {A : Option Addr} {xs : List Prp} (h : OwnP w lo (.slice A m n) xs) (hi : 0 < xs.length) : ∃ g, A = some ⟨g, 0, none⟩ ∧ m = xs.length := by
  rcases h.2 with ⟨e, h0⟩ | ⟨g, cap, cur, e, _⟩
  · have := h0
    omega
  · simp only [Value.slice.injEq] at e
    exact ⟨g, e.1, e.2.1⟩
/-- the whole row has been owned since w0; of what W held only it has been touched -/
def TchP (w0 W0 : World) (g n cap : Nat) (k : Nat) (W : World) : Prop := (∃ ys, ys.length = k ∧ RowP w0 g n cap ys W) ∧ Touch (fun b => b = g) W0 W
set_option maxRecDepth 100000 in
set_option maxHeartbeats 8000000 in
theorem touched_any (w0 W : World) (A : Option Addr) (n cap : Nat) (xs : List Prp) (hm : xs.length ≤ 3000) (hn : n = xs.length) (ho : OwnP W w0.heap.size (.slice A n cap) xs) (hB : Below w0.heap.size w0 W) :
    Calls Try.prog 15 #[.slice A n cap] W (RetT w0 W (.slice A n cap)) := by
  by_cases h0 : 0 < n
  · obtain ⟨g, rfl, -⟩ := own_formT ho (by omega)
    have R0 := Lib.hid (show TchP w0 W g n cap n W from ⟨⟨xs, hn.symm, hn, ho, own_lo ho g rfl, hB⟩, Touch.refl _ _⟩)
    have HM := Lib.hid (show n ≤ 3000 by omega)
    clear hm hn ho hB h0
    go_enter Try.func15, Try.ntmps15
    go_wp2
    go_loopw [5] (fun i wr => ∃ j : Nat, i = .int .i64 j ∧ Hid (j ≤ n ∧ TchP w0 W g n cap n wr)) (fun i _ => n - (intOf i).toNat)
    case atStart => exact ⟨0, rfl, Lib.hid ⟨Nat.zero_le _, R0.out⟩⟩
    case round =>
      obtain ⟨j, rfl, HI⟩ := hrel
      by_cases hlt : j < n
      · have q0 : (j : Int) < (n : Int) := by omega
        have q1 : ¬ (j : Int) < 0 := by omega
        obtain ⟨hj, ⟨ys, hy, hR⟩, hT⟩ := HI.out
        have hjy : j < ys.length := by omega
        have lg := hR.lt
        obtain ⟨r0, r1, r2, r3, r4, r5, r6, r7, r8, r9, r10, r11, r12⟩ := hR.at_ hjy
        have fz := hR.fz
        have NX := Lib.hid (show TchP w0 W g n cap n (at13s wr g (j * 13) badP) from ⟨⟨ys.set j badP, by simpa using hy, hR.put hjy badP⟩, (((((((((((((hT.set1 _ _).set1 _ _).set1 _ _).set1 _ _).set1 _ _).set1 _ _).set1 _ _).set1 _ _).set1 _ _).set1 _ _).set1 _ _).set1 _ _).set1 _ _)⟩)
        obtain ⟨jp, hjp, ek1⟩ : ∃ jp : Nat, jp = j + 1 ∧ wrap64 ((j : Int) + 1) = (jp : Int) := ⟨j + 1, rfl, w64 rfl (by have := HM.out; omega)⟩
        have KP := Lib.hid (And.intro hjp hlt)
        clear hjp hlt hjy hR hT hy hj
        go_wp2
        go_roundw
        case rel => exact ⟨jp, by first | with_reducible rfl | rw [ek1], Lib.hid ⟨by rw [KP.out.1]; exact KP.out.2, NX.out⟩⟩
        case measure => ((try rw [ek1]); exact meas_n3 KP.out.1 KP.out.2)
      · have q0 : ¬ (j : Int) < (n : Int) := by omega
        have FX := Lib.hid HI.out.2
        clear hlt
        go_wp2
        go_end0
        obtain ⟨⟨ys, _, hR⟩, hT⟩ := FX.out
        exact ⟨rfl, hR.2.2.2, hT.mono fun k _ e => by rw [e]; rfl⟩
  · have e0 : n = 0 := by omega
    subst e0
    have BB := Lib.hid hB
    clear hm hn ho hB h0
    go_enter Try.func15, Try.ntmps15
    go_wp2
    go_loopw [5] (fun i wr => i = .int .i64 0 ∧ wr = W) (fun i _ => 0)
    case atStart => exact ⟨rfl, rfl⟩
    case round =>
      obtain ⟨rfl, rfl⟩ := hrel
      go_wp2
      go_end0
      exact ⟨rfl, BB.out, Touch.refl _ _⟩
end Go.Proofs.Ytippimonpdeioaa
