/- verify.Deep: what its closures do to the depths, the list and the flag. -/
import Derived.Test.YtcmpgohpncnagaaWyD
namespace Go.Proofs.Ytcmpgohpncnagaa
set_option linter.all false
open Go.ChangeShapes Go.WideShapes Go.ChangeAt Go.RowKit Go.Sort Go.Deep Go.Shelf

def vI (v : Int) : Value := .int .i64 v
/-- depths, list and flag of Deep, as they stand -/
structure StD (n b4 bo b6 b7 g0 sz : Nat) (s : LS) (W : World) : Prop where
  hd : W.heap[b4]? = some (.cells #[.slice (some ⟨bo, 0, none⟩) n n] 32)
  ob : W.heap[bo]? = some (.cells (s.o.map vI).toArray 3)
  ls : ∃ g cap, W.heap[b6]? = some (.cells #[.slice (some ⟨g, 0, none⟩) s.l.length cap] 32) ∧ OwnI W (.slice (some ⟨g, 0, none⟩) s.l.length cap) s.l ∧ (g = g0 ∨ sz ≤ g) ∧ g ≠ bo
  tw : W.heap[b7]? = some (.cells #[.bool s.two] 4)
  len : s.o.length = n
  cnt : s.l.length + cn s.o ≤ n
  hn : n ≤ 65536
  lt : b4 < sz ∧ bo < sz ∧ b6 < sz ∧ b7 < sz ∧ b4 ≠ b6
  sz : sz ≤ W.heap.size
def KD (bo b6 b7 g0 sz : Nat) (k : Nat) : Prop := k < sz ∧ k ≠ bo ∧ k ≠ b6 ∧ k ≠ b7 ∧ k ≠ g0
theorem StD.below {n b4 bo b6 b7 g0 sz : Nat} {s : LS} {W W' : World} (h : StD n b4 bo b6 b7 g0 sz s W) (hb : Below W.heap.size W W') : StD n b4 bo b6 b7 g0 sz s W' := by
  obtain ⟨h1, h2, ⟨g, cap, h3, h4, h5, h5b⟩, h6, h7, h8, h9, h10, h11⟩ := h
  exact ⟨(hb.block _ (Array.getElem?_eq_some_iff.1 h1).1).trans h1, (hb.block _ (Array.getElem?_eq_some_iff.1 h2).1).trans h2, ⟨g, cap, (hb.block _ (Array.getElem?_eq_some_iff.1 h3).1).trans h3, ownsRow_below h4 hb, h5, h5b⟩, (hb.block _ (Array.getElem?_eq_some_iff.1 h6).1).trans h6, h7, h8, h9, h10, Nat.le_trans h11 hb.size⟩
/-- the flag is laid anew -/
theorem StD.flag {n b4 bo b6 b7 g0 sz : Nat} {o : List Int} {l : List Nat} {two : Bool} {W : World} (h : StD n b4 bo b6 b7 g0 sz ⟨o, l, two⟩ W) (u : Bool) :
    StD n b4 bo b6 b7 g0 sz ⟨o, l, u⟩ (W.setCell ⟨b7, 0, none⟩ (.bool u)) ∧ Kp (KD bo b6 b7 g0 sz) W (W.setCell ⟨b7, 0, none⟩ (.bool u)) := by
  obtain ⟨hd, ob, ⟨g, cap, lb, own, hg, hgb⟩, tw, h7, h8, h9, h10, h11⟩ := h
  obtain ⟨cur, hgc, -, -⟩ := own_cells own
  dsimp only at *
  have n1 : b4 ≠ b7 := fun e => by subst e; exact cells_ne hd tw (by decide)
  have n2 : bo ≠ b7 := fun e => by subst e; exact cells_ne ob tw (by decide)
  have n3 : b6 ≠ b7 := fun e => by subst e; exact cells_ne lb tw (by decide)
  have n4 : g ≠ b7 := fun e => by subst e; exact cells_ne hgc tw (by decide)
  have far : ∀ k, k ≠ b7 → (W.setCell ⟨b7, 0, none⟩ (.bool u)).heap[k]? = W.heap[k]? := fun k h => heap_setCell_other W _ k _ h
  refine ⟨⟨(far _ n1).trans hd, (far _ n2).trans ob, ⟨g, cap, (far _ n3).trans lb, ?_, hg, hgb⟩, heap_setCell_same W b7 0 _ _ _ tw, h7, h8, h9, h10, by simpa using h11⟩, ⟨rfl, rfl, rfl, by simp, fun k oo hk hkk => ?_⟩⟩
  · exact ownsRow_touch own ((Touch.refl (fun k => k = b7) W).set1 0 _) fun g'' hg'' e => by
      simp only [Value.ownBlock, Option.some.injEq] at hg''
      omega
  · have h1 : k ≠ b7 := fun e => by
      subst e
      rcases hkk with ⟨_, _, _, h, _⟩ | h
      · exact h rfl
      · rw [tw] at hk
        cases hk
        cases h
    rw [far k h1]
    exact hk
theorem pushD_any {n b4 bo b6 b7 g0 sz t g cap g' cap' m : Nat} {o : List Int} {l : List Nat} {two : Bool} {d u : Int} {W w5 : World} {cur : Array Value} {x : Obj} (hS : StD n b4 bo b6 b7 g0 sz ⟨o, l, two⟩ W)
    (HH : W.heap[b6]? = some (.cells #[.slice (some ⟨g, 0, none⟩) l.length cap] 32) ∧ W.heap[g]? = some (.cells cur 3)) (hgb : g ≠ bo) (hv : o[t]? = some u) (hu : u < 0) (hdd : 0 ≤ d) (hg : g = g0 ∨ sz ≤ g)
    (o5 : OwnI w5 (.slice (some ⟨g', 0, none⟩) m cap') (l ++ [t])) (g5 : ((W.setCell ⟨bo, t, none⟩ (vI d)).alloc x).grownBy w5 (Value.ownBlock (.slice (some ⟨g, 0, none⟩) l.length cap)))
    (d5 : Value.ownBlock (.slice (some ⟨g, 0, none⟩) l.length cap) = some g' ∨ g' = ((W.setCell ⟨bo, t, none⟩ (vI d)).alloc x).heap.size) (hm : m = (l ++ [t]).length) :
    StD n b4 bo b6 b7 g0 sz ⟨o.set t d, l ++ [t], two⟩ (w5.setCell ⟨b6, 0, none⟩ (.slice (some ⟨g', 0, none⟩) m cap')) ∧ Kp (KD bo b6 b7 g0 sz) W (w5.setCell ⟨b6, 0, none⟩ (.slice (some ⟨g', 0, none⟩) m cap')) := by
  obtain ⟨lb, hgc⟩ := HH
  have hcf := cn_set hv hu hdd
  obtain ⟨hd, ob, -, tw, hl, hc, hn, ⟨z1, z2, z3, z4, n46⟩, hz⟩ := hS
  dsimp only at *
  have n1 : b4 ≠ bo := fun e => by subst e; exact cells_ne hd ob (by decide)
  have n2 : b6 ≠ bo := fun e => by subst e; exact cells_ne lb ob (by decide)
  have n3 : b7 ≠ bo := fun e => by subst e; exact cells_ne tw ob (by decide)
  have n5 : g ≠ b4 := fun e => by subst e; exact cells_ne hgc hd (by decide)
  have n6 : g ≠ b6 := fun e => by subst e; exact cells_ne hgc lb (by decide)
  have n7 : g ≠ b7 := fun e => by subst e; exact cells_ne hgc tw (by decide)
  have n8 : b7 ≠ b6 := fun e => by subst e; exact cells_ne tw lb (by decide)
  have g5 : ((W.setCell ⟨bo, t, none⟩ (vI d)).alloc x).grownBy w5 (some g) := g5
  have d5 : g = g' ∨ g' = W.heap.size + 1 := d5.imp (fun e => by simpa [Value.ownBlock] using e) (fun e => by simpa using e)
  subst hm
  have lt3 := (Array.getElem?_eq_some_iff.1 hd).1
  have lto := (Array.getElem?_eq_some_iff.1 ob).1
  have lt4 := (Array.getElem?_eq_some_iff.1 lb).1
  have lt7 := (Array.getElem?_eq_some_iff.1 tw).1
  have k4 : w5.heap[b6]? = _ := (hp_far g5 lt4 n2 (fun e => n6 e.symm)).trans lb
  have ko := hp_near g5 ob (fun e => hgb e.symm)
  have sz5 := g5.size
  simp only [World.size_alloc, World.size_setCell] at sz5
  have far : ∀ k, k < W.heap.size → k ≠ bo → k ≠ b6 → k ≠ g → (w5.setCell ⟨b6, 0, none⟩ (.slice (some ⟨g', 0, none⟩) (l ++ [t]).length cap')).heap[k]? = W.heap[k]? := fun k hk h1 h2 h3 => by
    rw [heap_setCell_other w5 _ k _ h2]
    exact hp_far g5 hk h1 h3
  refine ⟨⟨(far b4 lt3 n1 n46 (fun e => n5 e.symm)).trans hd, ?_, ⟨g', cap', heap_setCell_same w5 b6 0 _ _ _ k4, ?_, ?_, ?_⟩, (far b7 lt7 n3 n8 (fun e => n7 e.symm)).trans tw, by simpa using hl, ?_, hn, ⟨z1, z2, z3, z4, n46⟩, ?_⟩, ⟨?_, ?_, ?_, ?_, fun k oo hk hkk => ?_⟩⟩
  · rw [heap_setCell_other w5 _ bo _ (fun e => n2 e.symm), ko]
    congr 2
    simp [List.map_set]
  · exact ownsRow_touch o5 ((Touch.refl (fun k => k = b6) w5).set1 0 _) fun g'' hg'' e => by
      simp only [Value.ownBlock, Option.some.injEq] at hg''
      rcases d5 with d5 | d5 <;> omega
  · rcases d5 with d5 | d5
    · rw [← d5]
      exact hg
    · right
      omega
  · rcases d5 with d5 | d5 <;> omega
  · simp only [List.length_append, List.length_singleton]
    omega
  · simp only [World.size_setCell]
    omega
  · exact g5.os
  · exact g5.tape
  · exact g5.output
  · simp only [World.size_setCell]
    omega
  · have hlt := (Array.getElem?_eq_some_iff.1 hk).1
    have h1 : k ≠ bo := fun e => by
      subst e
      rcases hkk with ⟨_, h, _⟩ | h
      · exact h rfl
      · rw [ob] at hk
        cases hk
        cases h
    have h2 : k ≠ b6 := fun e => by
      subst e
      rcases hkk with ⟨_, _, h, _⟩ | h
      · exact h rfl
      · rw [lb] at hk
        cases hk
        cases h
    have h3 : k ≠ g := fun e => by
      subst e
      rcases hkk with ⟨h0, _, _, _, h⟩ | h
      · rcases hg with hg | hg
        · exact h hg
        · omega
      · rw [hgc] at hk
        cases hk
        cases h
    rw [far k hlt h1 h2 h3]
    exact hk

set_option maxRecDepth 100000 in
set_option maxHeartbeats 8000000 in
theorem deep1_any (n b4 bo b6 b7 g0 sz : Nat) (s : LS) (t : Nat) (d : Int) (hdd : 0 ≤ d) (ht : t < n) (W : World) (hS : StD n b4 bo b6 b7 g0 sz s W) :
    Calls Try.prog 25 #[.int .i64 (t : Int), .int .i64 d, .pointer (some ⟨b4, 0, none⟩), .pointer (some ⟨b6, 0, none⟩), .pointer (some ⟨b7, 0, none⟩)] W fun e W' => e = .returned (.tuple #[]) ∧ StD n b4 bo b6 b7 g0 sz (lay s t d) W' ∧ Kp (KD bo b6 b7 g0 sz) W W' := by
  obtain ⟨o, l, two⟩ := s
  have HS := Lib.hid hS
  obtain ⟨hd, ob, ⟨g, cap, lb, hown, hg, hgb⟩, tw, hlen, hcnt, hn, -, -⟩ := hS
  dsimp only at hlen hcnt hown lb ob tw
  obtain ⟨cur, hgc, -, -⟩ := own_cells hown
  have ht' : t < o.length := by omega
  obtain ⟨u, hv⟩ : ∃ u, o[t]? = some u := ⟨_, List.getElem?_eq_getElem ht'⟩
  have hgd : o.getD t 0 = u := by rw [List.getD_eq_getElem?_getD, hv]; rfl
  have n2 : b6 ≠ bo := fun e => by subst e; exact cells_ne lb ob (by decide)
  have n6 : g ≠ b6 := fun e => by subst e; exact cells_ne hgc lb (by decide)
  have c3 : W.cell? ⟨b4, 0, none⟩ = some (.slice (some ⟨bo, 0, none⟩) n n) := by rw [cell_of_row W b4 _ _ _ _ hd]; rfl
  have c4 : W.cell? ⟨b6, 0, none⟩ = some (.slice (some ⟨g, 0, none⟩) l.length cap) := by rw [cell_of_row W b6 _ _ _ _ lb]; rfl
  have co : W.cell? ⟨bo, t, none⟩ = some (.int .i64 u) := by rw [cell_of_row W bo _ _ _ _ ob]; simp [hv, vI]
  have f4 := frozen_of_row W b6 0 _ _ lb
  have fo := frozen_of_row W bo t _ _ ob
  have q0 : (t : Int) < (n : Int) := by omega
  have q1 : ¬ (t : Int) < 0 := by omega
  have m1 : bo < W.heap.size := (Array.getElem?_eq_some_iff.1 ob).1
  have m2 : b6 < W.heap.size := (Array.getElem?_eq_some_iff.1 lb).1
  have m3 : g < W.heap.size := (Array.getElem?_eq_some_iff.1 hgc).1
  by_cases hu : u < 0
  · have LY := Lib.hid (show lay ⟨o, l, two⟩ t d = ⟨o.set t d, l ++ [t], two || (d != d)⟩ by unfold lay; dsimp only; rw [hgd, if_pos hu]; simp)
    have LL := Lib.hid (show l.length ≤ 1000000 by omega)
    have NN := Lib.hid (And.intro n2 (And.intro n6 hgb))
    have OW := Lib.hid hown
    have HH := Lib.hid (And.intro lb hgc)
    have PP := Lib.hid (And.intro hv (And.intro hu hg))
    have VO := Lib.hid (show (o.set t d)[t]? = some d by rw [List.getElem?_set, if_pos rfl, if_pos ht'])
    have DD := Lib.hid hdd
    clear hdd hd ob lb hgc hown hlen hcnt hn hg hv ht ht' n6 hgb tw hgd
    go_enter Try.func25, Try.ntmps25
    go_upto_region 3 with (at_builtin; go_loud (refine wpList_appI rfl _ _ rfl l t (yv := .slice (some ⟨g, 0, none⟩) l.length cap) (B := W.heap.size) rfl rfl (own_put OW.out NN.out.2.2) (hp_put _ _ _ _ _) LL.out ?_; intro g' cap' w5 o5 g5 d5; obtain ⟨m, hm⟩ : ∃ m, m = (l ++ [t]).length := ⟨_, rfl⟩; rw [← hm] at o5 ⊢; have M5 := Lib.hid hm; have G5 := Lib.hid (And.intro o5 (And.intro g5 d5)); have k4 : w5.heap[b6]? = _ := (hp_far g5 m2 NN.out.1 NN.out.2.1.symm).trans HH.out.1; have f5 := frozen_of_row w5 b6 0 _ _ k4; have l5 := (Array.getElem?_eq_some_iff.1 k4).1; have c5 : w5.cell? ⟨b6, 0, none⟩ = some (.slice (some ⟨g, 0, none⟩) l.length cap) := (by rw [cell_of_row w5 b6 _ _ _ _ k4]; rfl); clear hm o5 g5 d5 k4))
    refine wpc_world (fun Z => StD n b4 bo b6 b7 g0 sz ⟨o.set t d, l ++ [t], two⟩ Z ∧ Kp (KD bo b6 b7 g0 sz) W Z) (pushD_any HS.out HH.out NN.out.2.2 PP.out.1 PP.out.2.1 DD.out PP.out.2.2 G5.out.1 G5.out.2.1 G5.out.2.2 M5.out) ?_
    clear c3 c4 co f4 fo m1 m2 m3 hu l5 c5 f5 G5 M5
    intro Z hZ
    have ZZ := Lib.hid hZ
    obtain ⟨⟨hd, ob, -, tw, -, -, -, -, -⟩, -⟩ := hZ
    dsimp only at ob tw
    have c3 : Z.cell? ⟨b4, 0, none⟩ = some (.slice (some ⟨bo, 0, none⟩) n n) := by rw [cell_of_row Z b4 _ _ _ _ hd]; rfl
    have co : Z.cell? ⟨bo, t, none⟩ = some (.int .i64 d) := by rw [cell_of_row Z bo _ _ _ _ ob, List.getElem?_toArray, List.getElem?_map, VO.out]; rfl
    have c7 : Z.cell? ⟨b7, 0, none⟩ = some (.bool two) := by rw [cell_of_row Z b7 _ _ _ _ tw]; rfl
    have f7 := frozen_of_row Z b7 0 _ _ tw
    have m7 : b7 < Z.heap.size := (Array.getElem?_eq_some_iff.1 tw).1
    clear hd ob tw
    cases two
    all_goals
      go_wp2
      go_end0
      refine ⟨rfl, ?_⟩
      rw [LY.out]
      first | exact ⟨(ZZ.out.1.flag _).1, ZZ.out.2.trans (ZZ.out.1.flag _).2⟩ | (simp only [bne_self_eq_false, Bool.or_false]; exact ⟨(ZZ.out.1.flag _).1, ZZ.out.2.trans (ZZ.out.1.flag _).2⟩)
  · have LY := Lib.hid (show lay ⟨o, l, two⟩ t d = ⟨o, l, two || (u != d)⟩ by unfold lay; dsimp only; rw [hgd, if_neg hu])
    have c7 : W.cell? ⟨b7, 0, none⟩ = some (.bool two) := by rw [cell_of_row W b7 _ _ _ _ tw]; rfl
    have f7 := frozen_of_row W b7 0 _ _ tw
    have m7 : b7 < W.heap.size := (Array.getElem?_eq_some_iff.1 tw).1
    clear hd ob lb hown hgc hlen hcnt hn hg hv ht ht' hgb n2 n6 tw hgd
    cases two
    all_goals
      go_enter Try.func25, Try.ntmps25
      go_wp2
      go_end0
      refine ⟨rfl, ?_⟩
      rw [LY.out]
      exact HS.out.flag _
end Go.Proofs.Ytcmpgohpncnagaa
