/- verify.Reaches: what its closure does to the marks and the list. -/
import Derived.Test.YtcmpgohpncnagaaWyA
import Derived.Test.YtcmpgohpncnagaaDpt
namespace Go.Proofs.Ytcmpgohpncnagaa
set_option linter.all false
open Go.ChangeShapes Go.WideShapes Go.ChangeAt Go.RowKit Go.Sort Go.Deep Go.Shelf

theorem info_int : ∃ i, Try.prog.info? 3 = some i ∧ i.zero = some (.int .i64 0) ∧ i.size = 1 ∧ i.bytes = 8 := by
  have h : (Try.prog.info? 3).map (fun i => (i.zero, i.size, i.bytes)) = some (some (.int .i64 0), 1, 8) := by kernel_rfl
  obtain ⟨i, hi, hzz⟩ := Option.map_eq_some_iff.1 h
  simp only [Prod.mk.injEq] at hzz
  exact ⟨i, hi, hzz.1, hzz.2.1, hzz.2.2⟩
abbrev enN (x : Nat) : List Value := [.int .i64 (x : Int)]
/-- v is a row of numbers of the call's own -/
abbrev OwnI (w : World) (v : Value) (xs : List Nat) : Prop := w.ownsRow 0 3 1 v xs.length (flat enN xs)
/-- a number appended -/
theorem wpList_appI {w : World} {ops : Array Oper} {rest : List Oper} {o : Oper} {a : Act} {Q : Exit → Act → World → Prop} (hgd : o.guard = none) (s x : Operand)
    (ho : o.op = .call { callee := .builtin .append, args := #[s, x], argTypes := #[32, 32] }) (ys : List Nat) (t : Nat) {yv : Value} {B : Nat} (hs : a.eval s = yv) (hx : a.eval x = .slice (some ⟨B, 0, none⟩) 1 1)
    (hown : OwnI w yv ys) (hB : w.heap[B]? = some (.cells #[.int .i64 (t : Int)] 3)) (hf : ys.length ≤ 1000000)
    (h : ∀ g cap w', OwnI w' (.slice (some ⟨g, 0, none⟩) (ys ++ [t]).length cap) (ys ++ [t]) → w.grownBy w' yv.ownBlock → (yv.ownBlock = some g ∨ g = w.heap.size) → wpList Try.prog ops Q rest (a.put o.dst (.slice (some ⟨g, 0, none⟩) (ys ++ [t]).length cap)) w') : wpList Try.prog ops Q (o :: rest) a w := by
  obtain ⟨i, hi, hz, hsz, hby⟩ := info_int
  refine wpList_append_lies w hgd s x 32 ho 0 3 i (.int .i64 0) 1 8 Try.underlying32 hi hz hsz hby rfl (by omega) yv ys.length (flat enN ys) hs hown ⟨B, 0, none⟩ 1 1 [.int .i64 (t : Int)] hx rfl (fun j u hu => ?_) (fun u hu => by rw [List.mem_singleton.1 hu]; rfl) (by omega) (by unfold maxLen; omega) (by omega) (Nat.zero_le _) _ rfl fun g cap w' h1 h2 h3 _ => ?_
  · rw [add_off, Nat.zero_add, cell_of_row w B _ _ _ _ hB]
    simpa using hu
  · have e : flat enN (ys ++ [t]) = flat enN ys ++ [.int .i64 (t : Int)] := by unfold flat; rw [List.flatMap_append]; rfl
    have := h g cap w' (by unfold OwnI; rw [e, List.length_append]; exact h1) h2 h3
    rw [List.length_append] at this
    exact this
/-- the block of an owned row of numbers -/
theorem own_cells {w : World} {g m cap : Nat} {xs : List Nat} (h : OwnI w (.slice (some ⟨g, 0, none⟩) m cap) xs) : ∃ cur, w.heap[g]? = some (.cells cur 3) ∧ m = xs.length ∧ ∀ (i x : Nat), xs[i]? = some x → w.cell? ⟨g, i, none⟩ = some (.int .i64 (x : Int)) := by
  rcases h.2 with ⟨h0, _⟩ | ⟨g', cap', cur, e, hb, hg, hc, hm, hs, ht⟩
  · cases h0
  · simp only [Value.slice.injEq, Option.some.injEq, Addr.mk.injEq, true_and, and_true] at e
    obtain ⟨rfl, rfl, rfl⟩ := e
    refine ⟨cur, hg, rfl, fun i x hx => ?_⟩
    have := h.cells (g := g) rfl i (.int .i64 (x : Int)) (by have := flat_at (en := enN) (n := 1) (fun _ => rfl) xs i x 0 (.int .i64 (x : Int)) hx rfl; simpa using this)
    rw [add_off, Nat.zero_add] at this
    exact this

theorem cells_ne {w : World} {b : Nat} {x y : Array Value} {T U : TypeId} (h : w.heap[b]? = some (.cells x T)) (k : w.heap[b]? = some (.cells y U)) (hT : T ≠ U) : False := by
  rw [h] at k
  simp only [Option.some.injEq, Obj.cells.injEq] at k
  exact hT k.2.1
/-- marks and list of Reaches, as they stand -/
structure StR (n b3 bo b4 g0 sz : Nat) (s : List Bool × List Nat) (W : World) : Prop where
  hd : W.heap[b3]? = some (.cells #[.slice (some ⟨bo, 0, none⟩) n n] 30)
  ob : W.heap[bo]? = some (.cells (s.1.map Value.bool).toArray 4)
  ls : ∃ g cap, W.heap[b4]? = some (.cells #[.slice (some ⟨g, 0, none⟩) s.2.length cap] 32) ∧ OwnI W (.slice (some ⟨g, 0, none⟩) s.2.length cap) s.2 ∧ (g = g0 ∨ sz ≤ g)
  len : s.1.length = n
  cnt : s.2.length + cf s.1 ≤ n
  hn : n ≤ 65536
  lt : b3 < sz ∧ bo < sz ∧ b4 < sz
  sz : sz ≤ W.heap.size
def KR (bo b4 g0 sz : Nat) (k : Nat) : Prop := k < sz ∧ k ≠ bo ∧ k ≠ b4 ∧ k ≠ g0
theorem StR.below {n b3 bo b4 g0 sz : Nat} {s : List Bool × List Nat} {W W' : World} (h : StR n b3 bo b4 g0 sz s W) (hb : Below W.heap.size W W') : StR n b3 bo b4 g0 sz s W' := by
  obtain ⟨h1, h2, ⟨g, cap, h3, h4, h5⟩, h6, h7, h8, h9, h10⟩ := h
  exact ⟨(hb.block _ (Array.getElem?_eq_some_iff.1 h1).1).trans h1, (hb.block _ (Array.getElem?_eq_some_iff.1 h2).1).trans h2, ⟨g, cap, (hb.block _ (Array.getElem?_eq_some_iff.1 h3).1).trans h3, ownsRow_below h4 hb, h5⟩, h6, h7, h8, h9, Nat.le_trans h10 hb.size⟩

theorem own_put {W : World} {g m cap bo t : Nat} {v : Value} {o : Obj} {xs : List Nat} (h : OwnI W (.slice (some ⟨g, 0, none⟩) m cap) xs) (hn : g ≠ bo) : OwnI ((W.setCell ⟨bo, t, none⟩ v).alloc o) (.slice (some ⟨g, 0, none⟩) m cap) xs :=
  ownsRow_below (ownsRow_touch h ((Touch.refl (fun k => k = bo) W).set1 t v) fun g' hg e => hn (by simp only [Value.ownBlock, Option.some.injEq] at hg; omega)) (bl_al (Below.refl _ _) _)
theorem hp_put (W : World) (bo t : Nat) (v : Value) (o : Obj) : ((W.setCell ⟨bo, t, none⟩ v).alloc o).heap[W.heap.size]? = some o := by
  have := heap_alloc_new (W.setCell ⟨bo, t, none⟩ v) o
  rwa [World.size_setCell] at this
theorem hp_far {W w5 : World} {bo t g k : Nat} {v : Value} {o : Obj} (h : ((W.setCell ⟨bo, t, none⟩ v).alloc o).grownBy w5 (some g)) (hk : k < W.heap.size) (h1 : k ≠ bo) (h2 : k ≠ g) : w5.heap[k]? = W.heap[k]? := by
  rw [h.block k (by simp; omega) (by simp; omega), heap_alloc_old _ _ (by simpa using hk)]
  exact heap_setCell_other W _ k v (fun e => h1 e)
theorem hp_near {W w5 : World} {bo t g : Nat} {v : Value} {o : Obj} {cur : Array Value} {T : TypeId} (h : ((W.setCell ⟨bo, t, none⟩ v).alloc o).grownBy w5 (some g)) (hb : W.heap[bo]? = some (.cells cur T)) (h2 : bo ≠ g) : w5.heap[bo]? = some (.cells (cur.setIfInBounds t v) T) := by
  have hk := (Array.getElem?_eq_some_iff.1 hb).1
  rw [h.block bo (by simp; omega) (by simp; omega), heap_alloc_old _ _ (by simpa using hk)]
  exact heap_setCell_same W bo t cur T v hb
theorem push_any {n b3 bo b4 g0 sz t g cap g' cap' m : Nat} {o : List Bool} {l : List Nat} {W w5 : World} {cur : Array Value} {x : Obj} (hS : StR n b3 bo b4 g0 sz (o, l) W)
    (HH : W.heap[b3]? = some (.cells #[.slice (some ⟨bo, 0, none⟩) n n] 30) ∧ W.heap[bo]? = some (.cells (o.map Value.bool).toArray 4) ∧ W.heap[b4]? = some (.cells #[.slice (some ⟨g, 0, none⟩) l.length cap] 32) ∧ W.heap[g]? = some (.cells cur 3))
    (NN : b3 ≠ bo ∧ b4 ≠ bo ∧ b4 ≠ b3 ∧ g ≠ bo ∧ g ≠ b3 ∧ g ≠ b4) (hcf : cf (o.set t true) + 1 = cf o) (hg : g = g0 ∨ sz ≤ g)
    (o5 : OwnI w5 (.slice (some ⟨g', 0, none⟩) m cap') (l ++ [t])) (g5 : ((W.setCell ⟨bo, t, none⟩ (.bool true)).alloc x).grownBy w5 (Value.ownBlock (.slice (some ⟨g, 0, none⟩) l.length cap)))
    (d5 : Value.ownBlock (.slice (some ⟨g, 0, none⟩) l.length cap) = some g' ∨ g' = ((W.setCell ⟨bo, t, none⟩ (.bool true)).alloc x).heap.size) (hm : m = (l ++ [t]).length) :
    StR n b3 bo b4 g0 sz (o.set t true, l ++ [t]) (w5.setCell ⟨b4, 0, none⟩ (.slice (some ⟨g', 0, none⟩) m cap')) ∧ Kp (KR bo b4 g0 sz) W (w5.setCell ⟨b4, 0, none⟩ (.slice (some ⟨g', 0, none⟩) m cap')) := by
  obtain ⟨hd, ob, lb, hgc⟩ := HH
  obtain ⟨n1, n2, n3, n4, n5, n6⟩ := NN
  have g5 : ((W.setCell ⟨bo, t, none⟩ (.bool true)).alloc x).grownBy w5 (some g) := g5
  have d5 : g = g' ∨ g' = W.heap.size + 1 := d5.imp (fun e => by simpa [Value.ownBlock] using e) (fun e => by simpa using e)
  subst hm
  have lt3 := (Array.getElem?_eq_some_iff.1 hd).1
  have lto := (Array.getElem?_eq_some_iff.1 ob).1
  have lt4 := (Array.getElem?_eq_some_iff.1 lb).1
  have k4 : w5.heap[b4]? = _ := (hp_far g5 lt4 n2 (fun e => n6 e.symm)).trans lb
  have ko := hp_near g5 ob (fun e => n4 e.symm)
  have hl := hS.len
  have hc := hS.cnt
  have hz := hS.sz
  dsimp only at hl hc
  have sz5 := g5.size
  simp only [World.size_alloc, World.size_setCell] at sz5
  have far : ∀ k, k < W.heap.size → k ≠ bo → k ≠ b4 → k ≠ g → (w5.setCell ⟨b4, 0, none⟩ (.slice (some ⟨g', 0, none⟩) (l ++ [t]).length cap')).heap[k]? = W.heap[k]? := fun k hk h1 h2 h3 => by
    rw [heap_setCell_other w5 _ k _ h2]
    exact hp_far g5 hk h1 h3
  refine ⟨⟨(far b3 lt3 n1 (fun e => n3 e.symm) (fun e => n5 e.symm)).trans hd, ?_, ⟨g', cap', heap_setCell_same w5 b4 0 _ _ _ k4, ?_, ?_⟩, by simpa using hl, ?_, hS.hn, hS.lt, ?_⟩, ⟨?_, ?_, ?_, ?_, fun k oo hk hkk => ?_⟩⟩
  · rw [heap_setCell_other w5 _ bo _ (fun e => n2 e.symm), ko]
    congr 2
    simp [List.map_set]
  · exact ownsRow_touch o5 ((Touch.refl (fun k => k = b4) w5).set1 0 _) fun g'' hg'' e => by
      simp only [Value.ownBlock, Option.some.injEq] at hg''
      rcases d5 with d5 | d5 <;> omega
  · rcases d5 with d5 | d5
    · rw [← d5]
      exact hg
    · right
      omega
  · simp only [List.length_append, List.length_singleton]
    omega
  · simp only [World.size_setCell]
    omega
  · exact g5.os
  · exact g5.tape
  · exact g5.output
  · simp only [World.size_setCell]
    omega
  · have hlt := (Array.getElem?_eq_some_iff.1 hk).1
    have h1 : k ≠ bo := fun e => by
      subst e
      rcases hkk with ⟨_, h, _⟩ | h
      · exact h rfl
      · rw [ob] at hk
        cases hk
        cases h
    have h2 : k ≠ b4 := fun e => by
      subst e
      rcases hkk with ⟨_, _, h, _⟩ | h
      · exact h rfl
      · rw [lb] at hk
        cases hk
        cases h
    have h3 : k ≠ g := fun e => by
      subst e
      rcases hkk with ⟨h0, _, _, h⟩ | h
      · rcases hg with hg | hg
        · exact h hg
        · omega
      · rw [hgc] at hk
        cases hk
        cases h
    rw [far k hlt h1 h2 h3]
    exact hk
set_option maxRecDepth 100000 in
set_option maxHeartbeats 8000000 in
theorem reaches1_any (n b3 bo b4 g0 sz : Nat) (s : List Bool × List Nat) (t : Nat) (ht : t < n) (W : World) (hS : StR n b3 bo b4 g0 sz s W) :
    Calls Try.prog 21 #[.int .i64 (t : Int), .pointer (some ⟨b3, 0, none⟩), .pointer (some ⟨b4, 0, none⟩)] W fun e W' => e = .returned (.tuple #[]) ∧ StR n b3 bo b4 g0 sz (vis s t) W' ∧ Kp (KR bo b4 g0 sz) W W' := by
  obtain ⟨o, l⟩ := s
  have HS := Lib.hid hS
  obtain ⟨hd, ob, ⟨g, cap, lb, hown, hg⟩, hlen, hcnt, hn, ⟨z1, z2, z3⟩, hsz⟩ := hS
  dsimp only at hlen hcnt hown lb ob
  obtain ⟨cur, hgc, -, -⟩ := own_cells hown
  have ht' : t < o.length := by omega
  obtain ⟨v, hv⟩ : ∃ v, o[t]? = some v := ⟨_, List.getElem?_eq_getElem ht'⟩
  have n1 : b3 ≠ bo := fun e => by subst e; exact cells_ne hd ob (by decide)
  have n2 : b4 ≠ bo := fun e => by subst e; exact cells_ne lb ob (by decide)
  have n3 : b4 ≠ b3 := fun e => by subst e; exact cells_ne lb hd (by decide)
  have n4 : g ≠ bo := fun e => by subst e; exact cells_ne hgc ob (by decide)
  have n5 : g ≠ b3 := fun e => by subst e; exact cells_ne hgc hd (by decide)
  have n6 : g ≠ b4 := fun e => by subst e; exact cells_ne hgc lb (by decide)
  have c3 : W.cell? ⟨b3, 0, none⟩ = some (.slice (some ⟨bo, 0, none⟩) n n) := by rw [cell_of_row W b3 _ _ _ _ hd]; rfl
  have c4 : W.cell? ⟨b4, 0, none⟩ = some (.slice (some ⟨g, 0, none⟩) l.length cap) := by rw [cell_of_row W b4 _ _ _ _ lb]; rfl
  have co : W.cell? ⟨bo, t, none⟩ = some (.bool v) := by rw [cell_of_row W bo _ _ _ _ ob]; simp [hv]
  have f4 := frozen_of_row W b4 0 _ _ lb
  have fo := frozen_of_row W bo t _ _ ob
  have q0 : (t : Int) < (n : Int) := by omega
  have q1 : ¬ (t : Int) < 0 := by omega
  cases v
  · have hvs : vis (o, l) t = (o.set t true, l ++ [t]) := by unfold vis; dsimp only; rw [List.getD_eq_getElem?_getD, hv]; rfl
    have hcf := cf_set hv
    have LL := Lib.hid (show l.length ≤ 1000000 by omega)
    have NN := Lib.hid (And.intro n1 (And.intro n2 (And.intro n3 (And.intro n4 (And.intro n5 n6)))))
    have OW := Lib.hid hown
    have VV := Lib.hid hvs
    have HH := Lib.hid (And.intro hd (And.intro ob (And.intro lb hgc)))
    have PP := Lib.hid (And.intro hlen (And.intro hcnt (And.intro hn (And.intro hcf (And.intro hsz hg)))))
    have m1 : bo < W.heap.size := (Array.getElem?_eq_some_iff.1 ob).1
    have m2 : b4 < W.heap.size := (Array.getElem?_eq_some_iff.1 lb).1
    have m3 : g < W.heap.size := (Array.getElem?_eq_some_iff.1 hgc).1
    clear hd ob lb hgc hown hlen hcnt hn hsz hg hvs hcf hv ht ht' n4 n5 n6
    go_enter Try.func21, Try.ntmps21
    go_wp2_with (at_builtin; go_loud (refine wpList_appI rfl _ _ rfl l t (yv := .slice (some ⟨g, 0, none⟩) l.length cap) (B := W.heap.size) rfl rfl (own_put OW.out NN.out.2.2.2.1) (hp_put _ _ _ _ _) LL.out ?_; intro g' cap' w5 o5 g5 d5; obtain ⟨m, hm⟩ : ∃ m, m = (l ++ [t]).length := ⟨_, rfl⟩; rw [← hm] at o5 ⊢; have M5 := Lib.hid hm; have G5 := Lib.hid (And.intro o5 (And.intro g5 d5)); have k4 : w5.heap[b4]? = _ := (hp_far g5 m2 NN.out.2.1 NN.out.2.2.2.2.2.symm).trans HH.out.2.2.1; have f5 := frozen_of_row w5 b4 0 _ _ k4; have l5 := (Array.getElem?_eq_some_iff.1 k4).1; have c5 : w5.cell? ⟨b4, 0, none⟩ = some (.slice (some ⟨g, 0, none⟩) l.length cap) := (by rw [cell_of_row w5 b4 _ _ _ _ k4]; rfl); have K4 := Lib.hid k4; clear hm o5 g5 d5 k4))
    go_end0
    exact ⟨rfl, by rw [VV.out]; exact push_any HS.out HH.out NN.out PP.out.2.2.2.1 PP.out.2.2.2.2.2 G5.out.1 G5.out.2.1 G5.out.2.2 M5.out⟩
  · have hvs : vis (o, l) t = (o, l) := by unfold vis; dsimp only; rw [List.getD_eq_getElem?_getD, hv]; rfl
    have VV := Lib.hid hvs
    clear hd ob lb hown hgc hlen hcnt hn hsz hg hvs hv ht ht'
    go_enter Try.func21, Try.ntmps21
    go_wp2
    go_end0
    exact ⟨rfl, by rw [VV.out]; exact HS.out, Kp.refl _ _⟩
end Go.Proofs.Ytcmpgohpncnagaa
