/- tree.Copy: what a copy is; rows of nodes under way. -/
import Derived.Test.YtiagegecnopfgaaDoorPaD
import Derived.Test.YtiagegecnopfgaaDoorTwoU
import Derived.Deep.AppendLies
namespace Go.Proofs.YtiagegecnopfgaaDoor
set_option linter.all false
open Go.ChangeShapes Go.WideShapes Go.ChangeAt Go.RowKit Go.Sort Go.Deep

theorem elem_node : ElemOf NodeR NodeR.cs 22 24 6 72 (.agg #[.int .i64 0, .int .i64 0, .int .i64 0, .int .i64 0, .string ⟨#[]⟩, .slice none 0 0]) where
  len _ := rfl
  sl := Tryd.underlying22
  info := info_partsE (by kernel_rfl)
  zs := rfl
  pos := by decide
  bpos := by decide
/-- an append of one element as one step of a region that draws its order; where the new row lies -/
theorem step_app1 {α : Type} {en : α → List Value} {T E : TypeId} {size bytes : Nat} {z : Value} (el : ElemOf α en T E size bytes z) {ops : Array Oper} {o : Oper} {a : Act} {w : World} {K : Act → World → Prop} {Q : Exit → Act → World → Prop} {F : Prop} (lo : Nat)
    (hg : o.guard = none) (s x : Operand) (hop : o.op = Op.call { callee := Callee.builtin Builtin.append, args := #[s, x], argTypes := #[T, T] })
    (ys : List α) (y : α) {q : Nat} (hq : ys.length = q) {yv : Value} {b : Nat} (hs : a.eval s = yv) (hx : a.eval x = .slice (some ⟨b, 0, none⟩) 1 1) (hown : w.ownsRow lo E size yv q (flat en ys)) (hlo : lo ≤ w.heap.size) {B : TypeId} (hb : w.heap[b]? = some (.cells (en y).toArray B)) (h1 : ∀ u ∈ en y, u.oneCell' = true) (hm : q ≤ 1000000) (hbb : bytes ≤ 1000)
    (hK : ∀ g m n w', m = q + 1 → w'.ownsRow lo E size (.slice (some ⟨g, 0, none⟩) (q + 1) n) (q + 1) (flat en (ys ++ [y])) → w.grownBy w' yv.ownBlock → (yv.ownBlock = some g ∨ g = w.heap.size) → g < w'.heap.size → K (a.put o.dst (.slice (some ⟨g, 0, none⟩) m n)) w') :
    if Region.wanted o (yielded ops a.tmps) = true then Oper.wp Tryd.prog o a w K Q else F := by
  subst hq
  obtain ⟨i, hi, hz, hsz, hby⟩ := el.info
  refine step_append_lies w hg s x T hop lo E i z size bytes el.sl hi hz hsz hby el.zs el.pos yv ys.length (flat en ys) hs hown ⟨b, 0, none⟩ 1 1 (en y) hx (by rw [el.len]; omega) (fun j u hu => ?_) h1 (by decide) (by unfold maxLen; omega) (Nat.le_trans (Nat.mul_le_mul (show ys.length + 1 ≤ 1000001 by omega) hbb) (by decide)) hlo w.heap.size rfl ?_
  · rw [add_off, cell_of_row w b _ _ _ _ hb]
    simpa using hu
  · intro g cap w' h1 h2 h3 h4
    refine hK g _ cap w' rfl ?_ h2 h3 h4
    have e : flat en (ys ++ [y]) = flat en ys ++ en y := by unfold flat; rw [List.flatMap_append]; simp
    rw [e]
    exact h1
theorem setCell_comm (w : World) (a b : Addr) (u v : Value) (h : a.block ≠ b.block) : (w.setCell a u).setCell b v = (w.setCell b v).setCell a u := by
  unfold World.setCell
  simp only
  congr 1
  apply Array.ext
  · simp
  · intro i h1 h2
    simp only [Array.getElem_modify]
    by_cases e1 : a.block = i
    · have e2 : ¬ b.block = i := fun e => h (by rw [e1, e])
      simp [e1, e2]
    · by_cases e2 : b.block = i
      · simp [e1, e2]
      · simp [e1, e2]
/-- a place of a row of the call's own -/
theorem own_place {α : Type} {en : α → List Value} {E : TypeId} {size : Nat} {w : World} {lo g q n : Nat} {ys : List α} {y : α} (hq : ys.length = q) (hen : ∀ x, (en x).length = size) (h : w.ownsRow lo E size (.slice (some ⟨g, 0, none⟩) (q + 1) n) (q + 1) (flat en (ys ++ [y]))) :
    (∀ j u, (en y)[j]? = some u → w.cell? ⟨g, q * size + j, none⟩ = some u) ∧ ∀ j, w.frozen? ⟨g, j, none⟩ = false := by
  subst hq
  rcases h.2 with ⟨e, _⟩ | ⟨g', cap, cur, e, _, hg, hc, hm, hs, ht⟩
  · cases e
  · simp only [Value.slice.injEq, Option.some.injEq, Addr.mk.injEq, true_and, and_true] at e
    obtain ⟨rfl, rfl⟩ := e
    refine ⟨fun j u hu => ?_, fun j => frozen_of_row w g j _ _ hg⟩
    have hj : j < size := by
      have := (List.getElem?_eq_some_iff.1 hu).1
      rwa [hen] at this
    rw [cell_of_row w g _ _ _ _ hg]
    have h1 : (flat en (ys ++ [y]))[ys.length * size + j]? = some u := flat_at hen (ys ++ [y]) ys.length y j u (by simp) hu
    rw [← ht, List.getElem?_take] at h1
    split at h1
    · rw [← h1]
      simp
    · cases h1
theorem own_ltN {w : World} {lo : Nat} {E : TypeId} {size n : Nat} {v : Value} {xs : List Value} (h : w.ownsRow lo E size v n xs) : ∀ g, v.ownBlock = some g → lo ≤ g ∧ g < w.heap.size := by
  intro g hg
  rcases h.2 with ⟨rfl, _⟩ | ⟨g', cap, cur, rfl, hb, hg', _⟩
  · simp [Value.ownBlock] at hg
  · simp only [Value.ownBlock, Option.some.injEq] at hg
    subst hg
    exact ⟨hb, (Array.getElem?_eq_some_iff.1 hg').1⟩
theorem own_typeN {w : World} {lo : Nat} {E : TypeId} {size n : Nat} {v : Value} {xs : List Value} (h : w.ownsRow lo E size v n xs) : ∀ g, v.ownBlock = some g → ∃ cs, w.heap[g]? = some (.cells cs E) := by
  intro g hg
  rcases h.2 with ⟨rfl, _⟩ | ⟨g', cap, cur, rfl, hb, hg', _⟩
  · simp [Value.ownBlock] at hg
  · simp only [Value.ownBlock, Option.some.injEq] at hg
    subst hg
    exact ⟨cur, hg'⟩
/-- a block of nodes that is new -/
def FrN (lo : Nat) (X : World) (b : Nat) : Prop := lo ≤ b ∧ ∃ cs, X.heap[b]? = some (.cells cs 24)
theorem FrN.keep {lo : Nat} {X Y : World} {b : Nat} (h : FrN lo X b) (e : Y.heap[b]? = X.heap[b]?) : FrN lo Y b := ⟨h.1, by rw [e]; exact h.2⟩
def CopyRet (w : World) (t : Tree) (e : Ending) (w' : World) : Prop := ∃ A c, e = .returned (nodeV t (.slice A t.kids.length c)) ∧ IsNd (FrN w.heap.size w') w' (.slice A t.kids.length c) t.kids ∧ Below w.heap.size w w'
/-- copies of the first q kids in a row, whose block is not among theirs -/
def CpRow (lo : Nat) (l : List Tree) (A : Option Addr) (q cp : Nat) (X : World) : Prop := ∃ rs : List NodeR, rs.length = q ∧ X.ownsRow lo 24 6 (.slice A q cp) q (flat NodeR.cs rs) ∧
  ∀ (i : Nat) (x : NodeR) (t : Tree), rs[i]? = some x → l[i]? = some t → (x.op = t.op ∧ x.a = t.at_ ∧ x.n = t.n ∧ x.m = t.m ∧ x.s = t.s) ∧ IsNd (fun b => FrN lo X b ∧ ∀ g, (Value.slice A q cp).ownBlock = some g → g ≠ b) X x.k t.kids
theorem CpRow.start (lo : Nat) (l : List Tree) (X : World) : CpRow lo l none 0 0 X := ⟨[], rfl, ⟨by simp [flat], .inl ⟨rfl, rfl⟩⟩, fun i x t h => by simp at h⟩
theorem CpRow.step {lo : Nat} {l : List Tree} {A : Option Addr} {q cp : Nat} {X Y : World} (h : CpRow lo l A q cp X) (hb : Below X.heap.size X Y) : CpRow lo l A q cp Y := by
  obtain ⟨rs, h1, h2, h3⟩ := h
  refine ⟨rs, h1, ownsRow_below h2 hb, fun i x t hx ht => ⟨(h3 i x t hx ht).1, (h3 i x t hx ht).2.keep hb.size fun b hp hlt => ⟨hb.block b hlt, hp.1.keep (hb.block b hlt), hp.2⟩⟩⟩
/-- a store into a block that is not the row's and not the copies' -/
theorem CpRow.other {lo : Nat} {l : List Tree} {A : Option Addr} {q cp : Nat} {X : World} (h : CpRow lo l A q cp X) {b j : Nat} (hb : b < lo) (u : Value) : CpRow lo l A q cp (X.setCell ⟨b, j, none⟩ u) := by
  obtain ⟨rs, h1, h2, h3⟩ := h
  have hT : Touch (fun k => k = b) X (X.setCell ⟨b, j, none⟩ u) := (Touch.refl _ _).set1 _ _
  refine ⟨rs, h1, ownsRow_touch h2 hT (fun g hg e => by have := (own_ltN h2 g hg).1; omega), fun i x t hx ht => ⟨(h3 i x t hx ht).1, (h3 i x t hx ht).2.keep hT.size fun k hp hlt => ?_⟩⟩
  have e := hT.block k hlt (fun e => by have := hp.1.1; omega)
  exact ⟨e, hp.1.keep e, hp.2⟩
/-- six cells stored at a place of a row -/
def st6 (X : World) (g o : Nat) (t : Tree) (k : Value) : World := (((((X.setCell ⟨g, o, none⟩ (.int .i64 t.op)).setCell ⟨g, o + 1, none⟩ (.int .i64 t.at_)).setCell ⟨g, o + 2, none⟩ (.int .i64 t.n)).setCell ⟨g, o + 3, none⟩ (.int .i64 t.m)).setCell ⟨g, o + 4, none⟩ (.string t.s)).setCell ⟨g, o + 5, none⟩ k
theorem st6_touch (X : World) (g o : Nat) (t : Tree) (k : Value) : Touch (fun b => b = g) X (st6 X g o t k) := ((((((Touch.refl _ _).set1 _ _).set1 _ _).set1 _ _).set1 _ _).set1 _ _).set1 _ _
theorem st6_row {X : World} {lo g n cp : Nat} {rs : List NodeR} {z : NodeR} (h : X.ownsRow lo 24 6 (.slice (some ⟨g, 0, none⟩) (rs.length + 1) cp) (rs.length + 1) (flat NodeR.cs (rs ++ [z]))) (t : Tree) (k : Value) (hn : n = rs.length * 6) :
    (st6 X g n t k).ownsRow lo 24 6 (.slice (some ⟨g, 0, none⟩) (rs.length + 1) cp) (rs.length + 1) (flat NodeR.cs (rs ++ [⟨t.op, t.at_, t.n, t.m, t.s, k⟩])) := by
  have hb : (Value.slice (some ⟨g, 0, none⟩) (rs.length + 1) cp).ownBlock = some g := rfl
  have hl : (flat NodeR.cs rs).length = rs.length * 6 := flat_len nr_len rs
  have e : ∀ x : NodeR, flat NodeR.cs (rs ++ [x]) = flat NodeR.cs rs ++ NodeR.cs x := fun x => by unfold flat; rw [List.flatMap_append]; simp
  have s0 := ownsRow_set h hb (j := n) (by omega) (.int .i64 t.op)
  have s1 := ownsRow_set s0 hb (j := n + 1) (by omega) (.int .i64 t.at_)
  have s2 := ownsRow_set s1 hb (j := n + 2) (by omega) (.int .i64 t.n)
  have s3 := ownsRow_set s2 hb (j := n + 3) (by omega) (.int .i64 t.m)
  have s4 := ownsRow_set s3 hb (j := n + 4) (by omega) (.string t.s)
  have s5 := ownsRow_set s4 hb (j := n + 5) (by omega) k
  rw [e] at s5 ⊢
  have hs : ∀ (j : Nat) (u : Value) (l : List Value), (flat NodeR.cs rs ++ l).set (n + j) u = flat NodeR.cs rs ++ l.set j u := fun j u l => by
    rw [List.set_append_right _ _ (by omega), show n + j - (flat NodeR.cs rs).length = j by omega]
  rw [show n = n + 0 from rfl, hs 0] at s5
  rw [show n + 0 + 1 = n + 1 from rfl, hs 1, show n + 0 + 2 = n + 2 from rfl, hs 2, show n + 0 + 3 = n + 3 from rfl, hs 3, show n + 0 + 4 = n + 4 from rfl, hs 4, show n + 0 + 5 = n + 5 from rfl, hs 5] at s5
  exact s5
/-- the next copy is put into its place -/
theorem CpRow.next {lo : Nat} {l : List Tree} {A : Option Addr} {q cp : Nat} {X Y : World} (h : CpRow lo l A q cp X) {d : Tree} (hd : l[q]? = some d) {A4 : Option Addr} {c4 base g n : Nat} {z : NodeR} (hbase : lo ≤ base)
    (hgb : ∀ k, (Value.slice A q cp).ownBlock = some k → k < base) (hK : IsNd (FrN base X) X (.slice A4 d.kids.length c4) d.kids)
    (o : ∀ rs : List NodeR, rs.length = q → X.ownsRow lo 24 6 (.slice A q cp) q (flat NodeR.cs rs) → Y.ownsRow lo 24 6 (.slice (some ⟨g, 0, none⟩) (q + 1) n) (q + 1) (flat NodeR.cs (rs ++ [z])))
    (hg : X.grownBy Y (Value.slice A q cp).ownBlock) (hw : (Value.slice A q cp).ownBlock = some g ∨ g = X.heap.size) :
    CpRow lo l (some ⟨g, 0, none⟩) (q + 1) n (st6 Y g (q * 6) d (.slice A4 d.kids.length c4)) := by
  obtain ⟨rs, h1, h2, h3⟩ := h
  have o' := o rs h1 h2
  subst h1
  have T1 := touch_grownE hg
  have T2 := st6_touch Y g (rs.length * 6) d (.slice A4 d.kids.length c4)
  have keep : ∀ b, b < X.heap.size → (∀ k, (Value.slice A rs.length cp).ownBlock = some k → k ≠ b) → (st6 Y g (rs.length * 6) d (.slice A4 d.kids.length c4)).heap[b]? = X.heap[b]? ∧ g ≠ b := by
    intro b hlt hne
    have hgb : g ≠ b := by
      rcases hw with e | e
      · exact hne g e
      · omega
    have e1 := T1.block b hlt (fun e => hne b e rfl)
    have e2 := T2.block b (Nat.lt_of_lt_of_le hlt T1.size) (fun e => hgb e.symm)
    exact ⟨e2.trans e1, hgb⟩
  have hsz : X.heap.size ≤ (st6 Y g (rs.length * 6) d (.slice A4 d.kids.length c4)).heap.size := Nat.le_trans T1.size T2.size
  refine ⟨rs ++ [⟨d.op, d.at_, d.n, d.m, d.s, .slice A4 d.kids.length c4⟩], by simp, st6_row o' d _ rfl, fun i x t hx ht => ?_⟩
  by_cases hi : i < rs.length
  · rw [List.getElem?_append_left hi] at hx
    obtain ⟨k1, k2⟩ := h3 i x t hx ht
    refine ⟨k1, k2.keep hsz fun b hp hlt => ?_⟩
    obtain ⟨e, hne⟩ := keep b hlt hp.2
    exact ⟨e, hp.1.keep e, fun g' hg' => by simp only [Value.ownBlock, Option.some.injEq] at hg'; rw [← hg']; exact hne⟩
  · rw [List.getElem?_append_right (by omega)] at hx
    have hlen := (List.getElem?_eq_some_iff.1 hx).1
    simp at hlen
    obtain rfl : i = rs.length := by omega
    simp at hx
    subst hx
    rw [hd] at ht
    cases ht
    refine ⟨⟨rfl, rfl, rfl, rfl, rfl⟩, hK.keep hsz fun b hp hlt => ?_⟩
    obtain ⟨e, hne⟩ := keep b hlt (fun k hk => by have h1 := hgb k hk; have h2 := hp.1; omega)
    exact ⟨e, ⟨Nat.le_trans hbase hp.1, by rw [e]; exact hp.2⟩, fun g' hg' => by simp only [Value.ownBlock, Option.some.injEq] at hg'; rw [← hg']; exact hne⟩
/-- the row of all copies as the kids of a copy -/
theorem CpRow.done {lo : Nat} {l : List Tree} {A : Option Addr} {q cp : Nat} {X : World} (h : CpRow lo l A q cp X) (hq : q = l.length) : IsNd (FrN lo X) X (.slice A q cp) l := by
  obtain ⟨rs, h1, h2, h3⟩ := h
  refine .mk rs (ownsRow_slOf nr_len (by rw [h1]; exact h2)) (fun a n c e h0 => ?_) (by omega) (fun i x t hx ht => (h3 i x t hx ht).1) (fun i x t hx ht => ?_)
  · simp only [Value.slice.injEq] at e
    obtain ⟨rfl, _, _⟩ := e
    have hb : (Value.slice (some a) q cp).ownBlock = some a.block := rfl
    exact ⟨(own_ltN h2 _ hb).1, own_typeN h2 _ hb⟩
  · exact (h3 i x t hx ht).2.keep (Nat.le_refl _) fun b hp _ => ⟨rfl, hp.1⟩
theorem IsNd.mono {P P' : Nat → Prop} {w : World} {v : Value} {l : List Tree} (h : IsNd P w v l) (hp : ∀ b, P b → P' b) : IsNd P' w v l := h.keep (Nat.le_refl _) fun b hb _ => ⟨rfl, hp b hb⟩
end Go.Proofs.YtiagegecnopfgaaDoor
