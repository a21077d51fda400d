/- Nodes as they stand in memory; arguments opened. -/
import Derived.Test.YtiagegecnopfgaaDoorPaB
import Derived.Test.YtiagegecnopfgaaDoorElem
namespace Go.Proofs.YtiagegecnopfgaaDoor
set_option linter.all false
open Go.ChangeShapes Go.WideShapes Go.ChangeAt Go.RowKit Go.Sort Go.Deep

/-- a node's cells -/
structure NodeR where
  op : Int
  a : Int
  n : Int
  m : Int
  s : ByteArray
  k : Value
abbrev NodeR.cs (x : NodeR) : List Value := [.int .i64 x.op, .int .i64 x.a, .int .i64 x.n, .int .i64 x.m, .string x.s, x.k]
instance : Inhabited NodeR := ⟨⟨0, 0, 0, 0, ⟨#[]⟩, .nilFunc⟩⟩
theorem nr_len (x : NodeR) : (NodeR.cs x).length = 6 := rfl
abbrev nodeV (t : Tree) (k : Value) : Value := .agg #[.int .i64 t.op, .int .i64 t.at_, .int .i64 t.n, .int .i64 t.m, .string t.s, k]
abbrev nodeO (t : Tree) (k : Value) : Obj := .cells #[.int .i64 t.op, .int .i64 t.at_, .int .i64 t.n, .int .i64 t.m, .string t.s, k] 24
/-- a slice of nodes that reads as a list of trees, its blocks (to whatever depth) in P -/
inductive IsNd (P : Nat → Prop) (w : World) : Value → List Tree → Prop
  | mk {v : Value} {l : List Tree} (rs : List NodeR) (hs : SlOf w 6 NodeR.cs v rs) (hP : ∀ a n c, v = .slice (some a) n c → 0 < l.length → P a.block) (hl : rs.length = l.length)
    (hh : ∀ (i : Nat) (x : NodeR) (t : Tree), rs[i]? = some x → l[i]? = some t → x.op = t.op ∧ x.a = t.at_ ∧ x.n = t.n ∧ x.m = t.m ∧ x.s = t.s)
    (hk : ∀ (i : Nat) (x : NodeR) (t : Tree), rs[i]? = some x → l[i]? = some t → IsNd P w x.k t.kids) : IsNd P w v l
theorem IsNd.keep {P P' : Nat → Prop} {w w' : World} {v : Value} {l : List Tree} (h : IsNd P w v l) (hs : w.heap.size ≤ w'.heap.size) (hk : ∀ b, P b → b < w.heap.size → w'.heap[b]? = w.heap[b]? ∧ P' b) : IsNd P' w' v l := by
  induction h with
  | @mk v l rs h1 hP hl hh _ ih =>
    refine .mk rs ?_ (fun a n c e h0 => ?_) hl hh ih
    · refine ⟨h1.1, ?_⟩
      obtain ⟨A, cap, e, hc, h2⟩ := h1.2
      refine ⟨A, cap, e, hc, fun h0 => ?_⟩
      obtain ⟨b, off, e2, hb, h3⟩ := h2 h0
      refine ⟨b, off, e2, Nat.lt_of_lt_of_le hb hs, fun i x hx j u hu => ?_⟩
      rw [World.cell?_of_block (a := ⟨b, off + i * 6 + j, none⟩) (hk b (hP ⟨b, off, none⟩ rs.length cap (by rw [e, e2]) (by omega)) hb).1]
      exact h3 i x hx j u hu
    · have hlt : a.block < w.heap.size := by
        obtain ⟨b, off, cap, e2, _, hb, _⟩ := h1.at_ (by omega)
        rw [e] at e2
        simp only [Value.slice.injEq, Option.some.injEq] at e2
        rw [e2.1]
        exact hb
      exact (hk _ (hP a n c e h0) hlt).2
theorem IsNd.bel {P : Nat → Prop} {w w' : World} {v : Value} {l : List Tree} (h : IsNd P w v l) (hb : Below w.heap.size w w') : IsNd P w' v l := h.keep hb.size fun b hp hlt => ⟨hb.block b hlt, hp⟩
theorem IsNd.touch {P F : Nat → Prop} {w w' : World} {v : Value} {l : List Tree} (h : IsNd P w v l) (ht : Touch F w w') (hF : ∀ b, P b → ¬ F b) : IsNd P w' v l := h.keep ht.size fun b hp hlt => ⟨ht.block b hlt (hF b hp), hp⟩
theorem IsNd.form {P : Nat → Prop} {w : World} {v : Value} {l : List Tree} (h : IsNd P w v l) : ∃ A c, v = .slice A l.length c ∧ l.length ≤ maxLen := by
  cases h with
  | mk rs h1 _ hl _ _ =>
    obtain ⟨A, c, rfl, _, hm⟩ := h1.form
    exact ⟨A, c, by rw [hl], by omega⟩
def AtN (w : World) (b o : Nat) (t : Tree) (k : Value) : Prop := w.cell? ⟨b, o, none⟩ = some (.int .i64 t.op) ∧ w.cell? ⟨b, o + 1, none⟩ = some (.int .i64 t.at_) ∧ w.cell? ⟨b, o + 2, none⟩ = some (.int .i64 t.n) ∧
  w.cell? ⟨b, o + 3, none⟩ = some (.int .i64 t.m) ∧ w.cell? ⟨b, o + 4, none⟩ = some (.string t.s) ∧ w.cell? ⟨b, o + 5, none⟩ = some k
/-- a kid -/
theorem IsNd.at_ {P : Nat → Prop} {w : World} {v : Value} {l : List Tree} (h : IsNd P w v l) {q : Nat} {t : Tree} (hq : l[q]? = some t) : ∃ b off cap A c, v = .slice (some ⟨b, off, none⟩) l.length cap ∧ b < w.heap.size ∧ P b ∧ IsNd P w (.slice A t.kids.length c) t.kids ∧ AtN w b (off + q * 6) t (.slice A t.kids.length c) := by
  cases h with
  | mk rs h1 hP hl hh hk =>
    have hlt := (List.getElem?_eq_some_iff.1 hq).1
    obtain ⟨b, off, cap, rfl, hc, hb, hx⟩ := h1.at_ (by omega)
    obtain ⟨x, hr⟩ : ∃ x, rs[q]? = some x := ⟨_, List.getElem?_eq_getElem (by omega)⟩
    obtain ⟨e0, e1, e2, e3, e4⟩ := hh q x t hr hq
    have k5 := hk q x t hr hq
    obtain ⟨A, c, e5, _⟩ := k5.form
    have f := fun j u hu => hx q x hr j u hu
    refine ⟨b, off, cap, A, c, by rw [hl], hb, hP _ _ _ rfl (by omega), by rw [← e5]; exact k5, ?_⟩
    unfold AtN
    rw [← e0, ← e1, ← e2, ← e3, ← e4, ← e5]
    exact ⟨f 0 _ rfl, f 1 _ rfl, f 2 _ rfl, f 3 _ rfl, f 4 _ rfl, f 5 _ rfl⟩
theorem AtN.below {w w' : World} {b o : Nat} {t : Tree} {k : Value} (h : AtN w b o t k) (hb : b < w.heap.size) (hw : Below w.heap.size w w') : AtN w' b o t k := by
  obtain ⟨h0, h1, h2, h3, h4, h5⟩ := h
  have f := fun j => hw.cell (p := ⟨b, j, none⟩) hb
  exact ⟨(f _).trans h0, (f _).trans h1, (f _).trans h2, (f _).trans h3, (f _).trans h4, (f _).trans h5⟩
theorem cells6n {w : World} {b : Nat} {t : Tree} {k : Value} (h : w.heap[b]? = some (nodeO t k)) : AtN w b 0 t k ∧ ∀ j, w.frozen? ⟨b, j, none⟩ = false := by
  refine ⟨?_, fun j => frozen_of_row w b j _ _ h⟩
  unfold AtN
  refine ⟨?_, ?_, ?_, ?_, ?_, ?_⟩ <;> (rw [cell_of_row w b _ _ _ _ h]; rfl)
/-- every number a Go int, every text a Go string -/
inductive OkK : List Tree → Prop
  | mk {l : List Tree} (h : ∀ t ∈ l, i64ok t.op ∧ i64ok t.at_ ∧ i64ok t.n ∧ i64ok t.m ∧ t.s.size ≤ maxLen) (hk : ∀ t ∈ l, OkK t.kids) : OkK l
theorem OkK.at_ {l : List Tree} (h : OkK l) {t : Tree} (ht : t ∈ l) : i64ok t.op ∧ i64ok t.at_ ∧ i64ok t.n ∧ i64ok t.m ∧ t.s.size ≤ maxLen := by cases h with | mk h _ => exact h t ht
theorem OkK.kids {l : List Tree} (h : OkK l) {t : Tree} (ht : t ∈ l) : OkK t.kids := by cases h with | mk _ h => exact h t ht

section
variable {H : Type} {enc : TypeId × Value → H} {w : World} {base : Nat} {spare : Nat → Bool} {held : Bool}
/-- what a node's cells read as -/
def HoldsN (w : World) (x : NodeR) (t : Tree) : Prop := (x.op = t.op ∧ x.a = t.at_ ∧ x.n = t.n ∧ x.m = t.m ∧ x.s = t.s) ∧ IsNd (fun b => b < w.heap.size) w x.k t.kids ∧ OkK [t]
set_option maxRecDepth 100000 in
theorem open_node (m : Nat) : ∀ {cs : List Value} {x : DataW H × List MemPlace}, DataW.trod enc Tryd.prog w base spare held m 24 cs = some x → ∃ r : NodeR, cs = r.cs ∧ ∃ t : Tree, HoldsN w r t := by
  induction m using Nat.strongRecOn with
  | ind m IH =>
    intro cs x h
    have step : ∀ m', m' < m + 1 → ∀ {cs : List Value} {x : DataW H × List MemPlace}, DataW.trod enc Tryd.prog w base spare held m' 22 cs = some x → ∃ (v : Value) (l : List Tree), cs = [v] ∧ IsNd (fun b => b < w.heap.size) w v l ∧ OkK l := by
      intro m' hm' cs x h
      rcases DataW.trod_slice Tryd.underlying22 h with ⟨rfl, _⟩ | ⟨a, len, cap, elems, rest, n, rfl, rfl, _, hb, hlc, hcm, hel, hi, _, _⟩
      · refine ⟨_, [], rfl, .mk [] .nil_ (fun a n c e h0 => by simp at h0) rfl (by simp) (by simp), .mk (by simp) (by simp)⟩
      · have hC : Tryd.prog.cellsOf 24 = 6 := by kernel_rfl
        rw [hC] at hi
        have hex : ∀ i, i < len → ∃ r : NodeR × Tree, w.cells? base (a.add (i * 6)) 6 = some r.1.cs ∧ HoldsN w r.1 r.2 := by
          intro i hil
          have h1 := hi i hil
          rw [List.getElem?_eq_getElem (by omega)] at h1
          obtain ⟨cs', h2, h3⟩ := Option.bind_eq_some_iff.1 h1
          obtain ⟨r, rfl, t, ht⟩ := IH n (by omega) h3
          exact ⟨(r, t), h2, ht⟩
        obtain ⟨f, hf⟩ := choose_lt hex
        have hsl : SlOf w 6 NodeR.cs (.slice (some a) len cap) ((List.range len).map fun i => (f i).1) := by
          refine ⟨by simp; omega, some a, cap, by simp, by simpa using hlc, fun h0 => ?_⟩
          have hlen : 0 < len := by simpa using h0
          obtain ⟨b, off, spot⟩ := a
          have c0 := World.cells?_some (hf 0 hlen).1
          have hc0 := c0.2.2 0 (by decide)
          rw [List.getElem?_eq_getElem (by simp)] at hc0
          have hspot : spot = none := by simpa [Addr.add] using World.cell?_spot hc0
          subst hspot
          have hblt : b < w.heap.size := World.block_lt_of_cell? w _ (by rw [add_off, add_off] at hc0; exact hc0)
          refine ⟨b, off, rfl, hblt, fun i x hx j u hu => ?_⟩
          have hil : i < len := by
            have := (List.getElem?_eq_some_iff.1 hx).1
            simpa using this
          have hxf : x = (f i).1 := by
            simp [hil] at hx
            exact hx.symm
          subst hxf
          have ci := World.cells?_some (hf i hil).1
          have hj : j < 6 := by
            have := (List.getElem?_eq_some_iff.1 hu).1
            exact this
          have := ci.2.2 j hj
          rw [add_off, add_off, hu] at this
          rw [← this]
        refine ⟨_, (List.range len).map fun i => (f i).2, rfl, .mk ((List.range len).map fun i => (f i).1) hsl (fun a' n c e h0 => ?_) (by simp) (fun i x t hx ht => ?_) (fun i x t hx ht => ?_), .mk (fun t ht => ?_) (fun t ht => ?_)⟩
        · obtain ⟨b, off, cap', e2, _, hb', _⟩ := hsl.at_ (by simpa using h0)
          rw [e] at e2
          simp only [Value.slice.injEq, Option.some.injEq] at e2
          rw [e2.1]
          exact hb'
        · have hil : i < len := by simpa using (List.getElem?_eq_some_iff.1 hx).1
          simp [hil] at hx ht
          subst hx
          subst ht
          exact (hf i hil).2.1
        · have hil : i < len := by simpa using (List.getElem?_eq_some_iff.1 hx).1
          simp [hil] at hx ht
          subst hx
          subst ht
          exact (hf i hil).2.2.1
        · obtain ⟨i, hi', rfl⟩ := List.mem_map.1 ht
          exact (hf i (by simpa using hi')).2.2.2.at_ (by simp)
        · obtain ⟨i, hi', rfl⟩ := List.mem_map.1 ht
          exact (hf i (by simpa using hi')).2.2.2.kids (by simp)
    obtain ⟨xs, m', hm', _, hlen, hl, hf⟩ := DataW.trod_struct Tryd.underlying24 h
    have hC : Tryd.prog.cellsOf 24 = 6 := by kernel_rfl
    rw [hC] at hlen
    match cs, hlen with
    | [c0, c1, c2, c3, c4, c5], _ =>
      match xs, hl with
      | [y0, y1, y2, y3, y4, y5], _ =>
        have ci : Tryd.prog.cellsOf 3 = 1 := by kernel_rfl
        have cst : Tryd.prog.cellsOf 9 = 1 := by kernel_rfl
        have c5' : Tryd.prog.cellsOf 22 = 1 := by kernel_rfl
        have h0 := hf 0 _ rfl
        have h1 := hf 1 _ rfl
        have h2 := hf 2 _ rfl
        have h3 := hf 3 _ rfl
        have h4 := hf 4 _ rfl
        have h5 := hf 5 _ rfl
        simp only [List.getElem_toArray, List.getElem_cons_zero, List.getElem_cons_succ, ci, cst, c5', List.drop_zero, List.drop_succ_cons, List.take_succ_cons, List.take_zero, List.getElem?_cons_zero, List.getElem?_cons_succ] at h0 h1 h2 h3 h4 h5
        obtain ⟨a, e0, _, w0⟩ := DataW.trod_int Tryd.underlying3 h0
        obtain ⟨b, e1, _, w1⟩ := DataW.trod_int Tryd.underlying3 h1
        obtain ⟨c, e2, _, w2⟩ := DataW.trod_int Tryd.underlying3 h2
        obtain ⟨d, e3, _, w3⟩ := DataW.trod_int Tryd.underlying3 h3
        obtain ⟨s, e4, _, w4⟩ := DataW.trod_string Tryd.underlying9 h4
        obtain ⟨v, l, e5, k5, o5⟩ := step _ (by omega) h5
        simp only [List.cons.injEq, and_true] at e0 e1 e2 e3 e4 e5
        refine ⟨⟨a, b, c, d, s, v⟩, by rw [e0, e1, e2, e3, e4, e5], .mk a b c d s l, ⟨rfl, rfl, rfl, rfl, rfl⟩, k5, .mk (fun t ht => ?_) (fun t ht => ?_)⟩
        · rw [List.mem_singleton.1 ht]
          exact ⟨wf_i64ok w0, wf_i64ok w1, wf_i64ok w2, wf_i64ok w3, w4⟩
        · rw [List.mem_singleton.1 ht]
          exact o5
set_option maxRecDepth 100000 in
theorem arg_node {v : Value} {d : DataW H} {p : List MemPlace} {r : Reach} {b0 : Nat} (hv : Value.okWide Tryd.prog w r b0 24 v) (h : DataW.Trod enc Tryd.prog w base spare held 24 v d p) :
    ∃ (k : Value) (t : Tree), v = nodeV t k ∧ IsNd (fun b => b < w.heap.size) w k t.kids ∧ OkK [t] := by
  obtain ⟨cs, n, rfl, hn⟩ := trod_agg Tryd.underlying24 hv h
  obtain ⟨x, rfl, t, ⟨h1, h2, h3, h4, h5⟩, hk, ho⟩ := open_node n hn
  exact ⟨x.k, t, by simp only [NodeR.cs, nodeV, h1, h2, h3, h4, h5], hk, ho⟩
end
end Go.Proofs.YtiagegecnopfgaaDoor
