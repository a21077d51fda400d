/- Descriptors and properties as they stand in cells. -/
import Derived.Test.YtippimonpdeioaaVals
namespace Go.Proofs.Ytippimonpdeioaa
set_option linter.all false
open Go.ChangeShapes Go.WideShapes Go.ChangeAt Go.RowKit

structure Dsc where
  h : Int
  a : Int
  v : Val
  g : Val
  t : Val
abbrev Dsc.agg (d : Dsc) : Value := .agg #[.int .i64 d.h, .int .i64 d.a, .int .i64 d.v.k, .int .i64 d.v.n, .string d.v.s, .int .i64 d.g.k, .int .i64 d.g.n, .string d.g.s, .int .i64 d.t.k, .int .i64 d.t.n, .string d.t.s]
def Dsc.ok (d : Dsc) : Prop := i64ok d.h ∧ i64ok d.a ∧ d.v.ok ∧ d.g.ok ∧ d.t.ok
structure Prp where
  k : Val
  a : Int
  v : Val
  g : Val
  t : Val
abbrev Prp.agg (d : Prp) : Value := .agg #[.int .i64 d.k.k, .int .i64 d.k.n, .string d.k.s, .int .i64 d.a, .int .i64 d.v.k, .int .i64 d.v.n, .string d.v.s, .int .i64 d.g.k, .int .i64 d.g.n, .string d.g.s, .int .i64 d.t.k, .int .i64 d.t.n, .string d.t.s]
def Prp.ok (d : Prp) : Prop := d.k.ok ∧ i64ok d.a ∧ d.v.ok ∧ d.g.ok ∧ d.t.ok

section
variable {H : Type} {enc : TypeId × Value → H} {w : World} {base : Nat} {spare : Nat → Bool} {held : Bool}
theorem list_split3 {α : Type} {l : List α} {a b c : α} {n : Nat} (h : (l.drop n).take 3 = [a, b, c]) (hn : n + 3 ≤ l.length) : l.drop n = a :: b :: c :: l.drop (n + 3) := by
  have := List.take_append_drop 3 (l.drop n)
  rw [h, List.drop_drop] at this
  simpa using this.symm

theorem open_desc {n : Nat} {cs : List Value} {x : DataW H × List MemPlace} (h : DataW.trod enc Try.prog w base spare held n 27 cs = some x) :
    ∃ d : Dsc, Value.agg cs.toArray = d.agg ∧ d.ok := by
  obtain ⟨xs, m, _, _, hlen, hl, hf⟩ := DataW.trod_struct Try.underlying27 h
  have hC : Try.prog.cellsOf 27 = 11 := by kernel_rfl
  rw [hC] at hlen
  match cs, hlen with
  | [c0, c1, c2, c3, c4, c5, c6, c7, c8, c9, c10], _ =>
    match xs, hl with
    | [y0, y1, y2, y3, y4], _ =>
      have ci : Try.prog.cellsOf 3 = 1 := by kernel_rfl
      have cv : Try.prog.cellsOf 25 = 3 := by kernel_rfl
      have h0 := hf 0 _ rfl
      have h1 := hf 1 _ rfl
      have h2 := hf 2 _ rfl
      have h3 := hf 3 _ rfl
      have h4 := hf 4 _ rfl
      simp only [List.getElem_toArray, List.getElem_cons_zero, List.getElem_cons_succ, ci, cv, List.drop_zero, List.drop_succ_cons, List.take_succ_cons, List.take_zero, List.getElem?_cons_zero, List.getElem?_cons_succ] at h0 h1 h2 h3 h4
      obtain ⟨a, e0, _, w0⟩ := DataW.trod_int Try.underlying3 h0
      obtain ⟨b, e1, _, w1⟩ := DataW.trod_int Try.underlying3 h1
      obtain ⟨v, e2, w2⟩ := open_val h2
      obtain ⟨g, e3, w3⟩ := open_val h3
      obtain ⟨t, e4, w4⟩ := open_val h4
      simp only [List.cons.injEq, and_true, Val.cs] at e0 e1 e2 e3 e4
      exact ⟨⟨a, b, v, g, t⟩, by rw [e0, e1, e2.1, e2.2.1, e2.2.2, e3.1, e3.2.1, e3.2.2, e4.1, e4.2.1, e4.2.2], wf_i64ok w0, wf_i64ok w1, w2, w3, w4⟩
theorem open_prop {n : Nat} {cs : List Value} {x : DataW H × List MemPlace} (h : DataW.trod enc Try.prog w base spare held n 42 cs = some x) :
    ∃ d : Prp, Value.agg cs.toArray = d.agg ∧ d.ok := by
  obtain ⟨xs, m, _, _, hlen, hl, hf⟩ := DataW.trod_struct Try.underlying42 h
  have hC : Try.prog.cellsOf 42 = 13 := by kernel_rfl
  rw [hC] at hlen
  match cs, hlen with
  | [c0, c1, c2, c3, c4, c5, c6, c7, c8, c9, c10, c11, c12], _ =>
    match xs, hl with
    | [y0, y1, y2, y3, y4], _ =>
      have ci : Try.prog.cellsOf 3 = 1 := by kernel_rfl
      have ck : Try.prog.cellsOf 24 = 3 := by kernel_rfl
      have cv : Try.prog.cellsOf 25 = 3 := by kernel_rfl
      have h0 := hf 0 _ rfl
      have h1 := hf 1 _ rfl
      have h2 := hf 2 _ rfl
      have h3 := hf 3 _ rfl
      have h4 := hf 4 _ rfl
      simp only [List.getElem_toArray, List.getElem_cons_zero, List.getElem_cons_succ, ci, cv, ck, List.drop_zero, List.drop_succ_cons, List.take_succ_cons, List.take_zero, List.getElem?_cons_zero, List.getElem?_cons_succ] at h0 h1 h2 h3 h4
      obtain ⟨k, e0, w0⟩ := open_key h0
      obtain ⟨b, e1, _, w1⟩ := DataW.trod_int Try.underlying3 h1
      obtain ⟨v, e2, w2⟩ := open_val h2
      obtain ⟨g, e3, w3⟩ := open_val h3
      obtain ⟨t, e4, w4⟩ := open_val h4
      simp only [List.cons.injEq, and_true, Val.cs] at e0 e1 e2 e3 e4
      exact ⟨⟨k, b, v, g, t⟩, by rw [e0.1, e0.2.1, e0.2.2, e1, e2.1, e2.2.1, e2.2.2, e3.1, e3.2.1, e3.2.2, e4.1, e4.2.1, e4.2.2], w0, wf_i64ok w1, w2, w3, w4⟩
theorem arg_desc {v : Value} {d : DataW H} {p : List MemPlace} {r : Reach} {b0 : Nat} (hv : Value.okWide Try.prog w r b0 27 v) (h : DataW.Trod enc Try.prog w base spare held 27 v d p) : ∃ x : Dsc, v = x.agg ∧ x.ok := by
  obtain ⟨cs, n, rfl, hn⟩ := trod_agg Try.underlying27 hv h
  obtain ⟨x, hx, hk⟩ := open_desc hn
  exact ⟨x, hx, hk⟩
theorem arg_prop {v : Value} {d : DataW H} {p : List MemPlace} {r : Reach} {b0 : Nat} (hv : Value.okWide Try.prog w r b0 42 v) (h : DataW.Trod enc Try.prog w base spare held 42 v d p) : ∃ x : Prp, v = x.agg ∧ x.ok := by
  obtain ⟨cs, n, rfl, hn⟩ := trod_agg Try.underlying42 hv h
  obtain ⟨x, hx, hk⟩ := open_prop hn
  exact ⟨x, hx, hk⟩
theorem arg_key {v : Value} {d : DataW H} {p : List MemPlace} {r : Reach} {b0 : Nat} (hv : Value.okWide Try.prog w r b0 24 v) (h : DataW.Trod enc Try.prog w base spare held 24 v d p) : ∃ x : Val, v = x.agg ∧ x.ok := by
  obtain ⟨cs, n, rfl, hn⟩ := trod_agg Try.underlying24 hv h
  obtain ⟨x, rfl, hx⟩ := open_key hn
  exact ⟨x, rfl, hx⟩
end
end Go.Proofs.Ytippimonpdeioaa
