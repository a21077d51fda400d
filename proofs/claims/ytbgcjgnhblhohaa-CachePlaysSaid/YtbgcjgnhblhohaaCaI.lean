/- Inline caches: entries and operations as arguments. -/
import Derived.Test.YtbgcjgnhblhohaaCaA
namespace Go.Proofs.Ytbgcjgnhblhohaa
set_option linter.all false
open Go.ChangeShapes Go.WideShapes Go.ChangeAt Go.RowKit Go.Deep

structure ActD where
  kd : Int
  st : Int
  x : Ent
abbrev ActD.cs (a : ActD) : List Value := [.int .i64 a.kd, .int .i64 a.st, .int .i64 a.x.k.k, .int .i64 a.x.k.n, .string a.x.k.s, .int .i64 a.x.sh, .int .i64 a.x.ep, .int .i64 a.x.ho, .int .i64 a.x.sl, .int .i64 a.x.fo]
instance : Inhabited ActD := ⟨⟨0, 0, .zero⟩⟩
abbrev IsE (w : World) (v : Value) (xs : List Ent) : Prop := SlOf w 8 Ent.cs v xs
abbrev IsA (w : World) (v : Value) (xs : List ActD) : Prop := SlOf w 10 ActD.cs v xs
section
variable {H : Type} {enc : TypeId × Value → H} {w : World} {base : Nat} {spare : Nat → Bool} {held : Bool}
theorem open_ent {n : Nat} {cs : List Value} {x : DataW H × List MemPlace} (h : DataW.trod enc Try.prog w base spare held n 25 cs = some x) : ∃ e : Ent, cs = e.cs ∧ e.ok := by
  obtain ⟨xs, m, _, _, hlen, hl, hf⟩ := DataW.trod_struct Try.underlying25 h
  have hC : Try.prog.cellsOf 25 = 8 := by kernel_rfl
  rw [hC] at hlen
  match cs, hlen with
  | [c0, c1, c2, c3, c4, c5, c6, c7], _ =>
    match xs, hl with
    | [y0, y1, y2, y3, y4, y5], _ =>
      have ci : Try.prog.cellsOf 3 = 1 := by kernel_rfl
      have ck : Try.prog.cellsOf 23 = 3 := by kernel_rfl
      have h0 := hf 0 _ rfl
      have h1 := hf 1 _ rfl
      have h2 := hf 2 _ rfl
      have h3 := hf 3 _ rfl
      have h4 := hf 4 _ rfl
      have h5 := hf 5 _ rfl
      simp only [List.getElem_toArray, List.getElem_cons_zero, List.getElem_cons_succ, ci, ck, List.drop_zero, List.drop_succ_cons, List.take_succ_cons, List.take_zero, List.getElem?_cons_zero, List.getElem?_cons_succ] at h0 h1 h2 h3 h4 h5
      obtain ⟨k, e0, w0⟩ := open_key h0
      obtain ⟨a, e1, _, w1⟩ := DataW.trod_int Try.underlying3 h1
      obtain ⟨b, e2, _, w2⟩ := DataW.trod_int Try.underlying3 h2
      obtain ⟨c, e3, _, w3⟩ := DataW.trod_int Try.underlying3 h3
      obtain ⟨d, e4, _, w4⟩ := DataW.trod_int Try.underlying3 h4
      obtain ⟨f, e5, _, w5⟩ := DataW.trod_int Try.underlying3 h5
      simp only [List.cons.injEq, and_true, Val.cs] at e0 e1 e2 e3 e4 e5
      exact ⟨⟨k, a, b, c, d, f⟩, by rw [e0.1, e0.2.1, e0.2.2, e1, e2, e3, e4, e5], w0, wf_i64ok w1, wf_i64ok w2, wf_i64ok w3, wf_i64ok w4, wf_i64ok w5⟩
theorem arg_ent {v : Value} {d : DataW H} {p : List MemPlace} {r : Reach} {b0 : Nat} (hv : Value.okWide Try.prog w r b0 25 v) (h : DataW.Trod enc Try.prog w base spare held 25 v d p) : ∃ x : Ent, v = x.agg ∧ x.ok := by
  obtain ⟨cs, n, rfl, hn⟩ := trod_agg Try.underlying25 hv h
  obtain ⟨x, rfl, hx⟩ := open_ent hn
  exact ⟨x, rfl, hx⟩
theorem open_ents {m : Nat} {cs : List Value} {x : DataW H × List MemPlace} (h : DataW.trod enc Try.prog w base spare held m 26 cs = some x) : ∃ (v : Value) (xs : List Ent), cs = [v] ∧ IsE w v xs ∧ ∀ a ∈ xs, a.ok :=
  open_sl Try.underlying26 (by kernel_rfl) (by omega) (fun _ _ _ h => open_ent h) h
theorem arg_one {T E : TypeId} {v : Value} {d : DataW H} {p : List MemPlace} {r : Reach} {b0 : Nat} (hs : Try.prog.underlying T = some (.slice E)) (hv : Value.okWide Try.prog w r b0 T v)
    (h : DataW.Trod enc Try.prog w base spare held T v d p) : ∃ n : Nat, DataW.trod enc Try.prog w base spare held n T [v] = some (d, p) := by
  obtain ⟨a, len, cap, rfl⟩ := okWide_slice hs hv
  obtain ⟨n, hn⟩ := h
  exact ⟨n, by simpa [Value.cells] using hn⟩
theorem arg_ents {v : Value} {d : DataW H} {p : List MemPlace} {r : Reach} {b0 : Nat} (hv : Value.okWide Try.prog w r b0 26 v) (h : DataW.Trod enc Try.prog w base spare held 26 v d p) : ∃ l : List Ent, IsE w v l ∧ ∀ x ∈ l, x.ok := by
  obtain ⟨n, hn⟩ := arg_one Try.underlying26 hv h
  obtain ⟨v', l, e, h1, h2⟩ := open_ents hn
  simp only [List.cons.injEq, and_true] at e
  subst e
  exact ⟨l, h1, h2⟩
theorem open_act {n : Nat} {cs : List Value} {x : DataW H × List MemPlace} (h : DataW.trod enc Try.prog w base spare held n 42 cs = some x) : ∃ e : ActD, cs = e.cs ∧ i64ok e.kd ∧ i64ok e.st ∧ e.x.ok := by
  obtain ⟨xs, m, _, _, hlen, hl, hf⟩ := DataW.trod_struct Try.underlying42 h
  have hC : Try.prog.cellsOf 42 = 10 := by kernel_rfl
  rw [hC] at hlen
  match cs, hlen with
  | [c0, c1, c2, c3, c4, c5, c6, c7, c8, c9], _ =>
    match xs, hl with
    | [y0, y1, y2], _ =>
      have ci : Try.prog.cellsOf 3 = 1 := by kernel_rfl
      have ck : Try.prog.cellsOf 25 = 8 := by kernel_rfl
      have h0 := hf 0 _ rfl
      have h1 := hf 1 _ rfl
      have h2 := hf 2 _ rfl
      simp only [List.getElem_toArray, List.getElem_cons_zero, List.getElem_cons_succ, ci, ck, List.drop_zero, List.drop_succ_cons, List.take_succ_cons, List.take_zero, List.getElem?_cons_zero, List.getElem?_cons_succ] at h0 h1 h2
      obtain ⟨a, e0, _, w0⟩ := DataW.trod_int Try.underlying3 h0
      obtain ⟨b, e1, _, w1⟩ := DataW.trod_int Try.underlying3 h1
      obtain ⟨e, e2, w2⟩ := open_ent h2
      simp only [List.cons.injEq, and_true, Ent.cs] at e0 e1 e2
      exact ⟨⟨a, b, e⟩, by rw [e0, e1, e2.1, e2.2.1, e2.2.2.1, e2.2.2.2.1, e2.2.2.2.2.1, e2.2.2.2.2.2.1, e2.2.2.2.2.2.2.1, e2.2.2.2.2.2.2.2], wf_i64ok w0, wf_i64ok w1, w2⟩
theorem arg_acts {v : Value} {d : DataW H} {p : List MemPlace} {r : Reach} {b0 : Nat} (hv : Value.okWide Try.prog w r b0 40 v) (h : DataW.Trod enc Try.prog w base spare held 40 v d p) : ∃ l : List ActD, IsA w v l ∧ ∀ a ∈ l, i64ok a.kd ∧ i64ok a.st ∧ a.x.ok := by
  obtain ⟨n, hn⟩ := arg_one Try.underlying40 hv h
  obtain ⟨v', l, e, h1, h2⟩ := open_sl (α := ActD) (en := ActD.cs) (ok := fun a => i64ok a.kd ∧ i64ok a.st ∧ a.x.ok) Try.underlying40 (n := 10) (by kernel_rfl) (by omega) (fun _ _ _ h => open_act h) hn
  simp only [List.cons.injEq, and_true] at e
  subst e
  exact ⟨l, h1, h2⟩
end
end Go.Proofs.Ytbgcjgnhblhohaa
