/- The arguments of this seat's laws opened. -/
import Derived.Test.YtgajmhklinolmaaSpZe
namespace Go.Proofs.Ytgajmhklinolmaa
set_option linter.all false
open Go.ChangeShapes Go.WideShapes Go.ChangeAt Go.RowKit Go.Deep

section
variable {H : Type} {enc : TypeId × Value → H} {w : World} {base : Nat} {spare : Nat → Bool} {held : Bool}
instance : Inhabited ActR := ⟨⟨0, 0, 0, 0, 0, 0, .nilFunc, .nilFunc⟩⟩
instance : Inhabited ActD := ⟨⟨0, 0, default⟩⟩
theorem open_actf {m : Nat} {cs : List Value} {x : DataW H × List MemPlace} (h : DataW.trod enc Try.prog w base spare held m 40 cs = some x) (hl : light 40 x.1) : ∃ r : ActR, cs = r.cs ∧ ∃ a : ActD, Holds8 w r a ∧ a.c.fit := by
  obtain ⟨xs, m, _, hx, hlen, hll, hf⟩ := DataW.trod_struct Try.underlying40 h
  have hC : Try.prog.cellsOf 40 = 8 := by kernel_rfl
  rw [hC] at hlen
  subst hx
  match cs, hlen with
  | [c0, c1, c2, c3, c4, c5, c6, c7], _ =>
    match xs, hll with
    | [y0, y1, y2], _ =>
      have l2 := light_field Try.underlying40 hl (j := 2) (by rfl) (by rfl)
      have ci : Try.prog.cellsOf 3 = 1 := by kernel_rfl
      have cv : Try.prog.cellsOf 38 = 6 := by kernel_rfl
      have h0 := hf 0 _ rfl
      have h1 := hf 1 _ rfl
      have h2 := hf 2 _ rfl
      simp only [List.getElem_toArray, List.getElem_cons_zero, List.getElem_cons_succ, ci, cv, List.drop_zero, List.drop_succ_cons, List.take_succ_cons, List.take_zero, List.getElem?_cons_zero, List.getElem?_cons_succ] at h0 h1 h2
      obtain ⟨a, e0, _, w0⟩ := DataW.trod_int Try.underlying3 h0
      obtain ⟨b, e1, _, w1⟩ := DataW.trod_int Try.underlying3 h1
      obtain ⟨r, e2, c, hc, _, hfit⟩ := open_cellf h2 l2
      simp only [List.cons.injEq, and_true] at e0 e1 e2
      obtain ⟨q0, q1, q2, q3, q4, q5⟩ := e2
      exact ⟨⟨a, b, r.k, r.sh, r.fl, r.ag, r.sv, r.mv⟩, by rw [e0, e1, q0, q1, q2, q3, q4, q5], ⟨a, b, c⟩, ⟨rfl, rfl, hc⟩, hfit⟩
theorem open_actsf {m : Nat} {cs : List Value} {x : DataW H × List MemPlace} (h : DataW.trod enc Try.prog w base spare held m 22 cs = some x) (hl : light 22 x.1) : ∃ (v : Value) (l : List ActD), cs = [v] ∧ IsA w v l ∧ ∀ a ∈ l, a.c.fit := by
  obtain ⟨v, rs, rfl, hs, hok, _⟩ := open_slf (α := ActR) (en := ActR.cs) (ok := fun r => ∃ a : ActD, Holds8 w r a ∧ a.c.fit) Try.underlying22 (n := 8) (by kernel_rfl) (by omega) (bytes := 96) (by kernel_rfl) (fun _ _ _ h hl => open_actf h hl) h hl
  have hex : ∀ i, i < rs.length → ∃ a : ActD, ∀ r, rs[i]? = some r → Holds8 w r a ∧ a.c.fit := fun i hi => by
    obtain ⟨c, hc⟩ := hok _ (List.getElem_mem hi)
    exact ⟨c, fun r hr => by rw [List.getElem?_eq_getElem hi] at hr; cases hr; exact hc⟩
  obtain ⟨f, hf⟩ := choose_lt hex
  refine ⟨v, (List.range rs.length).map f, rfl, ⟨rs, hs, by simp, fun i r c hr hc => ?_⟩, fun c hc => ?_⟩
  · have hi := (List.getElem?_eq_some_iff.1 hr).1
    simp [hi] at hc
    subst hc
    exact (hf i hi r hr).1
  · obtain ⟨i, hi, rfl⟩ := List.mem_map.1 hc
    have hi' : i < rs.length := by simpa using hi
    exact (hf i hi' _ (List.getElem?_eq_getElem hi')).2
theorem arg_one {T E : TypeId} {v : Value} {d : DataW H} {p : List MemPlace} {r : Reach} {b0 : Nat} (hs : Try.prog.underlying T = some (.slice E)) (hv : Value.okWide Try.prog w r b0 T v)
    (h : DataW.Trod enc Try.prog w base spare held T v d p) : ∃ n : Nat, DataW.trod enc Try.prog w base spare held n T [v] = some (d, p) := by
  obtain ⟨a, len, cap, rfl⟩ := okWide_slice hs hv
  obtain ⟨n, hn⟩ := h
  exact ⟨n, by simpa [Value.cells] using hn⟩
theorem arg_actsf {v : Value} {d : DataW H} {p : List MemPlace} {r : Reach} {b0 : Nat} (hv : Value.okWide Try.prog w r b0 22 v) (h : DataW.Trod enc Try.prog w base spare held 22 v d p) (hl : light 22 d) :
    ∃ l : List ActD, IsA w v l ∧ ∀ a ∈ l, a.c.fit := by
  obtain ⟨n, hn⟩ := arg_one Try.underlying22 hv h
  obtain ⟨v', l, e, h1, h2⟩ := open_actsf hn hl
  simp only [List.cons.injEq, and_true] at e
  subst e
  exact ⟨l, h1, h2⟩
theorem arg_cellsf {v : Value} {d : DataW H} {p : List MemPlace} {r : Reach} {b0 : Nat} (hv : Value.okWide Try.prog w r b0 29 v) (h : DataW.Trod enc Try.prog w base spare held 29 v d p) (hl : light 29 d) :
    ∃ l : List CellD, IsC w v l ∧ ∀ c ∈ l, c.fit := by
  obtain ⟨n, hn⟩ := arg_one Try.underlying29 hv h
  obtain ⟨v', l, e, h1, h2⟩ := open_cellsf hn hl
  simp only [List.cons.injEq, and_true] at e
  subst e
  exact ⟨l, h1, fun c hc => (h2 c hc).2⟩
end
end Go.Proofs.Ytgajmhklinolmaa
