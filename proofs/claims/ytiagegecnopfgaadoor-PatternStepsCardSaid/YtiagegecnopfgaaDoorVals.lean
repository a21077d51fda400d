/- Values, keys, descriptors and properties as they stand in cells; an argument of such a type opened. -/
import Derived.Test.YtiagegecnopfgaaDoorBase
namespace Go.Proofs.YtiagegecnopfgaaDoor
set_option linter.all false
open Go.ChangeShapes Go.WideShapes Go.ChangeAt Go.RowKit

/-- A value (Kind, N, S), and a key, which has the same fields. -/
structure Val where
  k : Int
  n : Int
  s : ByteArray

def i64ok (n : Int) : Prop := -9223372036854775808 ≤ n ∧ n ≤ 9223372036854775807
abbrev Val.cs (v : Val) : List Value := [.int .i64 v.k, .int .i64 v.n, .string v.s]
def Val.ok (v : Val) : Prop := i64ok v.k ∧ i64ok v.n ∧ v.s.size ≤ maxLen
abbrev Val.zero : Val := ⟨0, 0, ⟨#[]⟩⟩
abbrev Val.agg (v : Val) : Value := .agg #[.int .i64 v.k, .int .i64 v.n, .string v.s]
/-- Go's == on values and keys. -/
def Val.eq (a b : Val) : Bool := a.k == b.k && a.n == b.n && a.s.toList == b.s.toList

theorem toList_inj {s t : ByteArray} (h : s.toList = t.toList) : s = t := by
  rw [ByteArray.toList_eq, ByteArray.toList_eq] at h
  obtain ⟨⟨x⟩⟩ := s
  obtain ⟨⟨y⟩⟩ := t
  simp at h
  rw [h]
theorem Val.eq_iff {a b : Val} : a.eq b = true ↔ a = b := by
  obtain ⟨k, n, s⟩ := a
  obtain ⟨k', n', s'⟩ := b
  simp only [Val.eq, Bool.and_eq_true, beq_iff_eq, Val.mk.injEq, and_assoc]
  exact ⟨fun ⟨h1, h2, h3⟩ => ⟨h1, h2, toList_inj h3⟩, fun ⟨h1, h2, h3⟩ => ⟨h1, h2, by rw [h3]⟩⟩
theorem Val.eq_self (a : Val) : a.eq a = true := Val.eq_iff.2 rfl
theorem Val.eq_false {a b : Val} : a.eq b = false ↔ a ≠ b := by rw [← Bool.not_eq_true, Ne, Val.eq_iff]

theorem wf_i64ok {n : Int} (h : (Lit.int .i64 n).wf = true) : i64ok n := by
  simpa [Lit.wf, IntKind.min, IntKind.max, IntKind.signed, IntKind.bits, i64ok] using h

section
variable {H : Type} {enc : TypeId × Value → H} {w : World} {base : Nat} {spare : Nat → Bool} {held : Bool}

theorem open_kns {T : TypeId} (hT : Tryd.prog.underlying T = some (.struct #[{ name := "Kind", type := 3, offset := 0, embedded := false, tag := "", pkgPath := "", byteOffset := 0 }, { name := "N", type := 3, offset := 1, embedded := false, tag := "", pkgPath := "", byteOffset := 8 }, { name := "S", type := 9, offset := 2, embedded := false, tag := "", pkgPath := "", byteOffset := 16 }]))
    (hC : Tryd.prog.cellsOf T = 3) {n : Nat} {cs : List Value} {x : DataW H × List MemPlace} (h : DataW.trod enc Tryd.prog w base spare held n T cs = some x) : ∃ v : Val, cs = v.cs ∧ v.ok := by
  obtain ⟨xs, m, _, _, hlen, hl, hf⟩ := DataW.trod_struct hT h
  rw [hC] at hlen
  match cs, hlen with
  | [c0, c1, c2], _ =>
    match xs, hl with
    | [y0, y1, y2], _ =>
      have ci : Tryd.prog.cellsOf 3 = 1 := by kernel_rfl
      have cst : Tryd.prog.cellsOf 9 = 1 := by kernel_rfl
      have h0 := hf 0 _ rfl
      have h1 := hf 1 _ rfl
      have h2 := hf 2 _ rfl
      simp only [List.getElem_toArray, List.getElem_cons_zero, List.getElem_cons_succ, ci, cst, List.drop_zero, List.drop_succ_cons, List.take_succ_cons, List.take_zero, List.getElem?_cons_zero, List.getElem?_cons_succ] at h0 h1 h2
      obtain ⟨a, e0, _, w0⟩ := DataW.trod_int Tryd.underlying3 h0
      obtain ⟨b, e1, _, w1⟩ := DataW.trod_int Tryd.underlying3 h1
      obtain ⟨s, e2, _, w2⟩ := DataW.trod_string Tryd.underlying9 h2
      simp only [List.cons.injEq, and_true] at e0 e1 e2
      exact ⟨⟨a, b, s⟩, by rw [e0, e1, e2], wf_i64ok w0, wf_i64ok w1, w2⟩


/-- A struct argument is the aggregate of its cells. -/
theorem trod_agg {T : TypeId} {fs : Array Field} {v : Value} {d : DataW H} {p : List MemPlace} {r : Reach} {b0 : Nat} (hs : Tryd.prog.underlying T = some (.struct fs)) (hv : Value.okWide Tryd.prog w r b0 T v)
    (h : DataW.Trod enc Tryd.prog w base spare held T v d p) : ∃ (cs : List Value) (n : Nat), v = .agg cs.toArray ∧ DataW.trod enc Tryd.prog w base spare held n T cs = some (d, p) := by
  obtain ⟨cs, rfl, _⟩ := okWide_struct hs hv
  obtain ⟨n, hn⟩ := h
  exact ⟨cs.toList, n, by simp, by simpa [Value.cells] using hn⟩
end
end Go.Proofs.YtiagegecnopfgaaDoor
