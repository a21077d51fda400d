/- Rows of bytes that a call owns: one byte appended; turned to a string. -/
import Derived.Test.YtkbbgnmhfkilgaaLitD
import Derived.Laws.AppendOwn
import Derived.Laws.IdiomStrings
import Derived.Lib.UnsafeStr
namespace Go.Proofs.Ytkbbgnmhfkilgaa
set_option linter.all false
open Go.RowKit Go.Sort

/-- v is a row of bytes of the call's own that holds l; its block is not below B -/
def OwnB (w : World) (B : Nat) (v : Value) (l : List UInt8) : Prop := w.ownsRow B 5 1 v l.length (Lib.byteCells l)
theorem info_u8 : (Try.prog.info? 5).map (fun i => (i.zero, i.size, i.bytes)) = some (some (.int .u8 0), 1, 1) := by kernel_rfl
theorem OwnB.nil_ (w : World) (B : Nat) : OwnB w B (.slice none 0 0) [] := World.ownsRow_nil _ _ _ _
theorem OwnB.below {w w' : World} {B : Nat} {v : Value} {l : List UInt8} (h : OwnB w B v l) (hb : Below w.heap.size w w') : OwnB w' B v l := by
  refine ⟨h.1, ?_⟩
  rcases h.2 with h0 | ⟨g, cap, cur, rfl, hbb, hg, rest⟩
  · exact .inl h0
  · exact .inr ⟨g, cap, cur, rfl, hbb, by rw [hb.block g (Array.getElem?_eq_some_iff.1 hg).1]; exact hg, rest⟩
theorem OwnB.gr {w : World} {B : Nat} {v : Value} {l : List UInt8} (h : OwnB w B v l) (p : Regrown) : OwnB (gr w p) B v l := h.below (below_gr w p)
theorem OwnB.alloc {w : World} {B : Nat} {v : Value} {l : List UInt8} (h : OwnB w B v l) (o : Obj) : OwnB (w.alloc o) B v l := World.ownsRow.alloc h o
theorem OwnB.form {w : World} {B : Nat} {v : Value} {l : List UInt8} (h : OwnB w B v l) : ∃ A cap, v = .slice A l.length cap := by
  rcases h.2 with ⟨rfl, h0⟩ | ⟨g, cap, cur, rfl, _⟩
  · exact ⟨none, 0, by rw [h0]⟩
  · exact ⟨_, _, rfl⟩
theorem byteCells_at (l : List UInt8) (j : Nat) (hj : j < l.length) : (Lib.byteCells l)[j]? = some (.int .u8 (l[j].toNat : Int)) := by
  unfold Lib.byteCells
  rw [List.getElem?_map, List.getElem?_eq_getElem hj]
  rfl

theorem grown_below {B : Nat} {w w' : World} {row : Option Nat} (h : w.grownBy w' row) (hrow : ∀ k, row = some k → B ≤ k) (hB : B ≤ w.heap.size) : Below B w w' :=
  ⟨h.os, h.tape, h.output, h.size, fun k hk => h.block k (by omega) (fun e => by have := hrow k e.symm; omega)⟩

/-- append(out, c) -/
theorem append_byte {ops : Array Oper} {rest : List Oper} {o : Oper} {a : Act} {w : World} {Q : Exit → Act → World → Prop} (hgd : o.guard = none) (s x : Operand)
    (ho : o.op = .call { callee := .builtin .append, args := #[s, x], argTypes := #[32, 32] })
    (B : Nat) (v : Value) (l : List UInt8) (c : Int) (hs : a.eval s = v) (hown : OwnB w B v l) (ad : Addr) (cap : Nat) (hx : a.eval x = .slice (some ad) 1 cap) (hcell : w.cell? ad = some (.int .u8 c))
    (hc : 0 ≤ c) (hc' : c < 256) (hl : l.length ≤ 70368744177664) (hB : B ≤ w.heap.size)
    (h : ∀ A cap w', OwnB w' B (.slice A (l ++ [UInt8.ofNat c.toNat]).length cap) (l ++ [UInt8.ofNat c.toNat]) → Below B w w' → wpList Try.prog ops Q rest (a.put o.dst (.slice A (l ++ [UInt8.ofNat c.toNat]).length cap)) w') : wpList Try.prog ops Q (o :: rest) a w := by
  obtain ⟨i0, hi, hz0, hz1, hz2⟩ := info_parts info_u8
  have hcc : ((UInt8.ofNat c.toNat).toNat : Int) = c := by
    have : (UInt8.ofNat c.toNat).toNat = c.toNat := by
      rw [UInt8.toNat_ofNat']
      omega
    rw [this]
    omega
  refine wpList_append_own w hgd s x _ ho B 5 i0 (.int .u8 0) 1 1 Try.underlying32 hi hz0 hz1 hz2 rfl (by omega) v l.length (Lib.byteCells l) hs hown ad 1 cap [.int .u8 c] hx rfl ?_ ?_ (by unfold maxLen; omega) (by omega) hB fun v' w' h2 h3 _ => ?_
  · intro j u hu
    match j, hu with
    | 0, hu =>
      simp only [List.getElem?_cons_zero, Option.some.injEq] at hu
      subst hu
      simpa [Addr.add] using hcell
  · intro u hu
    simp only [List.mem_singleton] at hu
    subst hu
    rfl
  · have h2' : OwnB w' B v' (l ++ [UInt8.ofNat c.toNat]) := by
      unfold OwnB
      rw [List.length_append, List.length_singleton]
      have : Lib.byteCells (l ++ [UInt8.ofNat c.toNat]) = Lib.byteCells l ++ [.int .u8 c] := by
        simp only [Lib.byteCells, List.map_append, List.map_cons, List.map_nil, hcc]
      rw [this]
      exact h2
    obtain ⟨A, cap', rfl⟩ := h2'.form
    exact h A cap' w' h2' (grown_below h3 (fun k hk => (World.ownsRow.lt hown k hk).1) hB)

/-- string(out) -/
theorem bytes_string {w : World} {B : Nat} {v : Value} {l : List UInt8} (h : OwnB w B v l) : (convert 32 9 v).run Try.prog w = .ok (.string ⟨l.toArray⟩) w := by
  rcases h.2 with ⟨rfl, h0⟩ | ⟨g, cap, cur, rfl, _⟩
  · obtain rfl : l = [] := List.eq_nil_of_length_eq_zero h0
    rw [run_convert_bytes_string w 32 9 5 none 0 0 Try.underlying32 Try.underlying5 Try.underlying9]
    rfl
  · exact run_convert_bytes_back w 32 9 5 ⟨g, 0, none⟩ cap l Try.underlying32 Try.underlying5 Try.underlying9 (fun j hj => World.ownsRow.cells h (g := g) rfl j _ (byteCells_at l j hj))
end Go.Proofs.Ytkbbgnmhfkilgaa
