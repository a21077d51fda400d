/- Inline caches: entries, sites and caches as they stand in memory, and what each operation makes of them. -/
import Derived.Test.YtbgcjgnhblhohaaIt
namespace Go.Proofs.Ytbgcjgnhblhohaa
set_option linter.all false
open Go.ChangeShapes Go.WideShapes Go.ChangeAt Go.RowKit Go.Sort Go.Deep

/-- An entry: the key, and five numbers. -/
structure Ent where
  k : Val
  sh : Int
  ep : Int
  ho : Int
  sl : Int
  fo : Int
deriving DecidableEq
def Ent.ok (e : Ent) : Prop := e.k.ok ∧ i64ok e.sh ∧ i64ok e.ep ∧ i64ok e.ho ∧ i64ok e.sl ∧ i64ok e.fo
abbrev Ent.cs (e : Ent) : List Value := [.int .i64 e.k.k, .int .i64 e.k.n, .string e.k.s, .int .i64 e.sh, .int .i64 e.ep, .int .i64 e.ho, .int .i64 e.sl, .int .i64 e.fo]
abbrev Ent.agg (e : Ent) : Value := .agg #[.int .i64 e.k.k, .int .i64 e.k.n, .string e.k.s, .int .i64 e.sh, .int .i64 e.ep, .int .i64 e.ho, .int .i64 e.sl, .int .i64 e.fo]
abbrev Ent.zero : Ent := ⟨.zero, 0, 0, 0, 0, 0⟩
instance : Inhabited Ent := ⟨.zero⟩
theorem ent_len (x : Ent) : (Ent.cs x).length = 8 := rfl
/-- Go's == on entries -/
def Ent.eq (a b : Ent) : Bool := a.k.eq b.k && a.sh == b.sh && a.ep == b.ep && a.ho == b.ho && a.sl == b.sl && a.fo == b.fo
theorem Ent.eq_iff {a b : Ent} : a.eq b = true ↔ a = b := by
  obtain ⟨k, s1, s2, s3, s4, s5⟩ := a
  obtain ⟨k', s1', s2', s3', s4', s5'⟩ := b
  simp only [Ent.eq, Bool.and_eq_true, beq_iff_eq, Ent.mk.injEq, Val.eq_iff, and_assoc]
theorem Ent.eq_self (a : Ent) : a.eq a = true := Ent.eq_iff.2 rfl
theorem Ent.eq_false {a b : Ent} : a.eq b = false ↔ a ≠ b := by rw [← Bool.not_eq_true, Ne, Ent.eq_iff]
theorem Ent.eq_cols (e : Ent) : (Ent.mk ⟨e.k.k, e.k.n, e.k.s⟩ e.sh e.ep e.ho e.sl e.fo).eq ⟨⟨e.k.k, e.k.n, e.k.s⟩, e.sh, e.ep, e.ho, e.sl, e.fo⟩ = true := Ent.eq_self _

theorem ent_eql (a b : Int) (s : ByteArray) (c d e f g a' b' : Int) (s' : ByteArray) (c' d' e' f' g' : Int) (w : World) : (binOp .eql 33 (.agg #[.int .i64 a, .int .i64 b, .string s, .int .i64 c, .int .i64 d, .int .i64 e, .int .i64 f, .int .i64 g]) (.agg #[.int .i64 a', .int .i64 b', .string s', .int .i64 c', .int .i64 d', .int .i64 e', .int .i64 f', .int .i64 g'])).run Try.prog w = .ok (.bool ((Ent.mk ⟨a, b, s⟩ c d e f g).eq ⟨⟨a', b', s'⟩, c', d', e', f', g'⟩)) w := by
  simp [go_sem, Ent.eq, Val.eq]
  by_cases h1 : a = a' <;> by_cases h2 : b = b' <;> by_cases h3 : s.toList = s'.toList <;> by_cases h4 : c = c' <;> by_cases h5 : d = d' <;> by_cases h6 : e = e' <;> by_cases h7 : f = f' <;> by_cases h8 : g = g' <;> simp [h1, h2, h3, h4, h5, h6, h7, h8]
theorem ent_neq (a b : Int) (s : ByteArray) (c d e f g a' b' : Int) (s' : ByteArray) (c' d' e' f' g' : Int) (w : World) : (binOp .neq 33 (.agg #[.int .i64 a, .int .i64 b, .string s, .int .i64 c, .int .i64 d, .int .i64 e, .int .i64 f, .int .i64 g]) (.agg #[.int .i64 a', .int .i64 b', .string s', .int .i64 c', .int .i64 d', .int .i64 e', .int .i64 f', .int .i64 g'])).run Try.prog w = .ok (.bool (!(Ent.mk ⟨a, b, s⟩ c d e f g).eq ⟨⟨a', b', s'⟩, c', d', e', f', g'⟩)) w := by
  simp [go_sem, Ent.eq, Val.eq]
  by_cases h1 : a = a' <;> by_cases h2 : b = b' <;> by_cases h3 : s.toList = s'.toList <;> by_cases h4 : c = c' <;> by_cases h5 : d = d' <;> by_cases h6 : e = e' <;> by_cases h7 : f = f' <;> by_cases h8 : g = g' <;> simp [h1, h2, h3, h4, h5, h6, h7, h8]
theorem rent_neq (a b : Int) (s : ByteArray) (c d e f g a' b' : Int) (s' : ByteArray) (c' d' e' f' g' : Int) (w : World) : (binOp .neq 25 (.agg #[.int .i64 a, .int .i64 b, .string s, .int .i64 c, .int .i64 d, .int .i64 e, .int .i64 f, .int .i64 g]) (.agg #[.int .i64 a', .int .i64 b', .string s', .int .i64 c', .int .i64 d', .int .i64 e', .int .i64 f', .int .i64 g'])).run Try.prog w = .ok (.bool (!(Ent.mk ⟨a, b, s⟩ c d e f g).eq ⟨⟨a', b', s'⟩, c', d', e', f', g'⟩)) w := by
  simp [go_sem, Ent.eq, Val.eq]
  by_cases h1 : a = a' <;> by_cases h2 : b = b' <;> by_cases h3 : s.toList = s'.toList <;> by_cases h4 : c = c' <;> by_cases h5 : d = d' <;> by_cases h6 : e = e' <;> by_cases h7 : f = f' <;> by_cases h8 : g = g' <;> simp [h1, h2, h3, h4, h5, h6, h7, h8]
theorem rent_eql (a b : Int) (s : ByteArray) (c d e f g a' b' : Int) (s' : ByteArray) (c' d' e' f' g' : Int) (w : World) : (binOp .eql 25 (.agg #[.int .i64 a, .int .i64 b, .string s, .int .i64 c, .int .i64 d, .int .i64 e, .int .i64 f, .int .i64 g]) (.agg #[.int .i64 a', .int .i64 b', .string s', .int .i64 c', .int .i64 d', .int .i64 e', .int .i64 f', .int .i64 g'])).run Try.prog w = .ok (.bool ((Ent.mk ⟨a, b, s⟩ c d e f g).eq ⟨⟨a', b', s'⟩, c', d', e', f', g'⟩)) w := by
  simp [go_sem, Ent.eq, Val.eq]
  by_cases h1 : a = a' <;> by_cases h2 : b = b' <;> by_cases h3 : s.toList = s'.toList <;> by_cases h4 : c = c' <;> by_cases h5 : d = d' <;> by_cases h6 : e = e' <;> by_cases h7 : f = f' <;> by_cases h8 : g = g' <;> simp [h1, h2, h3, h4, h5, h6, h7, h8]
attribute [simp] ent_eql ent_neq rent_neq rent_eql

/-- does an entry belong to a key and a shape? -/
def ofB (x : Ent) (k : Val) (sh : Int) : Bool := x.k.eq k && x.sh == sh
/-- .. and to the epoch -/
def fitB (x : Ent) (k : Val) (sh ep : Int) : Bool := ofB x k sh && (x.ho == 0 || x.ep == ep)

/-- A site. -/
structure SiteD where
  l : List Ent
  many : Bool
/-- A cache. -/
structure CacheD where
  most : Nat
  sites : List SiteD
  hits : Int
  miss : Int
/-- every site has at most as many entries as it may have -/
def CacheD.wf (c : CacheD) : Prop := c.most ≤ 4 ∧ ∀ s ∈ c.sites, s.l.length ≤ c.most ∧ (s.many = true → s.l = []) ∧ ∀ e ∈ s.l, e.ok
def siteD (c : CacheD) (n : Int) : Option SiteD := if 0 ≤ n then c.sites[n.toNat]? else none

def lookS (c : CacheD) (n : Int) (k : Val) (sh ep : Int) : Option Ent := (siteD c n).bind fun s => s.l.find? fun x => fitB x k sh ep
def lookC (c : CacheD) (n : Int) (k : Val) (sh ep : Int) : CacheD :=
  match siteD c n with
  | none => c
  | some s => if (s.l.find? fun x => fitB x k sh ep).isSome then { c with hits := c.hits + 1 } else { c with miss := c.miss + 1 }
def putS (c : CacheD) (n : Int) (s : SiteD) : CacheD := { c with sites := c.sites.set n.toNat s }
/-- what Note leaves, and what it returns -/
def noteC (c : CacheD) (n : Int) (x : Ent) : CacheD × Bool :=
  match siteD c n with
  | none => (c, false)
  | some s =>
    if c.most = 0 ∨ s.many = true then (c, false)
    else match s.l.findIdx? (fun y => ofB y x.k x.sh) with
      | some i => (putS c n ⟨s.l.set i x, false⟩, true)
      | none => if s.l.length < c.most then (putS c n ⟨s.l ++ [x], false⟩, true) else (putS c n ⟨[], true⟩, false)
def stateD (c : CacheD) (n : Int) : Int :=
  match siteD c n with
  | none => 0
  | some s => if s.many then 3 else min s.l.length 2
def entriesD (c : CacheD) (n : Int) : List Ent := (siteD c n).elim [] SiteD.l
def dropC (c : CacheD) (n : Int) : CacheD × Bool :=
  match siteD c n with
  | none => (c, false)
  | some _ => (putS c n ⟨[], false⟩, true)
def flushC (c : CacheD) : CacheD := { c with sites := c.sites.map fun _ => ⟨[], false⟩ }

/-- in the row arr, from o on, stands the site s -/
def SiteIn (arr : Array Value) (o : Nat) (s : SiteD) : Prop :=
  s.l.length ≤ 4 ∧ (∀ i e, s.l[i]? = some e → ∀ j u, (Ent.cs e)[j]? = some u → arr[o + i * 8 + j]? = some u) ∧ arr[o + 32]? = some (.int .i64 s.l.length) ∧ arr[o + 33]? = some (.bool s.many)
/-- the cache at block C, its sites at block S -/
structure CacheIn (w : World) (C S : Nat) (c : CacheD) : Prop where
  ne : C ≠ S
  le : c.sites.length ≤ 1048576
  head : w.heap[C]? = some (.cells #[.slice (some ⟨S, 0, none⟩) c.sites.length c.sites.length, .int .i64 c.most, .int .i64 c.hits, .int .i64 c.miss] 60)
  body : ∃ arr, w.heap[S]? = some (.cells arr 65) ∧ arr.size = c.sites.length * 34 ∧ ∀ i s, c.sites[i]? = some s → SiteIn arr (i * 34) s

theorem CacheIn.ltC {w : World} {C S : Nat} {c : CacheD} (h : CacheIn w C S c) : C < w.heap.size := (Array.getElem?_eq_some_iff.1 h.head).1
theorem CacheIn.ltS {w : World} {C S : Nat} {c : CacheD} (h : CacheIn w C S c) : S < w.heap.size := by
  obtain ⟨arr, ha, _⟩ := h.body
  exact (Array.getElem?_eq_some_iff.1 ha).1
theorem CacheIn.same {w w' : World} {C S : Nat} {c : CacheD} (h : CacheIn w C S c) (hC : w'.heap[C]? = w.heap[C]?) (hS : w'.heap[S]? = w.heap[S]?) : CacheIn w' C S c := by
  obtain ⟨arr, ha, hb⟩ := h.body
  exact ⟨h.ne, h.le, hC.trans h.head, arr, hS.trans ha, hb⟩
theorem CacheIn.below {w w' : World} {C S : Nat} {c : CacheD} (h : CacheIn w C S c) (hb : Below w.heap.size w w') : CacheIn w' C S c := h.same (hb.block _ h.ltC) (hb.block _ h.ltS)
theorem CacheIn.soft {B : Nat} {w w' : World} {C S : Nat} {c : CacheD} (h : CacheIn w C S c) (hs : Soft B w w') : CacheIn w' C S c := by
  obtain ⟨arr, ha, hb⟩ := h.body
  exact ⟨h.ne, h.le, hs.heap h.head, arr, hs.heap ha, hb⟩
/-- the fields of a cache, as cells -/
theorem CacheIn.cells {w : World} {C S : Nat} {c : CacheD} (h : CacheIn w C S c) : w.cell? ⟨C, 0, none⟩ = some (.slice (some ⟨S, 0, none⟩) c.sites.length c.sites.length) ∧ w.cell? ⟨C, 1, none⟩ = some (.int .i64 c.most) ∧ w.cell? ⟨C, 2, none⟩ = some (.int .i64 c.hits) ∧ w.cell? ⟨C, 3, none⟩ = some (.int .i64 c.miss) ∧
    w.frozen? ⟨C, 2, none⟩ = false ∧ w.frozen? ⟨C, 3, none⟩ = false :=
  ⟨by rw [cell_of_row w C _ _ _ _ h.head]; rfl, by rw [cell_of_row w C _ _ _ _ h.head]; rfl, by rw [cell_of_row w C _ _ _ _ h.head]; rfl, by rw [cell_of_row w C _ _ _ _ h.head]; rfl, frozen_of_row w C _ _ _ h.head, frozen_of_row w C _ _ _ h.head⟩
/-- the fields of a site, as cells -/
theorem CacheIn.site {w : World} {C S : Nat} {c : CacheD} (h : CacheIn w C S c) {n : Nat} {s : SiteD} (hs : c.sites[n]? = some s) : s.l.length ≤ 4 ∧ w.cell? ⟨S, n * 34 + 32, none⟩ = some (.int .i64 s.l.length) ∧ w.cell? ⟨S, n * 34 + 33, none⟩ = some (.bool s.many) ∧
    (∀ j, w.frozen? ⟨S, j, none⟩ = false) ∧ ∀ i e, s.l[i]? = some e → ∀ j u, (Ent.cs e)[j]? = some u → w.cell? ⟨S, n * 34 + i * 8 + j, none⟩ = some u := by
  obtain ⟨arr, ha, hz, hb⟩ := h.body
  obtain ⟨h4, h5, h6, h7⟩ := hb n s hs
  exact ⟨h4, by rw [cell_of_row w S _ _ _ _ ha]; exact h6, by rw [cell_of_row w S _ _ _ _ ha]; exact h7, fun j => frozen_of_row w S _ _ _ ha, fun i e he j u hu => by rw [cell_of_row w S _ _ _ _ ha]; exact h5 i e he j u hu⟩
end Go.Proofs.Ytbgcjgnhblhohaa
