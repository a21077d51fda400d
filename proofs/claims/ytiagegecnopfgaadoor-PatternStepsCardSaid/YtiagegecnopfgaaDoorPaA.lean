/- Trees, steps and what the compiler of patterns lays down (no program in sight). -/
import Derived.Test.YtiagegecnopfgaaDoorOwn
import Derived.Lib.ItoaLen
namespace Go.Proofs.YtiagegecnopfgaaDoor
set_option linter.all false
open Go.ChangeShapes Go.WideShapes Go.ChangeAt Go.RowKit Go.Sort Go.Deep

def strL (l : List UInt8) : ByteArray := ⟨l.toArray⟩
/-- a node of a syntax tree -/
inductive Tree where
  | mk (op at_ n m : Int) (s : ByteArray) (kids : List Tree)
namespace Tree
def op : Tree → Int | .mk o _ _ _ _ _ => o
def at_ : Tree → Int | .mk _ a _ _ _ _ => a
def n : Tree → Int | .mk _ _ n _ _ _ => n
def m : Tree → Int | .mk _ _ _ m _ _ => m
def s : Tree → ByteArray | .mk _ _ _ _ s _ => s
def kids : Tree → List Tree | .mk _ _ _ _ _ k => k
/-- the empty node -/
def z : Tree := .mk 0 0 0 0 ⟨#[]⟩ []
theorem eta (t : Tree) : t = .mk t.op t.at_ t.n t.m t.s t.kids := by cases t; rfl
theorem kid_lt {t c : Tree} (h : c ∈ t.kids) : SizeOf.sizeOf c < SizeOf.sizeOf t := by
  cases t with
  | mk o a n m s k =>
    have := List.sizeOf_lt_of_mem h
    simp [Tree.kids] at *
    omega
/-- induction over the kids -/
theorem ind {P : Tree → Prop} (h : ∀ t : Tree, (∀ c ∈ t.kids, P c) → P t) (t : Tree) : P t := by
  have : ∀ N (t : Tree), SizeOf.sizeOf t ≤ N → P t := by
    intro N
    induction N with
    | zero =>
      intro t ht
      cases t
      simp at ht
    | succ N ih => exact fun t ht => h t fun c hc => ih c (by have := kid_lt hc; omega)
  exact this _ t (Nat.le_refl _)
end Tree
instance : Inhabited Tree := ⟨Tree.z⟩
mutual
/-- the number of nodes -/
def sizeT : Tree → Nat
  | .mk _ _ _ _ _ k => 1 + sizeK k
def sizeK : List Tree → Nat
  | [] => 0
  | t :: l => sizeT t + sizeK l
end
theorem sizeT_eq (t : Tree) : sizeT t = 1 + sizeK t.kids := by cases t; rw [sizeT]; rfl
theorem sizeT_pos (t : Tree) : 0 < sizeT t := by rw [sizeT_eq]; omega
theorem sizeK_len (l : List Tree) : l.length ≤ sizeK l := by
  induction l with
  | nil => simp
  | cons t l ih =>
    rw [sizeK]
    have := sizeT_pos t
    simp
    omega
theorem sizeK_mem {l : List Tree} {t : Tree} (h : t ∈ l) : sizeT t ≤ sizeK l := by
  induction l with
  | nil => cases h
  | cons u l ih =>
    rw [sizeK]
    rcases List.mem_cons.1 h with rfl | h
    · omega
    · have := ih h
      omega
theorem sizeT_kid {t c : Tree} (h : c ∈ t.kids) : sizeT c < sizeT t := by
  rw [sizeT_eq t]
  have := sizeK_mem h
  omega
mutual
/-- the depth of patterns -/
def deepT : Tree → Int
  | .mk op _ _ _ _ k => if op = 60 ∨ op = 61 then deepK k + 1 else if op = 63 ∨ op = 64 then deepA k else if op = 62 then deepB k else 0
def deepK : List Tree → Int
  | [] => 0
  | t :: l => max (deepT t) (deepK l)
def deepA : List Tree → Int
  | [] => 0
  | t :: _ => deepT t
def deepB : List Tree → Int
  | [] => 0
  | _ :: l => deepA l
end
/-- a step -/
structure StepD where
  k : Int
  r : Int
  f : Int
  s : ByteArray
  nd : Tree
  ks : List Int
abbrev bs0 : ByteArray := ⟨#[]⟩
/-- the maker -/
structure Mk where
  l : List StepD
  g : Int
  b : Bool
def Mk.lay (x : Mk) (s : StepD) : Mk := { x with l := x.l ++ [s] }
def Mk.bad (x : Mk) : Mk := { x with b := true }
def Mk.next (x : Mk) : Mk := { x with g := x.g + 1 }
/-- the name of a key that is not computed -/
def keyS (t : Tree) : ByteArray := if t.op = 31 then t.s else strL (Lib.itoa t.n)
def keyOk (t : Tree) : Bool := t.op == 31 || t.op == 30
/-- the last kid is a rest -/
def restK : List Tree → Bool
  | [] => false
  | [t] => t.op == 64
  | _ :: t :: l => restK (t :: l)
mutual
def apT : Tree → Int → Mk → Mk
  | .mk op a n m s k, r, x =>
    if op = 34 ∨ op = 51 ∨ op = 52 then x.lay ⟨10, 0, r, bs0, .mk op a n m s k, []⟩
    else if op = 63 then (if k.length = 2 then apA k r (x.lay ⟨9, r, 0, bs0, k.getD 1 default, []⟩) else x.bad)
    else if op = 61 then obT (restK k) k r [] (x.lay ⟨1, 0, r, bs0, Tree.z, []⟩)
    else if op = 60 then arT k x.g ((x.next.lay ⟨4, x.g, r, bs0, Tree.z, []⟩).lay ⟨12, 0, x.g, bs0, Tree.z, []⟩)
    else x.bad
/-- the first kid -/
def apA : List Tree → Int → Mk → Mk
  | [], _, x => x
  | t :: _, r, x => apT t r x
/-- the second kid -/
def apB : List Tree → Int → Mk → Mk
  | [], _, x => x
  | _ :: l, r, x => apA l r x
/-- the first kid of a node -/
def apR : Tree → Int → Mk → Mk
  | .mk _ _ _ _ _ k, r, x => apA k r x
/-- the second kid of a node -/
def apP : Tree → Int → Mk → Mk
  | .mk _ _ _ _ _ k, r, x => apB k r x
/-- the properties of an object pattern -/
def obT (rm : Bool) : List Tree → Int → List Int → Mk → Mk
  | [], _, _, x => x
  | t :: l, r, ks, x =>
    if t.op = 64 then
      let x := if l.isEmpty && t.kids.length == 1 then x else x.bad
      obT rm l r ks (if x.b then x else apR t x.g (x.next.lay ⟨3, x.g, r, bs0, Tree.z, ks⟩))
    else if t.op = 62 ∧ t.kids.length = 2 then
      if t.m = 1 then
        obT rm l r (ks ++ [x.g]) (apP t (x.g + 1) ((x.next.lay ⟨11, x.g, 0, bs0, t.kids.getD 0 default, []⟩).next.lay ⟨2, x.g + 1, r, bs0, Tree.z, [x.g]⟩))
      else if keyOk (t.kids.getD 0 default) then
        if rm then obT rm l r (ks ++ [x.g]) (apP t (x.g + 1) ((x.next.lay ⟨11, x.g, 0, keyS (t.kids.getD 0 default), Tree.z, []⟩).next.lay ⟨2, x.g + 1, r, bs0, Tree.z, [x.g]⟩))
        else obT rm l r ks (apP t x.g (x.next.lay ⟨2, x.g, r, keyS (t.kids.getD 0 default), Tree.z, []⟩))
      else obT rm l r ks x.bad
    else obT rm l r ks x.bad
/-- the elements of an array pattern -/
def arT : List Tree → Int → Mk → Mk
  | [], it, x => x.lay ⟨8, 0, it, bs0, Tree.z, []⟩
  | t :: l, it, x =>
    if x.b then x
    else if t.op = 40 then arT l it (x.lay ⟨6, 0, it, bs0, Tree.z, []⟩)
    else if t.op = 64 then
      let x := if l.isEmpty && t.kids.length == 1 then x else x.bad
      arT l it (if x.b then x else apR t x.g (x.next.lay ⟨7, x.g, it, bs0, Tree.z, []⟩))
    else arT l it (apT t x.g (x.next.lay ⟨5, x.g, it, bs0, Tree.z, []⟩))
end
/-- what Steps answers: steps, registers, error -/
def stepsT (t : Tree) : List StepD × Int × Int :=
  if 200 < deepT t then ([], 0, 10)
  else if (apT t 0 ⟨[], 1, false⟩).b then ([], 0, 24)
  else ((apT t 0 ⟨[], 1, false⟩).l, (apT t 0 ⟨[], 1, false⟩).g, 0)
end Go.Proofs.YtiagegecnopfgaaDoor
