/- Rows of acts; the law's few. -/
import Derived.Test.YtgajmhklinolmaaSpZd
namespace Go.Proofs.Ytgajmhklinolmaa
set_option linter.all false
open Go.RowKit Go.Sort Go.Deep

structure ActD where
  kd : Int
  n : Int
  c : CellD
structure ActR where
  kd : Int
  n : Int
  k : Int
  sh : Int
  fl : Int
  ag : Int
  sv : Value
  mv : Value
abbrev ActR.cs (r : ActR) : List Value := [.int .i64 r.kd, .int .i64 r.n, .int .i64 r.k, .int .i64 r.sh, .int .i64 r.fl, .int .i64 r.ag, r.sv, r.mv]
def Holds8 (w : World) (r : ActR) (a : ActD) : Prop := r.kd = a.kd ∧ r.n = a.n ∧ r.k = a.c.k ∧ r.sh = a.c.sh ∧ r.fl = a.c.fl ∧ r.ag = a.c.ag ∧ IsV w r.sv a.c.sl ∧ IsV w r.mv a.c.mo
def IsA (w : World) (v : Value) (l : List ActD) : Prop := ∃ rs : List ActR, SlOf w 8 ActR.cs v rs ∧ rs.length = l.length ∧ ∀ (i : Nat) (r : ActR) (a : ActD), rs[i]? = some r → l[i]? = some a → Holds8 w r a
theorem IsA.below {w w' : World} {v : Value} {l : List ActD} (h : IsA w v l) (hb : Below w.heap.size w w') : IsA w' v l := by
  obtain ⟨rs, h1, h2, h3⟩ := h
  refine ⟨rs, h1.below hb, h2, fun i r a hr ha => ?_⟩
  obtain ⟨a1, a2, a3, a4, a5, a6, a7, a8⟩ := h3 i r a hr ha
  exact ⟨a1, a2, a3, a4, a5, a6, a7.below hb, a8.below hb⟩
theorem IsA.form {w : World} {v : Value} {l : List ActD} (h : IsA w v l) : ∃ A cap, v = .slice A l.length cap ∧ l.length ≤ cap ∧ l.length ≤ maxLen := by
  obtain ⟨rs, h1, h2, _⟩ := h
  obtain ⟨A, cap, rfl, hc, hm⟩ := h1.form
  rw [h2] at hc hm ⊢
  exact ⟨A, cap, rfl, hc, hm⟩
end Go.Proofs.Ytgajmhklinolmaa
