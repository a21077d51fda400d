/- Lists of numbers as arguments. -/
import Derived.Test.YtdikdkllbhanfaaCelM
import Derived.Test.YtdikdkllbhanfaaFit
namespace Go.Proofs.Ytdikdkllbhanfaa
set_option linter.all false
open Go.ChangeShapes Go.WideShapes Go.ChangeAt Go.RowKit Go.Deep
section
variable {H : Type} {enc : TypeId × Value → H} {w : World} {base : Nat} {spare : Nat → Bool} {held : Bool}
theorem arg_one {T E : TypeId} {v : Value} {d : DataW H} {p : List MemPlace} {r : Reach} {b0 : Nat} (hs : Try.prog.underlying T = some (.slice E)) (hv : Value.okWide Try.prog w r b0 T v)
    (h : DataW.Trod enc Try.prog w base spare held T v d p) : ∃ n : Nat, DataW.trod enc Try.prog w base spare held n T [v] = some (d, p) := by
  obtain ⟨a, len, cap, rfl⟩ := okWide_slice hs hv
  obtain ⟨n, hn⟩ := h
  exact ⟨n, by simpa [Value.cells] using hn⟩
theorem arg_intsf {v : Value} {d : DataW H} {p : List MemPlace} {r : Reach} {b0 : Nat} (hv : Value.okWide Try.prog w r b0 25 v) (h : DataW.Trod enc Try.prog w base spare held 25 v d p) (hl : light 25 d) :
    ∃ l : List Int, IsI w v l ∧ ∀ x ∈ l, i64ok x := by
  obtain ⟨n, hn⟩ := arg_one Try.underlying25 hv h
  obtain ⟨v', l, e, h1, h2, _⟩ := open_slf (α := Int) (en := intCs) (ok := i64ok) (n := 1) Try.underlying25 (by kernel_rfl) (by omega) (bytes := 8) (by kernel_rfl) (fun m cs x h _ => by
    obtain ⟨a, e0, _, w0⟩ := DataW.trod_int Try.underlying3 h
    exact ⟨a, e0, wf_i64ok w0⟩) hn hl
  simp only [List.cons.injEq, and_true] at e
  subst e
  exact ⟨l, h1, h2⟩
end
end Go.Proofs.Ytdikdkllbhanfaa
