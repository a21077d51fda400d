/- Weak maps: small lemmas ahead of the rest. -/
import Derived.Test.YtdikdkllbhanfaaCelN
namespace Go.Proofs.Ytdikdkllbhanfaa
set_option linter.all false
open Go.RowKit Go.Sort Go.Deep

theorem ok_at {l : List Val} (h : ∀ x ∈ l, x.ok) (k : Nat) (hk : k < l.length) : (vAt l k).ok := by
  unfold vAt; rw [List.getElem?_eq_getElem hk]; exact h _ (List.getElem_mem hk)
end Go.Proofs.Ytdikdkllbhanfaa
