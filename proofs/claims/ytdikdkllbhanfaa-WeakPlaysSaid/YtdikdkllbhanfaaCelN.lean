/- Cells: Leads, Weakly and Size, by the program and by the reference. -/
import Derived.Test.YtdikdkllbhanfaaCelM
namespace Go.Proofs.Ytdikdkllbhanfaa
set_option linter.all false
open Go.RowKit Go.Sort Go.Deep

/-- the addresses that a cell holds strongly or weakly -/
def addrD (holding : Bool) (l : List (Bool × Val)) : List Int := (l.filter fun x => x.1 == holding && leadsB x.2).map fun x => x.2.n
theorem addrs_elems (holding : Bool) (c : CellD) (h : c.ok) : addrs holding (elems c h) = addrD holding (elemsD c) := by
  unfold addrs addrD
  rw [← elems_val c h, List.filter_map, List.map_map]
  rfl
theorem addrD_append (holding : Bool) (a b : List (Bool × Val)) : addrD holding (a ++ b) = addrD holding a ++ addrD holding b := by simp [addrD]
theorem addrD_len (holding : Bool) (l : List (Bool × Val)) : (addrD holding l).length ≤ l.length := by
  unfold addrD
  rw [List.length_map]
  exact List.length_filter_le _ _
theorem addrD_snoc (holding : Bool) (l : List (Bool × Val)) (b : Bool) (v : Val) : addrD holding (l ++ [(b, v)]) = addrD holding l ++ if b == holding && leadsB v then [v.n] else [] := by
  unfold addrD
  rw [List.filter_append, List.map_append]
  cases h : (b == holding && leadsB v) <;> simp [List.filter_cons, h]
theorem elemsD_len (c : CellD) : (elemsD c).length = c.sl.length + c.mo.length := by simp [elemsD, moreD]

end Go.Proofs.Ytdikdkllbhanfaa
