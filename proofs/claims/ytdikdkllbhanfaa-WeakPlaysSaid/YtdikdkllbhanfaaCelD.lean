/- Leads and Weakly: a cell's addresses. -/
import Derived.Test.YtdikdkllbhanfaaCelC
namespace Go.Proofs.Ytdikdkllbhanfaa
set_option linter.all false
open Go.RowKit Go.Sort Go.Deep Go.Shelf
attribute [local go_sem] Oper.semAt_some

set_option maxHeartbeats 1000000 in
theorem all_any (k sh fl ag : Int) (A B : Option Addr) (n ca m cb : Nat) (w : World) :
    Calls Try.prog 51 #[cellV k sh fl ag (.slice A n ca) (.slice B m cb)] w fun e w' => e = .returned (.func (.func 55) #[] #[.pointer (some ⟨w.heap.size, 0, none⟩)]) ∧ w' = w.alloc (cellO k sh fl ag (.slice A n ca) (.slice B m cb)) := by
  go_enter Try.func51, Try.ntmps51
  go_wp2
  go_ret
  exact ⟨rfl, rfl⟩
/-- the iterator's contract for a loop over it -/
theorem all_stops (c : CellD) (hc : c.ok) (sv mv : Value) (Bn : Nat) (w0 w : World) (h0 : Below w0.heap.size w0 w) (hB : w.heap[Bn]? = some (cellO c.k c.sh c.fl c.ag sv mv)) (h1 : IsV w0 sv c.sl) (h2 : IsV w0 mv c.mo) :
    SeqStopsK Fence.wide 8 Try.prog 55 #[.pointer (some ⟨Bn, 0, none⟩)] encEl (KpB w0.heap.size Bn) (fun ys => ys = elems c hc) (fun pre => pre <+: elems c hc) (elems c hc).length w := fun l J Jx W hW hJ hJx hY hh0 =>
  all1_in l Bn w0.heap.size c hc sv mv J Jx W.heap.size hJ hJx hY W ((hW.block Bn (Array.getElem?_eq_some_iff.1 hB).1).trans hB) (Nat.le_trans h0.size hW.size) w0 (Nat.le_refl _) (bl_tr h0 hW) h1 h2 hh0

/-- the addresses among these -/
def addrs (holding : Bool) (l : List El) : List Int := (l.filter fun x => x.1.1 == holding && leadsB x.1.2).map fun x => x.1.2.n
theorem addrs_snoc (holding : Bool) (l : List El) (x : El) : addrs holding (l ++ [x]) = addrs holding l ++ if x.1.1 == holding && leadsB x.1.2 then [x.1.2.n] else [] := by
  unfold addrs
  rw [List.filter_append, List.map_append]
  cases h : (x.1.1 == holding && leadsB x.1.2) <;> simp [List.filter_cons, h]
abbrev OwnI (w : World) (lo : Nat) (v : Value) (xs : List Int) : Prop := w.ownsRow lo 3 1 v xs.length (xs.map (Value.int .i64))

theorem addrs_len (holding : Bool) (l : List El) : (addrs holding l).length ≤ l.length := by
  unfold addrs
  rw [List.length_map]
  exact List.length_filter_le _ _
theorem int_info : (Try.prog.info? 3).map (fun i => (i.zero, i.size, i.bytes)) = some (some (.int .i64 0), 1, 8) := by kernel_rfl

end Go.Proofs.Ytdikdkllbhanfaa
