/- A set of integers kept as a map to Booleans. -/
import Derived.Test.YtokoigjcakgpdaaInReg
import Derived.Maps.Own
import Derived.Maps.Views
import Derived.Maps.OwnOps
namespace Go.Proofs.Ytokoigjcakgpdaa
set_option linter.all false
open Go.RowKit Go.Sort Go.Deep

theorem int_lit {a : Int} (h : i64ok a) : (Lit.int .i64 a).wf = true := by
  unfold i64ok at h
  simp [Lit.wf, IntKind.min, IntKind.max, IntKind.signed, IntKind.bits]
  omega
theorem key_int {a : Int} (h : i64ok a) : keyOf Try.prog 3 (.int .i64 a) = some (.int .i64 a) := Maps.keyOf_int_mk Try.underlying3 (int_lit h)
def MapS (w : World) (b N : Nat) (s : Int → Bool) : Prop :=
  ∃ D : DataW Unit, Maps.IsMap D ∧ w.ownsMap Try.prog 3 (plainElem Try.prog 4) b N D ∧ ∀ a, i64ok a → D.atKey (.int .i64 a) (.lit (.bool false)) = .lit (.bool (s a))
theorem MapS.lt {w : World} {b N : Nat} {f : Int → Bool} (h : MapS w b N f) : b < w.heap.size := by
  obtain ⟨_, _, h, _⟩ := h; exact h.lt
theorem MapS.block {w w' : World} {b N : Nat} {f : Int → Bool} (h : MapS w b N f) (e : w'.heap[b]? = w.heap[b]?) : MapS w' b N f := by
  obtain ⟨D, hD, ⟨es, clock, hb, hF, hs, hd⟩, hf⟩ := h
  exact ⟨D, hD, ⟨es, clock, e.trans hb, hF, hs, hd⟩, hf⟩
theorem MapS.below {w w' : World} {b N : Nat} {f : Int → Bool} (h : MapS w b N f) (hb : Below w.heap.size w w') : MapS w' b N f := h.block (hb.block _ h.lt)
theorem MapS.congr {w : World} {b N : Nat} {f g : Int → Bool} (h : MapS w b N f) (e : ∀ a, f a = g a) : MapS w b N g := by
  have : f = g := funext e
  exact this ▸ h
theorem MapS.made (w : World) : MapS (w.alloc (.map #[] 0)) w.heap.size 0 (fun _ => false) :=
  ⟨.map [], ⟨_, rfl⟩, World.ownsMap_made w _ _ _, fun a _ => rfl⟩
theorem run_makeMapS (n : Int) (w : World) : (Instr.makeMap 48 (some (.int .i64 n))).run Try.prog w = .ok (.map (some w.heap.size)) (w.alloc (.map #[] 0)) := by
  simp [Instr.makeMap, run_underlying Try.underlying48, go_sem]
theorem zero_bool (w : World) : (zeroValue 4).run Try.prog w = .ok (.bool false) w := by kernel_rfl
theorem plainElem_bool_out {v : Value} {z : DataW Unit × List MemPlace} (h : plainElem Try.prog 4 v = some z) : ∃ x, v = .bool x ∧ z.1 = .lit (.bool x) := by
  unfold plainElem at h
  rw [Try.underlying4] at h
  cases v <;> simp at h
  rename_i x
  exact ⟨x, rfl, by rw [← h]⟩
theorem MapS.look {w : World} {b N : Nat} {s : Int → Bool} (h : MapS w b N s) {a : Int} (ha : i64ok a) :
    (Instr.lookup 48 (.map (some b)) (.int .i64 a) false).run Try.prog w = .ok (.bool (s a)) w := by
  obtain ⟨D, hD, ho, hf⟩ := h
  obtain ⟨v, ps, hr, hv⟩ := ho.lookup (Maps.int_keyed Try.underlying3) Try.underlying48 (zero_bool w) (plainElem_bool Try.underlying4 false) (key_int ha)
  obtain ⟨x, rfl, hx⟩ := plainElem_bool_out hv
  simp only at hx
  rw [hf a ha] at hx
  simp at hx
  rw [hr, hx]
theorem wpList_setS {w : World} {ops : Array Oper} {rest : List Oper} {o : Oper} {a : Act} {Q : Exit → Act → World → Prop}
    (hg : o.guard = none) (m x v : Operand) (hop : o.op = Op.mapUpdate 48 m x v) {b N : Nat} {s : Int → Bool} {k : Int}
    (hm : a.eval m = .map (some b)) (hx : a.eval x = .int .i64 k) (hv : a.eval v = .bool true) (h : MapS w b N s) (hN : N < maxLen) (hk : i64ok k)
    (hK : ∀ w', MapS w' b (N + 1) (fun y => y == k || s y) → w.grownBy w' (some b) → wpList Try.prog ops Q rest (a.put o.dst undef) w') : wpList Try.prog ops Q (o :: rest) a w := by
  obtain ⟨D, hD, how, hf⟩ := h
  refine wpList_mapUpdate_own w hg m x v 48 hop 3 4 (Maps.int_keyed Try.underlying3) Try.underlying48 _ b N D hm how hN _ _ (.int .i64 k) hx hv (key_int hk) (.lit (.bool true)) [] (plainElem_bool Try.underlying4 true) ?_
  intro w' h1 h2
  refine hK w' ⟨D.put (.int .i64 k) (.lit (.bool true)), hD.put _ _, h1, fun c hc => ?_⟩ h2
  by_cases e : c = k
  · subst e
    rw [Maps.atKey_put_same hD (by trivial)]
    simp
  · have hne : Lit.int .i64 c ≠ Lit.int .i64 k := fun h => e (by injection h)
    rw [Maps.atKey_put_other hne, hf c hc]
    have : (c == k) = false := by simpa using e
    simp [this]
end Go.Proofs.Ytokoigjcakgpdaa
