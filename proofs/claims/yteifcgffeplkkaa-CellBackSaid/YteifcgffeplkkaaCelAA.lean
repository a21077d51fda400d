/- A map from integers to integers that a call makes. -/
import Derived.Test.YteifcgffeplkkaaOwn
import Derived.Maps.Own
import Derived.Maps.Views
import Derived.Maps.OwnOps
namespace Go.Proofs.Yteifcgffeplkkaa
set_option linter.all false
open Go.RowKit Go.Sort Go.Deep

theorem int_lit {a : Int} (h : i64ok a) : (Lit.int .i64 a).wf = true := by
  unfold i64ok at h
  simp [Lit.wf, IntKind.min, IntKind.max, IntKind.signed, IntKind.bits]
  omega
theorem key_int {a : Int} (h : i64ok a) : keyOf Try.prog 3 (.int .i64 a) = some (.int .i64 a) := Maps.keyOf_int_mk Try.underlying3 (int_lit h)
/-- block b is a map of at most N entries in which every key a has the element f a -/
def MapI (w : World) (b N : Nat) (f : Int → Option Int) : Prop :=
  ∃ D : DataW Unit, Maps.IsMap D ∧ w.ownsMap Try.prog 3 (plainElem Try.prog 3) b N D ∧ ∀ a, i64ok a →
    ((f a = none → ∀ z, D.atKey (.int .i64 a) z = z) ∧ ∀ y, f a = some y → ∀ z, D.atKey (.int .i64 a) z = .lit (.int .i64 y))
theorem MapI.lt {w : World} {b N : Nat} {f : Int → Option Int} (h : MapI w b N f) : b < w.heap.size := by
  obtain ⟨_, _, h, _⟩ := h; exact h.lt
theorem MapI.block {w w' : World} {b N : Nat} {f : Int → Option Int} (h : MapI w b N f) (e : w'.heap[b]? = w.heap[b]?) : MapI w' b N f := by
  obtain ⟨D, hD, ⟨es, clock, hb, hF, hs, hd⟩, hf⟩ := h
  exact ⟨D, hD, ⟨es, clock, e.trans hb, hF, hs, hd⟩, hf⟩
theorem MapI.below {w w' : World} {b N : Nat} {f : Int → Option Int} (h : MapI w b N f) (hb : Below w.heap.size w w') : MapI w' b N f := h.block (hb.block _ h.lt)
theorem MapI.congr {w : World} {b N : Nat} {f g : Int → Option Int} (h : MapI w b N f) (e : ∀ a, f a = g a) : MapI w b N g := by
  have : f = g := funext e
  exact this ▸ h
theorem MapI.made (w : World) : MapI (w.alloc (.map #[] 0)) w.heap.size 0 (fun _ => none) :=
  ⟨.map [], ⟨_, rfl⟩, World.ownsMap_made w _ _ _, fun a _ => ⟨fun _ z => rfl, fun y h => by simp at h⟩⟩
theorem run_makeMapI (n : Int) (w : World) : (Instr.makeMap 48 (some (.int .i64 n))).run Try.prog w = .ok (.map (some w.heap.size)) (w.alloc (.map #[] 0)) := by
  simp [Instr.makeMap, run_underlying Try.underlying48, go_sem]
theorem zero_int (w : World) : (zeroValue 3).run Try.prog w = .ok (.int .i64 0) w := by
  simp [zeroValue, go_sem]
  first | rfl | (simp [Try.t3]; done) | kernel_rfl
theorem MapI.look {w : World} {b N : Nat} {f : Int → Option Int} (h : MapI w b N f) {a : Int} (ha : i64ok a) :
    (Instr.lookup 48 (.map (some b)) (.int .i64 a) true).run Try.prog w = .ok (.tuple #[.int .i64 ((f a).getD 0), .bool (f a).isSome]) w := by
  obtain ⟨D, hD, ⟨es, clock, hb, hF, hs, hd⟩, hf⟩ := h
  obtain ⟨h1, h2⟩ := hf a ha
  rcases Maps.fit_look true (Maps.int_keyed Try.underlying3) Try.underlying48 (zero_int w) hb hF (key_int ha) with ⟨hr, _, hat⟩ | ⟨e0, y, _, _, hr, hR, hat, _⟩
  · cases hfa : f a with
    | none => rw [hr]; rfl
    | some y =>
      have e1 := h2 y hfa (.lit (.int .i64 (y + 1)))
      have e2 := hat (.lit (.int .i64 (y + 1)))
      rw [← hd, e1] at e2
      simp at e2
      omega
  · obtain ⟨x, hx, hy, hw⟩ := plainElem_int_inv Try.underlying3 hR
    rw [hr, hx]
    cases hfa : f a with
    | none =>
      have e1 := h1 hfa (.lit (.int .i64 (x + 1)))
      have e2 := hat (.lit (.int .i64 (x + 1)))
      rw [← hd, e1, hy] at e2
      simp at e2
      omega
    | some v =>
      have e1 := h2 v hfa (.lit (.int .i64 0))
      have e2 := hat (.lit (.int .i64 0))
      rw [← hd, e1, hy] at e2
      simp at e2
      subst e2
      rfl
def upd (f : Int → Option Int) (a y : Int) : Int → Option Int := fun x => if x = a then some y else f x
theorem wpList_setI {w : World} {ops : Array Oper} {rest : List Oper} {o : Oper} {a : Act} {Q : Exit → Act → World → Prop}
    (hg : o.guard = none) (m x v : Operand) (hop : o.op = Op.mapUpdate 48 m x v) {b N : Nat} {f : Int → Option Int} {k y : Int}
    (hm : a.eval m = .map (some b)) (hx : a.eval x = .int .i64 k) (hv : a.eval v = .int .i64 y) (h : MapI w b N f) (hN : N < maxLen) (hk : i64ok k) (hy : i64ok y)
    (hK : ∀ w', MapI w' b (N + 1) (upd f k y) → w.grownBy w' (some b) → wpList Try.prog ops Q rest (a.put o.dst undef) w') : wpList Try.prog ops Q (o :: rest) a w := by
  obtain ⟨D, hD, how, hf⟩ := h
  refine wpList_mapUpdate_own w hg m x v 48 hop 3 3 (Maps.int_keyed Try.underlying3) Try.underlying48 _ b N D hm how hN _ _ (.int .i64 k) hx hv (key_int hk) (.lit (.int .i64 y)) [] (plainElem_int Try.underlying3 (int_lit hy)) ?_
  intro w' h1 h2
  refine hK w' ⟨D.put (.int .i64 k) (.lit (.int .i64 y)), hD.put _ _, h1, fun c hc => ?_⟩ h2
  obtain ⟨g1, g2⟩ := hf c hc
  unfold upd
  by_cases e : c = k
  · subst e
    rw [if_pos rfl]
    refine ⟨fun h => by simp at h, fun z hz w0 => ?_⟩
    rw [Maps.atKey_put_same hD (by trivial)]
    simp at hz
    rw [hz]
  · rw [if_neg e]
    have hne : Lit.int .i64 c ≠ Lit.int .i64 k := fun h => e (by injection h)
    exact ⟨fun h z => by rw [Maps.atKey_put_other hne]; exact g1 h z, fun y h z => by rw [Maps.atKey_put_other hne]; exact g2 y h z⟩
end Go.Proofs.Yteifcgffeplkkaa
