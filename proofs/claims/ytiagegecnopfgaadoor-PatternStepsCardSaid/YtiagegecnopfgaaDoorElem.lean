/- Appends of whole lists to rows of the call's own, whatever the elements are. -/
import Derived.Test.YtiagegecnopfgaaDoorOwn
namespace Go.Proofs.YtiagegecnopfgaaDoor
set_option linter.all false
open Go.ChangeShapes Go.WideShapes Go.ChangeAt Go.RowKit Go.Sort Go.Deep

theorem info_partsE {P : Program} {E : TypeId} {z : Value} {size bytes : Nat} (h : (P.info? E).map (fun i => (i.zero, i.size, i.bytes)) = some (some z, size, bytes)) : ∃ i, P.info? E = some i ∧ i.zero = some z ∧ i.size = size ∧ i.bytes = bytes := by
  obtain ⟨i, hi, hzz⟩ := Option.map_eq_some_iff.1 h
  simp only [Prod.mk.injEq] at hzz
  exact ⟨i, hi, hzz.1, hzz.2.1, hzz.2.2⟩
/-- what an element type must be for the laws below -/
structure ElemOf (α : Type) (en : α → List Value) (T E : TypeId) (size bytes : Nat) (z : Value) : Prop where
  len : ∀ x, (en x).length = size
  sl : Tryd.prog.underlying T = some (.slice E)
  info : ∃ i, Tryd.prog.info? E = some i ∧ i.zero = some z ∧ i.size = size ∧ i.bytes = bytes
  zs : z.cells.size = size
  pos : 0 < size
  bpos : 0 < bytes
section
variable {α : Type} {en : α → List Value} {T E : TypeId} {size bytes : Nat} {z : Value}
theorem run_appG (el : ElemOf α en T E size bytes z) {w : World} {lo : Nat} {ty : TypeId} {yv sv : Value} {ys xs : List α} (hown : w.ownsRow lo E size yv ys.length (flat en ys)) (hlo : lo ≤ w.heap.size) (hsv : SlOf w size en sv xs) (h1 : ∀ x ∈ xs, ∀ u ∈ en x, u.oneCell' = true) (hf : (ys ++ xs).length * bytes ≤ 140737488355328) (hm : (ys ++ xs).length ≤ 1000000) :
    ∃ A n w', (Builtin.append_ #[T, T] ty #[yv, sv]).run Tryd.prog w = .ok (.slice A (ys ++ xs).length n) w' ∧ w'.ownsRow lo E size (.slice A (ys ++ xs).length n) (ys ++ xs).length (flat en (ys ++ xs)) ∧ w.grownBy w' yv.ownBlock := by
  obtain ⟨i, hi, hz, hsz, hby⟩ := el.info
  rw [List.length_append] at hf hm
  by_cases h0 : xs.length = 0
  · obtain rfl : xs = [] := List.eq_nil_of_length_eq_zero h0
    rw [List.append_nil]
    obtain ⟨A, c, rfl, _⟩ := hsv.form
    cases A with
    | none =>
      rcases hown.2 with ⟨rfl, hn⟩ | ⟨g, cap, cur, rfl, hb, hg, hnc, hcm, hcs, _⟩
      · refine ⟨none, 0, w, ?_, ?_, ⟨rfl, rfl, rfl, Nat.le_refl _, fun _ _ _ => rfl⟩⟩
        · rw [hn]
          simp [Builtin.append_, run_underlying el.sl, sizeOf, typeInfo, hi, Builtin.lenOf, Builtin.firstCells, loadCells, loadCellsFrom]
        · rw [hn]
          have := hown
          rw [hn] at this
          exact this
      · refine ⟨_, cap, w, ?_, hown, ⟨rfl, rfl, rfl, Nat.le_refl _, fun _ _ _ => rfl⟩⟩
        simp [Builtin.append_, run_underlying el.sl, sizeOf, typeInfo, hi, Builtin.lenOf, Builtin.firstCells, storeCells, hnc]
    | some ad =>
      obtain ⟨v', w', hr, h2, h3, _⟩ := run_append_own (P := Tryd.prog) w lo T ty E i z size bytes el.sl hi hz hsz hby el.zs el.pos yv ys.length (flat en ys) hown ad 0 c [] (by simp) (by simp) (by simp) (by unfold maxLen; omega) (by simpa using hf) hlo
      obtain ⟨A, n, rfl⟩ := ownsRow_form h2
      rw [List.append_nil] at h2
      exact ⟨A, n, w', hr, h2, h3⟩
  · obtain ⟨ad, c, rfl, hsrc⟩ := hsv.src el.len (by omega)
    have hlen := flat_len el.len xs
    obtain ⟨v', w', hr, h2, h3, _⟩ := run_append_own (P := Tryd.prog) w lo T ty E i z size bytes el.sl hi hz hsz hby el.zs el.pos yv ys.length (flat en ys) hown ad xs.length c (flat en xs) hlen hsrc (fun u hu => by
      obtain ⟨x, hx, h⟩ := List.mem_flatMap.1 hu
      exact h1 x hx u h) (by unfold maxLen; omega) hf hlo
    obtain ⟨A, n, rfl⟩ := ownsRow_form h2
    refine ⟨A, n, w', ?_, ?_, h3⟩
    · rw [List.length_append]; exact hr
    · rw [List.length_append]
      have e : flat en (ys ++ xs) = flat en ys ++ flat en xs := by unfold flat; rw [List.flatMap_append]
      rw [e]
      exact h2
/-- an append as one operation -/
theorem wpList_appG (el : ElemOf α en T E size bytes z) {w : World} {ops : Array Oper} {rest : List Oper} {o : Oper} {a : Act} {Q : Exit → Act → World → Prop} (hgd : o.guard = none) (s x : Operand)
    (ho : o.op = .call { callee := .builtin .append, args := #[s, x], argTypes := #[T, T] }) (lo : Nat) (ys xs : List α) {yv sv : Value}
    (hs : a.eval s = yv) (hx : a.eval x = sv) (hown : w.ownsRow lo E size yv ys.length (flat en ys)) (hlo : lo ≤ w.heap.size) (hsv : SlOf w size en sv xs) (h1 : ∀ x ∈ xs, ∀ u ∈ en x, u.oneCell' = true) (hf : (ys ++ xs).length * bytes ≤ 140737488355328) (hm : (ys ++ xs).length ≤ 1000000)
    (hh : ∀ A n w', w'.ownsRow lo E size (.slice A (ys ++ xs).length n) (ys ++ xs).length (flat en (ys ++ xs)) → w.grownBy w' yv.ownBlock → wpList Tryd.prog ops Q rest (a.put o.dst (.slice A (ys ++ xs).length n)) w') : wpList Tryd.prog ops Q (o :: rest) a w := by
  obtain ⟨A, n, w', hr, h2, h3⟩ := run_appG el (ty := o.type) hown hlo hsv h1 hf hm
  refine wpList_plain hgd fun K hK => ?_
  unfold Oper.wp
  simp [execOp, ho, resolve, invoke, builtin, hs, hx, hr, Result.andThen]
  have := hK _ _ (hh A n w' h2 h3)
  rw [List.length_append] at this
  exact this
/-- an append as one step of a region that draws its order -/
theorem step_appG (el : ElemOf α en T E size bytes z) {ops : Array Oper} {o : Oper} {a : Act} {w : World} {K : Act → World → Prop} {Q : Exit → Act → World → Prop} {F : Prop} (lo : Nat)
    (hg : o.guard = none) (s x : Operand) (hop : o.op = Op.call { callee := Callee.builtin Builtin.append, args := #[s, x], argTypes := #[T, T] })
    (ys xs : List α) {yv sv : Value} (hs : a.eval s = yv) (hx : a.eval x = sv) (hown : w.ownsRow lo E size yv ys.length (flat en ys)) (hlo : lo ≤ w.heap.size) (hsv : SlOf w size en sv xs) (h1 : ∀ x ∈ xs, ∀ u ∈ en x, u.oneCell' = true) (hf : (ys ++ xs).length * bytes ≤ 140737488355328) (hm : (ys ++ xs).length ≤ 1000000)
    (hK : ∀ A n w', w'.ownsRow lo E size (.slice A (ys ++ xs).length n) (ys ++ xs).length (flat en (ys ++ xs)) → w.grownBy w' yv.ownBlock → K (a.put o.dst (.slice A (ys ++ xs).length n)) w') :
    if Region.wanted o (yielded ops a.tmps) = true then Oper.wp Tryd.prog o a w K Q else F := by
  have hw : Region.wanted o (yielded ops a.tmps) = true := by simp [Region.wanted, hg]
  rw [if_pos hw]
  obtain ⟨A, n, w', hr, h2, h3⟩ := run_appG el (ty := o.type) hown hlo hsv h1 hf hm
  unfold Oper.wp
  simp [execOp, hop, resolve, invoke, builtin, hs, hx, hr, Result.andThen]
  have := hK A n w' h2 h3
  rw [List.length_append] at this
  exact this
end
/-- an empty literal is a row of the call's own -/
theorem own_empty {α : Type} {en : α → List Value} {E : TypeId} {size : Nat} {w : World} {g lo : Nat} (hg : w.heap[g]? = some (.cells #[] E)) (hlo : lo ≤ g) : w.ownsRow lo E size (.slice (some ⟨g, 0, none⟩) 0 0) ([] : List α).length (flat en ([] : List α)) :=
  ⟨by simp [flat], .inr ⟨g, 0, #[], rfl, hlo, hg, Nat.le_refl _, Nat.zero_le _, by simp, by simp [flat]⟩⟩

theorem touch_grownE {W W' : World} {row : Option Nat} (h : W.grownBy W' row) : Touch (fun b => row = some b) W W' := ⟨h.os, h.tape, h.output, h.size, fun k hk hn => h.block k hk fun e => hn e.symm⟩
/-- one element in a block of its own -/
theorem sl_oneE {α : Type} {en : α → List Value} {w : World} {b : Nat} {x : α} {n : Nat} {T : TypeId} (h : w.heap[b]? = some (.cells (en x).toArray T)) (hn : (en x).length = n) : SlOf w n en (.slice (some ⟨b, 0, none⟩) 1 1) [x] := by
  refine ⟨by unfold maxLen; simp, some ⟨b, 0, none⟩, 1, rfl, Nat.le_refl _, fun _ => ⟨b, 0, rfl, (Array.getElem?_eq_some_iff.1 h).1, fun i y hy j u hu => ?_⟩⟩
  cases i with
  | zero =>
    simp only [List.getElem?_cons_zero, Option.some.injEq] at hy
    subst hy
    rw [cell_of_row w b _ _ _ _ h]
    simpa using hu
  | succ i => simp at hy
/-- behind an append to a row of the call's own: the row, and that nothing old was touched -/
theorem grown_lo {W w w' : World} {yv : Value} (hW : Below W.heap.size W w) (hg : w.grownBy w' yv.ownBlock) (hl : ∀ g, yv.ownBlock = some g → W.heap.size ≤ g) : Below W.heap.size W w' :=
  hW.trans ((touch_grownE hg).below hW.size fun k hk => hl k hk)
theorem own_lo {w : World} {lo : Nat} {e : TypeId} {size n : Nat} {v : Value} {xs : List Value} (h : w.ownsRow lo e size v n xs) : ∀ g, v.ownBlock = some g → lo ≤ g := by
  intro g hg
  rcases h.2 with ⟨rfl, _⟩ | ⟨g', cap, cur, rfl, hb, _⟩
  · simp [Value.ownBlock] at hg
  · simp [Value.ownBlock] at hg
    omega
theorem own_nilE {w : World} {lo : Nat} {E : TypeId} {size : Nat} {α : Type} {en : α → List Value} : w.ownsRow lo E size (.slice none 0 0) ([] : List α).length (flat en ([] : List α)) := ⟨by simp [flat], .inl ⟨rfl, rfl⟩⟩
end Go.Proofs.YtiagegecnopfgaaDoor
