/- The reference's Order, walked. -/
import Derived.Test.YtippimonpdeioaaSrL
namespace Go.Proofs.Ytippimonpdeioaa
set_option linter.all false
open Go.ChangeShapes Go.WideShapes Go.ChangeAt Go.RowKit Go.Sort Go.Deep

section
variable {α : Type} {en : α → List Value} {T E : TypeId} {size bytes : Nat} {z : Value}
/-- one element, in a block of its own, is appended to an own row: where the row lies -/
theorem wpList_pushG (el : ElemOf α en T E size bytes z) {w : World} {ops : Array Oper} {rest : List Oper} {o : Oper} {a : Act} {Q : Exit → Act → World → Prop} (hgd : o.guard = none) (s x : Operand)
    (ho : o.op = .call { callee := .builtin .append, args := #[s, x], argTypes := #[T, T] }) (lo : Nat) (ys : List α) (m : Nat) {yv : Value} {S : Nat} (y : α)
    (hs : a.eval s = yv) (hx : a.eval x = .slice (some ⟨S, 0, none⟩) 1 1) (hlo : lo ≤ w.heap.size) (hmy : m = ys.length) (hown : w.ownsRow lo E size yv ys.length (flat en ys))
    (hblk : w.heap[S]? = some (.cells (en y).toArray E)) (hlen : m ≤ 100000) (hby : bytes ≤ 1000)
    (hK : ∀ g cap m' w', m' = (ys ++ [y]).length → w'.ownsRow lo E size (.slice (some ⟨g, 0, none⟩) m' cap) (ys ++ [y]).length (flat en (ys ++ [y])) → Touch (fun k => yv.ownBlock = some k) w w' → (yv.ownBlock = some g ∨ w.heap.size ≤ g) →
      wpList Try.prog ops Q rest (a.put o.dst (.slice (some ⟨g, 0, none⟩) m' cap)) w') : wpList Try.prog ops Q (o :: rest) a w := by
  obtain ⟨i, hi, hz, hsz, hby'⟩ := el.info
  have hb1 := el.bpos
  subst hmy
  refine wpList_append_lies w hgd s x T ho lo E i z size bytes el.sl hi hz hsz hby' el.zs el.pos yv ys.length (flat en ys) hs hown ⟨S, 0, none⟩ 1 1 (en y) hx (by rw [el.len, Nat.one_mul]) ?_ (fun u hu => el.one y u hu) (by omega) (by unfold maxLen; omega) (by
    have : (ys.length + 1) * bytes ≤ 100001 * 1000 := Nat.mul_le_mul (by omega) hby
    omega) hlo w.heap.size rfl ?_
  · intro j u hu
    rw [add_off, Nat.zero_add, cell_of_row w S _ _ _ _ hblk]
    simpa using hu
  · intro g cap w' h1 h2 h3 h4
    refine hK g cap (ys.length + 1) w' (by rw [List.length_append, List.length_singleton]) ?_ ⟨h2.os, h2.tape, h2.output, h2.size, fun k hk hn => h2.block k hk fun e => hn e.symm⟩ (h3.imp_right fun e => by omega)
    rw [List.length_append, List.length_singleton]
    have : flat en (ys ++ [y]) = flat en ys ++ en y := by unfold flat; rw [List.flatMap_append]; simp
    rw [this]
    exact h1
end

/-- three rows of the call's own, apart from one another -/
def Apt (a b : Value) : Prop := ∀ g, a.ownBlock = some g → b.ownBlock ≠ some g
theorem Apt.symm {a b : Value} (h : Apt a b) : Apt b a := fun g h1 h2 => h g h2 h1
structure R3 (W : World) (a b c : Value) (A B C : List Val) (wr : World) : Prop where
  ra : RowKy wr W.heap.size a A
  rb : RowKy wr W.heap.size b B
  rc : RowKy wr W.heap.size c C
  ab : Apt a b
  ac : Apt a c
  bc : Apt b c
  be : Below W.heap.size W wr
theorem R3.s12 {W wr : World} {a b c : Value} {A B C : List Val} (h : R3 W a b c A B C wr) : R3 W b a c B A C wr := ⟨h.rb, h.ra, h.rc, h.ab.symm, h.bc, h.ac, h.be⟩
theorem R3.s13 {W wr : World} {a b c : Value} {A B C : List Val} (h : R3 W a b c A B C wr) : R3 W c b a C B A wr := ⟨h.rc, h.rb, h.ra, h.bc.symm, h.ac.symm, h.ab.symm, h.be⟩
theorem R3.below {W wr X : World} {a b c : Value} {A B C : List Val} (h : R3 W a b c A B C wr) (hb : Below wr.heap.size wr X) : R3 W a b c A B C X := ⟨ownsRow_below h.ra hb, ownsRow_below h.rb hb, ownsRow_below h.rc hb, h.ab, h.ac, h.bc, bl_tr h.be hb⟩
theorem own_lt {w : World} {lo : Nat} {e : TypeId} {size n : Nat} {v : Value} {xs : List Value} (h : w.ownsRow lo e size v n xs) : ∀ g, v.ownBlock = some g → g < w.heap.size := by
  intro g hg
  rcases h.2 with ⟨rfl, _⟩ | ⟨g', cap, cur, rfl, hb, hh, _⟩
  · simp [Value.ownBlock] at hg
  · simp [Value.ownBlock] at hg
    subst hg
    exact (Array.getElem?_eq_some_iff.1 hh).1
theorem R3.push {W X w' : World} {a b c : Value} {A B C A' : List Val} {g n m : Nat} (h : R3 W a b c A B C X) (ht : Touch (fun k => a.ownBlock = some k) X w') (hr : RowKy w' W.heap.size (.slice (some ⟨g, 0, none⟩) m n) A') (hl : a.ownBlock = some g ∨ X.heap.size ≤ g) :
    R3 W (.slice (some ⟨g, 0, none⟩) m n) b c A' B C w' := by
  refine ⟨hr, ownsRow_touch h.rb ht fun q hq e => h.ab q e hq, ownsRow_touch h.rc ht fun q hq e => h.ac q e hq, fun q hq e => ?_, fun q hq e => ?_, h.bc, ?_⟩
  · simp [Value.ownBlock] at hq
    subst hq
    rcases hl with hl | hl
    · exact h.ab _ hl e
    · have := own_lt h.rb _ e
      omega
  · simp [Value.ownBlock] at hq
    subst hq
    rcases hl with hl | hl
    · exact h.ac _ hl e
    · have := own_lt h.rc _ e
      omega
  · exact h.be.trans (ht.below h.be.size fun k hk => own_lo h.ra k hk)
theorem R3.start (W : World) : R3 W (.slice none 0 0) (.slice none 0 0) (.slice none 0 0) [] [] [] W :=
  ⟨own_nilE, own_nilE, own_nilE, fun g h => by simp [Value.ownBlock] at h, fun g h => by simp [Value.ownBlock] at h, fun g h => by simp [Value.ownBlock] at h, Below.refl _ _⟩
end Go.Proofs.Ytippimonpdeioaa
