/- The reference's object: what its loop keeps. -/
import Derived.Test.YtiagegecnopfgaaDoorPcE
namespace Go.Proofs.YtiagegecnopfgaaDoor
set_option linter.all false
open Go.ChangeShapes Go.WideShapes Go.ChangeAt Go.RowKit Go.Sort Go.Deep
variable {E : Nat → Prop}

theorem HoldR.exch {E2 : Nat → Prop} {lo : Nat} {X : World} {r : StepR} (h : HoldR E lo X r) (hE : ∀ b, b < X.heap.size → E2 b → E b) : HoldR E2 lo X r :=
  ⟨h.1, h.2.keep2 (Nat.le_refl _) fun b hf hl => ⟨rfl, fun e => hf.2.1 (hE b hl e)⟩⟩
theorem ReS.exch {E2 : Nat → Prop} {lo n : Nat} {v : Value} {rs : List StepR} {X : World} (h : ReS E lo v n rs X) (hE : ∀ b, b < X.heap.size → E2 b → E b) (hl : ∀ b, E2 b → b < X.heap.size) : ReS E2 lo v n rs X :=
  ⟨h.1, hl, h.2.2.1, h.2.2.2.1, fun r hr => (h.2.2.2.2 r hr).exch hE⟩
/-- a change of blocks that are new and hold numbers, none of them a step's keys -/
theorem ReS.ints {F : Nat → Prop} {lo n : Nat} {v : Value} {rs : List StepR} {V W : World} (h : ReS E lo v n rs V) (hF : ∀ b, F b → lo ≤ b ∧ E b ∧ ∃ cs, V.heap[b]? = some (Obj.cells cs 3)) (k : Touch F V W) : ReS E lo v n rs W :=
  ⟨Nat.le_trans h.1 k.size, fun b e => Nat.lt_of_lt_of_le (h.2.1 b e) k.size, h.2.2.touch k (fun b e _ => ⟨(hF b e).1, fun _ => (hF b e).2.1⟩) fun g hg e => by
    obtain ⟨_, _, cs, hc⟩ := hF g e
    exact h.2.2.typ hc (by decide) hg⟩
/-- the loop's state: as array's, and the row of keys -/
def ObI (E : Nat → Prop) (lo : Nat) (v : Value) (X : World) (o : Obj) (v' : Value) (n : Nat) (rs : List StepR) (vk : Value) (ks : List Int) (V : World) : Prop := ArI (exK E vk) lo v X o v' n rs V ∧ V.ownsRow (X.heap.size + 1) 3 1 vk ks.length (flat intCs ks)
theorem ObI.below {lo n : Nat} {v v' vk : Value} {ks : List Int} {X V W : World} {cs : Array Value} {rs : List StepR} (h : ObI E lo v X (.cells cs 24) v' n rs vk ks V) (hb : Below V.heap.size V W) : ObI E lo v X (.cells cs 24) v' n rs vk ks W := ⟨h.1.below hb, ownsRow_below h.2 hb⟩
/-- one key more -/
theorem ObI.key {lo n g c : Nat} {v v' vk : Value} {ks ks' : List Int} {X V W : World} {cs : Array Value} {rs : List StepR} (h : ObI E lo v X (.cells cs 24) v' n rs vk ks V) (hlo : lo ≤ X.heap.size) (o : W.ownsRow (X.heap.size + 1) 3 1 (.slice (some ⟨g, 0, none⟩) ks'.length c) ks'.length (flat intCs ks')) (hg : V.grownBy W vk.ownBlock) (hw : vk.ownBlock = some g ∨ g = V.heap.size) :
    ObI E lo v X (.cells cs 24) v' n rs (.slice (some ⟨g, 0, none⟩) ks'.length c) ks' W := by
  obtain ⟨⟨h1, h2, h3⟩, h4⟩ := h
  have T := touch_grownE hg
  have hgW := (own_ltN o g rfl).2
  have hF : ∀ b, vk.ownBlock = some b → lo ≤ b ∧ exK E vk b ∧ ∃ cs, V.heap[b]? = some (Obj.cells cs 3) := fun b hb => ⟨by have := (own_ltN h4 b hb).1; omega, .inr hb, own_typeN h4 b hb⟩
  refine ⟨⟨?_, ⟨Touch.trans h2.1 T fun b hb e => ?_, h2.2⟩, (T.block _ (Array.getElem?_eq_some_iff.1 h3).1 fun e => ?_).trans h3⟩, o⟩
  · have hW := h1.ints hF T
    refine ⟨hW.1, fun b e => ?_, hW.2.2.1, hW.2.2.2.1, fun r hr => ⟨(hW.2.2.2.2 r hr).1, ?_⟩⟩
    · rcases e with e | e
      · exact hW.2.1 b (.inl e)
      · simp only [Value.ownBlock, Option.some.injEq] at e
        omega
    · refine ((h1.2.2.2.2 r hr).2).keep2 T.size fun b hf hl => ⟨T.block b hl fun e => hf.2.1 (.inr e), fun e => ?_⟩
      rcases e with e | e
      · exact hf.2.1 (.inl e)
      · simp only [Value.ownBlock, Option.some.injEq] at e
        rcases hw with e2 | e2
        · exact hf.2.1 (.inr (by rw [e2, e]))
        · omega
  · have := (own_ltN h4 b e).1
    omega
  · have := (own_ltN h4 _ e).1
    omega
theorem mkR_b (rs : List StepR) (g : Int) : ¬ (mkR rs g).b = true := by simp [mkR]
theorem robT_rbad {rm : Bool} {d : Tree} {l : List Tree} {r g : Int} {ks : List Int} {rs : List StepR} (h : d.op = 64) (hn : ¬ (l = [] ∧ d.kids.length = 1)) : (obT rm (d :: l) r ks (mkR rs g)).b = true := by
  rw [obT, if_pos h]
  have e : (l.isEmpty && d.kids.length == 1) = false := by
    cases l with
    | nil => simp only [List.isEmpty_nil, Bool.true_and, beq_eq_false_iff_ne]; exact fun e => hn ⟨rfl, e⟩
    | cons a l => rfl
  simp only [e, Bool.false_eq_true, if_false]
  rw [if_pos (show (mkR rs g).bad.b = true from rfl)]
  exact bad_all.2.2.2.1 _ _ _ _ _ rfl
theorem robT_rest {rm : Bool} {d d0 : Tree} {r g : Int} {ks : List Int} {rs : List StepR} (h : d.op = 64) (hk : d.kids = [d0]) : obT rm [d] r ks (mkR rs g) = apT d0 g ((mkR rs (g + 1)).lay ⟨3, g, r, bs0, Tree.z, ks⟩) := by
  have e : (([] : List Tree).isEmpty && d.kids.length == 1) = true := by rw [hk]; rfl
  rw [obT, if_pos h, obT]
  simp only [e, if_true]
  rw [if_neg (mkR_b rs g), apR_eq, hk, apA]
  rfl
theorem robT_bad1 {rm : Bool} {d : Tree} {l : List Tree} {r g : Int} {ks : List Int} {rs : List StepR} (h : ¬ d.op = 64) (h2 : ¬ (d.op = 62 ∧ d.kids.length = 2)) : (obT rm (d :: l) r ks (mkR rs g)).b = true := by
  rw [obT, if_neg h, if_neg h2]
  exact bad_all.2.2.2.1 _ _ _ _ _ rfl
theorem robT_m1 {rm : Bool} {d e0 e1 : Tree} {l : List Tree} {r g : Int} {ks : List Int} {rs : List StepR} (h : d.op = 62) (hk : d.kids = [e0, e1]) (hm : d.m = 1) : obT rm (d :: l) r ks (mkR rs g) = obT rm l r (ks ++ [g]) (apT e1 (g + 1) (((mkR rs (g + 1)).lay ⟨11, g, 0, bs0, e0, []⟩).next.lay ⟨2, g + 1, r, bs0, Tree.z, [g]⟩)) := by
  rw [obT, if_neg (by omega), if_pos ⟨h, by rw [hk]; rfl⟩, if_pos hm, apP_eq, hk, apB, apA]
  rfl
theorem robT_bad2 {rm : Bool} {d e0 e1 : Tree} {l : List Tree} {r g : Int} {ks : List Int} {rs : List StepR} (h : d.op = 62) (hk : d.kids = [e0, e1]) (hm : ¬ d.m = 1) (ho : keyOk e0 = false) : (obT rm (d :: l) r ks (mkR rs g)).b = true := by
  rw [obT, if_neg (by omega), if_pos ⟨h, by rw [hk]; rfl⟩, if_neg hm, if_neg (by rw [hk]; simp [ho])]
  exact bad_all.2.2.2.1 _ _ _ _ _ rfl
theorem robT_rm {d e0 e1 : Tree} {l : List Tree} {r g : Int} {ks : List Int} {rs : List StepR} (h : d.op = 62) (hk : d.kids = [e0, e1]) (hm : ¬ d.m = 1) (ho : keyOk e0 = true) : obT true (d :: l) r ks (mkR rs g) = obT true l r (ks ++ [g]) (apT e1 (g + 1) (((mkR rs (g + 1)).lay ⟨11, g, 0, keyS e0, Tree.z, []⟩).next.lay ⟨2, g + 1, r, bs0, Tree.z, [g]⟩)) := by
  rw [obT, if_neg (by omega), if_pos ⟨h, by rw [hk]; rfl⟩, if_neg hm, if_pos (by rw [hk]; exact ho), if_pos rfl, apP_eq, hk, apB, apA]
  rfl
theorem robT_no {d e0 e1 : Tree} {l : List Tree} {r g : Int} {ks : List Int} {rs : List StepR} (h : d.op = 62) (hk : d.kids = [e0, e1]) (hm : ¬ d.m = 1) (ho : keyOk e0 = true) : obT false (d :: l) r ks (mkR rs g) = obT false l r ks (apT e1 g ((mkR rs (g + 1)).lay ⟨2, g, r, keyS e0, Tree.z, []⟩)) := by
  rw [obT, if_neg (by omega), if_pos ⟨h, by rw [hk]; rfl⟩, if_neg hm, if_pos (by rw [hk]; exact ho), if_neg (by simp), apP_eq, hk, apB, apA]
  rfl
theorem ObI.start {lo n : Nat} {v v' : Value} {X V : World} {cs : Array Value} {rs : List StepR} (h : ArI E lo v X (.cells cs 24) v' n rs V) : ObI E lo v X (.cells cs 24) v' n rs (.slice (some ⟨V.heap.size, 0, none⟩) 0 0) [] (V.alloc (.cells #[] 3)) := by
  have hb : Below V.heap.size V (V.alloc (.cells #[] 3)) := by (repeat (with_reducible first | exact Below.refl _ _ | (refine bl_set ?_ (by first | omega | (simp; done) | (simp; omega)) _) | refine bl_gr ?_ _ | refine bl_al ?_ _ | refine below_setRow ?_ (by first | omega | (simp; done) | (simp; omega)) _ | refine bl_drewN ?_ _ | refine Below.drew ?_ | (refine bl_tr ?_ (by assumption))))
  have h' := h.below hb
  refine ⟨⟨⟨h'.1.1, fun b e => ?_, h'.1.2.2.1, h'.1.2.2.2.1, fun r hr => ⟨(h'.1.2.2.2.2 r hr).1, ?_⟩⟩, h'.2⟩, own_empty (heap_alloc_new _ _) h.lt⟩
  · rcases e with e | e
    · exact h'.1.2.1 b e
    · simp only [Value.ownBlock, Option.some.injEq] at e
      simp
      omega
  · refine ((h.1.2.2.2.2 r hr).2).keep2 hb.size fun b hf hl => ⟨hb.block b hl, fun e => ?_⟩
    rcases e with e | e
    · exact hf.2.1 e
    · simp only [Value.ownBlock, Option.some.injEq] at e
      omega
/-- a change of a new block of steps that is not the row -/
theorem ReS.stepBox {lo n sb : Nat} {v : Value} {rs : List StepR} {V W : World} (h : ReS E lo v n rs V) {cs : Array Value} (hb : V.heap[sb]? = some (Obj.cells cs 55)) (hl : lo ≤ sb) (hr : ∀ g, v.ownBlock = some g → g ≠ sb) (k : Touch (fun b => b = sb) V W) : ReS E lo v n rs W := by
  refine ⟨Nat.le_trans h.1 k.size, fun b e => Nat.lt_of_lt_of_le (h.2.1 b e) k.size, h.2.2.touch k (fun b e _ => ⟨by omega, fun ⟨cs', hc⟩ => ?_⟩) fun g hg e => hr g hg e⟩
  rw [e, hb] at hc
  simp at hc
theorem ArI.stepBox {lo n sb : Nat} {v v' : Value} {X V W : World} {cs cs' : Array Value} {rs : List StepR} (h : ArI E lo v X (.cells cs 24) v' n rs V) (hlo : lo ≤ X.heap.size) (hb : V.heap[sb]? = some (Obj.cells cs' 55)) (hk : X.heap.size < sb) (hr : ∀ g, v'.ownBlock = some g → g ≠ sb) (k : Touch (fun b => b = sb) V W) : ArI E lo v X (.cells cs 24) v' n rs W :=
  ⟨h.1.stepBox hb (by omega) hr k, h.2.1.new (by omega) k, (k.block _ h.lt (by omega)).trans h.2.2⟩
theorem ObI.stepBox {lo n sb : Nat} {v v' vk : Value} {ks : List Int} {X V W : World} {cs cs' : Array Value} {rs : List StepR} (h : ObI E lo v X (.cells cs 24) v' n rs vk ks V) (hlo : lo ≤ X.heap.size) (hb : V.heap[sb]? = some (Obj.cells cs' 55)) (hk : X.heap.size < sb) (hr : ∀ g, v'.ownBlock = some g → g ≠ sb) (k : Touch (fun b => b = sb) V W) : ObI E lo v X (.cells cs 24) v' n rs vk ks W :=
  ⟨h.1.stepBox hlo hb hk hr k, ownsRow_touch h.2 k fun g hg e => by
    obtain ⟨cs2, e2⟩ := own_typeN h.2 g hg
    rw [e, hb] at e2
    simp at e2⟩
/-- steps more -/
theorem ObI.app {lo n k g c : Nat} {v v' vk : Value} {ks : List Int} {X V Z : World} {cs : Array Value} {rs xs : List StepR} (h : ObI E lo v X (.cells cs 24) v' n rs vk ks V) (hk : xs.length = k) (hr : ∀ r ∈ xs, HoldR (exK E vk) lo V r) (o : Z.ownsRow lo 55 11 (.slice (some ⟨g, 0, none⟩) (n + k) c) (n + k) (flat StepR.cs (rs ++ xs))) (hg : V.grownBy Z v'.ownBlock) (hw : v'.ownBlock = some g ∨ g = V.heap.size) :
    ObI E lo v X (.cells cs 24) (.slice (some ⟨g, 0, none⟩) (n + k) c) (n + k) (rs ++ xs) vk ks Z :=
  ⟨h.1.app hk hr o hg hw, ownsRow_touch h.2 (touch_grownE hg) fun g' hg' e => by
    obtain ⟨cs2, e2⟩ := own_typeN h.2 g' hg'
    obtain ⟨cs3, e3⟩ := own_typeN h.1.1.2.2.2.1 g' e
    rw [e2] at e3
    simp at e3⟩
/-- behind a call -/
theorem ObI.call {lo n n8 : Nat} {v v' v8 vk : Value} {ks : List Int} {X V Y : World} {cs : Array Value} {rs rs8 : List StepR} (h : ObI E lo v X (.cells cs 24) v' n rs vk ks V) (h8 : RowR (exK E vk) lo v8 n8 rs8 Y) (r8 : Rel v' V Y v8) : ObI E lo v X (.cells cs 24) v8 n8 rs8 vk ks Y :=
  ⟨h.1.call h8 r8, ownsRow_touch h.2 r8.1 fun g' hg' e => by
    obtain ⟨cs2, e2⟩ := own_typeN h.2 g' hg'
    obtain ⟨cs3, e3⟩ := own_typeN h.1.1.2.2.2.1 g' e
    rw [e2] at e3
    simp at e3⟩
end Go.Proofs.YtiagegecnopfgaaDoor
