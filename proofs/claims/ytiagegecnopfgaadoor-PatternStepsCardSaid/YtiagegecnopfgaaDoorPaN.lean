/- The maker's object: lists of keys under way. -/
import Derived.Test.YtiagegecnopfgaaDoorPaL
namespace Go.Proofs.YtiagegecnopfgaaDoor
set_option linter.all false
open Go.ChangeShapes Go.WideShapes Go.ChangeAt Go.RowKit Go.Sort Go.Deep
variable {E : Nat → Prop}

theorem elem_int : ElemOf Int intCs 39 3 1 8 (.int .i64 0) where
  len _ := rfl
  sl := Tryd.underlying39
  info := info_partsE (by kernel_rfl)
  zs := rfl
  pos := by decide
  bpos := by decide
theorem one_int (x : Int) : ∀ u ∈ intCs x, u.oneCell' = true := by
  intro u hu
  rw [List.mem_singleton.1 hu]
  rfl
/-- a row of keys of the call's own -/
def KsRow (lo : Nat) (A : Option Addr) (c : Nat) (ks : List Int) (X : World) : Prop := X.ownsRow lo 3 1 (.slice A ks.length c) ks.length (flat intCs ks)
theorem KsRow.ks {lo c : Nat} {A : Option Addr} {ks : List Int} {X : World} (h : KsRow lo A c ks X) (hE : ∀ g, (Value.slice A ks.length c).ownBlock = some g → ¬ E g) : IsKs E lo X (.slice A ks.length c) ks := by
  refine ⟨ownsRow_slOf (fun _ => rfl) h, fun a n k e _ => ?_⟩
  simp only [Value.slice.injEq] at e
  obtain ⟨rfl, _, _⟩ := e
  exact ⟨(own_ltN h _ rfl).1, hE _ rfl, own_typeN h _ rfl⟩
theorem KsRow.start (lo : Nat) (X : World) : KsRow lo none 0 [] X := ⟨by simp [flat], .inl ⟨rfl, rfl⟩⟩
theorem KsRow.kp {lo B c : Nat} {A : Option Addr} {ks : List Int} {X Y : World} (h : KsRow lo A c ks X) (k : KpM lo B X Y) (hR : RowT lo B X) : KsRow lo A c ks Y := by
  refine ownsRow_touch h k.1 fun g hg e => ?_
  obtain ⟨cs, e2⟩ := own_typeN h g hg
  rcases e with e | e
  · obtain ⟨v, g', k', e3⟩ := hR.1
    rw [e, e3] at e2
    simp at e2
  · obtain ⟨_, _, cs', e3⟩ := hR.2.2 g e
    rw [e2] at e3
    simp at e3
theorem KsRow.below {lo c : Nat} {A : Option Addr} {ks : List Int} {X Y : World} (h : KsRow lo A c ks X) (hb : Below X.heap.size X Y) : KsRow lo A c ks Y := ownsRow_below h hb
/-- an append to a row of keys touches the row alone -/
theorem ks_grown {lo l2 B : Nat} {X Y : World} {v : Value} {n : Nat} {xs : List Value} (o : X.ownsRow l2 3 1 v n xs) (hg : X.grownBy Y v.ownBlock) (hR : RowT lo B X) : (∀ b o', Bx B X b o' → (∀ g, v.ownBlock = some g → g ≠ b) → Bx B Y b o') ∧ Y.heap[B]? = X.heap[B]? ∧ (∀ b, RowB B Y b ↔ RowB B X b) := by
  obtain ⟨v', g', k', hv⟩ := hR.1
  have hB := (Array.getElem?_eq_some_iff.1 hv).1
  have T1 := touch_grownE hg
  have eB : Y.heap[B]? = X.heap[B]? := T1.block B hB (fun e => by
    obtain ⟨cs, e2⟩ := own_typeN o B e
    rw [hv] at e2
    simp at e2)
  have eR : ∀ b, RowB B Y b ↔ RowB B X b := fun b => by unfold RowB; rw [eB]
  exact ⟨fun b o' h hn => ⟨(T1.block b h.lt (fun e => hn b e rfl)).trans h.1, h.2.1, fun hr => h.2.2 ((eR b).1 hr)⟩, eB, eR⟩
/-- the excluded blocks, and a row's -/
def exK (E : Nat → Prop) (v : Value) (b : Nat) : Prop := E b ∨ v.ownBlock = some b
theorem IsKs.keep2 {E2 : Nat → Prop} {lo : Nat} {X Y : World} {v : Value} {ks : List Int} (h : IsKs E lo X v ks) (hs : X.heap.size ≤ Y.heap.size) (hk : ∀ b, FrI E lo X b → b < X.heap.size → Y.heap[b]? = X.heap[b]? ∧ ¬ E2 b) : IsKs E2 lo Y v ks := by
  have h1 := h.keep hs fun b hb hl => (hk b hb hl).1
  refine ⟨h1.1, fun a n c e h0 => ?_⟩
  have h2 := h.2 a n c e h0
  obtain ⟨b, off, cap, e2, _, hb, _⟩ := h.1.at_ h0
  rw [e2] at e
  simp only [Value.slice.injEq, Option.some.injEq] at e
  have e3 : a.block = b := by rw [← e.1]
  rw [e3] at h2 ⊢
  exact ⟨h2.1, (hk b h2 hb).2, by rw [(hk b h2 hb).1]; exact h2.2.2⟩
/-- the maker, another set excluded -/
theorem ApS.exch {E2 : Nat → Prop} {lo B : Nat} {x : Mk} {X : World} (h : ApS E lo B x X) (hE : ∀ b, b < X.heap.size → E2 b → E b) (hl : ∀ b, E2 b → b < X.heap.size) : ApS E2 lo B x X := by
  refine ⟨?_, h.tab, h.lo, hl⟩
  obtain ⟨h0, A, cp, rs, h1, h2, h3, h4⟩ := h.st
  exact ⟨h0, A, cp, rs, h1, h2, h3, fun r hr => ⟨(h4 r hr).1, (h4 r hr).2.keep2 (Nat.le_refl _) fun b hb hlt => ⟨rfl, fun e => hb.2.1 (hE b hlt e)⟩⟩⟩
theorem MkS.weak {E2 : Nat → Prop} {lo B : Nat} {x : Mk} {X : World} (h : MkS E lo B x X) (hE : ∀ b, E2 b → E b) : MkS E2 lo B x X := by
  obtain ⟨h0, A, cp, rs, h1, h2, h3, h4⟩ := h
  exact ⟨h0, A, cp, rs, h1, h2, h3, fun r hr => ⟨(h4 r hr).1, (h4 r hr).2.keep2 (Nat.le_refl _) fun b hb hlt => ⟨rfl, fun e => hb.2.1 (hE b e)⟩⟩⟩
/-- the maker behind an append to a row of keys -/
theorem ApS.ints {lo l2 B g m c n : Nat} {x : Mk} {X Y : World} {v : Value} {xs : List Value} (h : ApS (exK E v) lo B x X) (h2 : lo ≤ l2) (o : X.ownsRow l2 3 1 v n xs) (hg : X.grownBy Y v.ownBlock) (hw : v.ownBlock = some g ∨ g = X.heap.size) (hlt : g < Y.heap.size) : ApS (exK E (.slice (some ⟨g, 0, none⟩) m c)) lo B x Y := by
  have T1 := touch_grownE hg
  obtain ⟨_, eB, eR⟩ := ks_grown o hg h.st.rowT
  have hlo : ∀ b, b < lo → Y.heap[b]? = X.heap[b]? := fun b hb => T1.block b (Nat.lt_of_lt_of_le hb h.lo) (fun e => by have := (own_ltN o b e).1; omega)
  refine ⟨?_, h.tab.low hlo, Nat.le_trans h.lo T1.size, fun b he => ?_⟩
  · obtain ⟨h0, A, cp, rs, h1, h2, h3, h4⟩ := h.st
    refine ⟨h0, A, cp, rs, eB.trans h1, ownsRow_touch h2 T1 (fun k hk e => ?_), h3, fun r hr => ⟨(h4 r hr).1.keep T1.size fun b hp hb => ?_, (h4 r hr).2.keep2 T1.size fun b hb hl => ?_⟩⟩
    · obtain ⟨cs, e2⟩ := own_typeN h2 k hk
      obtain ⟨cs', e3⟩ := own_typeN o k e
      rw [e2] at e3
      simp at e3
    · have e := T1.block b hb (fun e => by
        obtain ⟨_, cs, e2⟩ := hp
        obtain ⟨cs', e3⟩ := own_typeN o b e
        rw [e2] at e3
        simp at e3)
      exact ⟨e, hp.keep e⟩
    · have hne : v.ownBlock ≠ some b := fun e => hb.2.1 (.inr e)
      refine ⟨T1.block b hl (fun e => hne e), ?_⟩
      rintro (e | e)
      · exact hb.2.1 (.inl e)
      · simp only [Value.ownBlock, Option.some.injEq] at e
        rcases hw with e2 | e2
        · exact hne (by rw [e2, e])
        · omega
  · rcases he with e | e
    · exact Nat.lt_of_lt_of_le (h.ex b (.inl e)) T1.size
    · simp only [Value.ownBlock, Option.some.injEq] at e
      omega
theorem KpM.ints {lo l2 B n : Nat} {W X Y : World} {v : Value} {xs : List Value} (h : KpM lo B W X) (hR : RowT lo B X) (o : X.ownsRow l2 3 1 v n xs) (hg : X.grownBy Y v.ownBlock) (hn : ∀ g, v.ownBlock = some g → W.heap.size ≤ g) : KpM lo B W Y := by
  have T1 := touch_grownE hg
  obtain ⟨_, eB, eR⟩ := ks_grown o hg hR
  exact ⟨Touch.trans h.1 T1 fun b hb e => absurd (hn b e) (by omega), fun b hb hr => h.2 b hb ((eR b).1 hr)⟩
theorem restK_last : ∀ (l : List Tree) (d : Tree), l[l.length - 1]? = some d → restK l = (d.op == 64)
  | [], d, h => by simp at h
  | [a], d, h => by simp at h; subst h; rw [restK]
  | a :: b :: l, d, h => by
    rw [restK]
    refine restK_last (b :: l) d ?_
    simpa using h
/-- an append of one element as one operation; where the new row lies -/
theorem wpList_app1 {α : Type} {en : α → List Value} {T F : TypeId} {size bytes : Nat} {z : Value} (el : ElemOf α en T F size bytes z) {w : World} {ops : Array Oper} {rest : List Oper} {o : Oper} {a : Act} {Q : Exit → Act → World → Prop} (hg : o.guard = none) (s x : Operand)
    (hop : o.op = Op.call { callee := Callee.builtin Builtin.append, args := #[s, x], argTypes := #[T, T] }) (lo : Nat)
    (ys : List α) (y : α) {q : Nat} (hq : ys.length = q) {yv : Value} {b : Nat} (hs : a.eval s = yv) (hx : a.eval x = .slice (some ⟨b, 0, none⟩) 1 1) (hown : w.ownsRow lo F size yv q (flat en ys)) (hlo : lo ≤ w.heap.size) {B : TypeId} (hb : w.heap[b]? = some (.cells (en y).toArray B)) (h1 : ∀ u ∈ en y, u.oneCell' = true) (hm : q ≤ 1000000) (hbb : bytes ≤ 1000)
    (hK : ∀ g m n w', m = q + 1 → w'.ownsRow lo F size (.slice (some ⟨g, 0, none⟩) (q + 1) n) (q + 1) (flat en (ys ++ [y])) → w.grownBy w' yv.ownBlock → (yv.ownBlock = some g ∨ g = w.heap.size) → g < w'.heap.size → wpList Tryd.prog ops Q rest (a.put o.dst (.slice (some ⟨g, 0, none⟩) m n)) w') : wpList Tryd.prog ops Q (o :: rest) a w := by
  subst hq
  obtain ⟨i, hi, hz, hsz, hby⟩ := el.info
  refine wpList_append_lies w hg s x T hop lo F i z size bytes el.sl hi hz hsz hby el.zs el.pos yv ys.length (flat en ys) hs hown ⟨b, 0, none⟩ 1 1 (en y) hx (by rw [el.len]; omega) (fun j u hu => ?_) h1 (by decide) (by unfold maxLen; omega) (Nat.le_trans (Nat.mul_le_mul (show ys.length + 1 ≤ 1000001 by omega) hbb) (by decide)) hlo w.heap.size rfl ?_
  · rw [add_off, cell_of_row w b _ _ _ _ hb]
    simpa using hu
  · intro g cap w' h1 h2 h3 h4
    refine hK g _ cap w' rfl ?_ h2 h3 h4
    have e : flat en (ys ++ [y]) = flat en ys ++ en y := by unfold flat; rw [List.flatMap_append]; simp
    rw [e]
    exact h1
theorem restX_g (x : Mk) (t c : Tree) (q : Nat) : (restX x t c q).g = x.g ∧ (restX x t c q).l = x.l := by
  unfold restX
  split
  · exact ⟨rfl, rfl⟩
  · exact ⟨rfl, rfl⟩
theorem obT_rest (rm : Bool) (t d : Tree) (q : Nat) (r : Int) (ks : List Int) (y : Mk) (h : d.op = 64) (hd : t.kids[q]? = some d) : obT rm (d :: t.kids.drop (q + 1)) r ks y = obT rm (t.kids.drop (q + 1)) r ks (if (restX y t d q).b then restX y t d q else apA d.kids (restX y t d q).g ((restX y t d q).next.lay ⟨3, (restX y t d q).g, r, bs0, Tree.z, ks⟩)) := by
  have hlt := (List.getElem?_eq_some_iff.1 hd).1
  rw [obT, if_pos h]
  have e : (if ((t.kids.drop (q + 1)).isEmpty && d.kids.length == 1) = true then y else y.bad) = restX y t d q := by
    unfold restX
    by_cases h1 : q + 1 = t.kids.length
    · have h2 : (t.kids.drop (q + 1)).isEmpty = true := by rw [List.drop_of_length_le (by omega)]; rfl
      by_cases h3 : d.kids.length = 1
      · rw [h2, if_pos (by simp [h3]), if_neg (by rintro ⟨_, hn⟩; exact hn ⟨h1, h3⟩)]
      · rw [h2, if_neg (by simp [h3]), if_pos ⟨h, fun hn => h3 hn.2⟩]
    · have h2 : (t.kids.drop (q + 1)).isEmpty = false := by
        cases hh : t.kids.drop (q + 1) with
        | nil =>
          have := congrArg List.length hh
          simp at this
          omega
        | cons a l => rfl
      rw [h2, if_neg (by simp), if_pos ⟨h, fun hn => h1 hn.1⟩]
  simp only [e, apR_eq]
theorem restX_no {x : Mk} {t c : Tree} {q : Nat} (h : (restX x t c q).b = false) (h64 : c.op = 64) : restX x t c q = x ∧ q + 1 = t.kids.length ∧ c.kids.length = 1 := by
  unfold restX at h ⊢
  split
  · rename_i h1
    rw [if_pos h1] at h
    cases h
  · rename_i h1
    refine ⟨rfl, ?_⟩
    by_cases h2 : q + 1 = t.kids.length ∧ c.kids.length = 1
    · exact h2
    · exact absurd ⟨h64, h2⟩ h1
theorem prM_bound (p : Tree) (r : Int) (rm : Bool) (y : Mk) : Adds y (prM p r rm y).1 (sizeT p) := by
  have hp := sizeT_pos p
  unfold prM
  split
  · rename_i h
    obtain ⟨a, b, hk⟩ : ∃ a b, p.kids = [a, b] := by
      match hh : p.kids, h.2 with
      | [a, b], _ => exact ⟨a, b, rfl⟩
    have sz := sizeT_eq p
    rw [hk, sizeK, sizeK, sizeK] at sz
    have ha := sizeT_pos a
    have AP : ∀ (g : Int) (z : Mk), apP p g z = apT b g z := fun g z => by rw [apP_eq, hk, apB, apA]
    simp only [AP]
    split
    · have h1 := ap_bound b (y.g + 1) ((y.next.lay ⟨11, y.g, 0, bs0, p.kids.getD 0 default, []⟩).next.lay ⟨2, y.g + 1, r, bs0, Tree.z, [y.g]⟩)
      unfold AddsT at h1
      unfold Adds
      rw [lay_len, next_len, lay_len, next_len, lay_g, next_g, lay_g, next_g] at h1
      simp only
      omega
    · split
      · split
        · have h1 := ap_bound b (y.g + 1) ((y.next.lay ⟨11, y.g, 0, keyS (p.kids.getD 0 default), Tree.z, []⟩).next.lay ⟨2, y.g + 1, r, bs0, Tree.z, [y.g]⟩)
          unfold AddsT at h1
          unfold Adds
          rw [lay_len, next_len, lay_len, next_len, lay_g, next_g, lay_g, next_g] at h1
          simp only
          omega
        · have h1 := ap_bound b y.g (y.next.lay ⟨2, y.g, r, keyS (p.kids.getD 0 default), Tree.z, []⟩)
          unfold AddsT at h1
          unfold Adds
          rw [lay_len, next_len, lay_g, next_g] at h1
          simp only
          omega
      · unfold Adds
        simp only
        rw [bad_len, bad_g]
        omega
  · unfold Adds
    simp only
    rw [bad_len, bad_g]
    omega
end Go.Proofs.YtiagegecnopfgaaDoor
