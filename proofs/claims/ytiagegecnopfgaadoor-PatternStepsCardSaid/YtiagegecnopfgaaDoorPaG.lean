/- The maker of steps in memory. -/
import Derived.Test.YtiagegecnopfgaaDoorPaF
namespace Go.Proofs.YtiagegecnopfgaaDoor
set_option linter.all false
open Go.ChangeShapes Go.WideShapes Go.ChangeAt Go.RowKit Go.Sort Go.Deep
variable {E : Nat → Prop}

abbrev intCs (n : Int) : List Value := [.int .i64 n]
/-- a new block of ints -/
def FrI (E : Nat → Prop) (lo : Nat) (X : World) (b : Nat) : Prop := lo ≤ b ∧ ¬ E b ∧ ∃ cs, X.heap[b]? = some (.cells cs 3)
theorem FrI.keep {lo : Nat} {X Y : World} {b : Nat} (h : FrI E lo X b) (e : Y.heap[b]? = X.heap[b]?) : FrI E lo Y b := ⟨h.1, h.2.1, by rw [e]; exact h.2.2⟩
/-- a list of ints in a new block -/
def IsKs (E : Nat → Prop) (lo : Nat) (X : World) (v : Value) (ks : List Int) : Prop := SlOf X 1 intCs v ks ∧ ∀ a n c, v = .slice (some a) n c → 0 < ks.length → FrI E lo X a.block
theorem IsKs.keep {lo : Nat} {X Y : World} {v : Value} {ks : List Int} (h : IsKs E lo X v ks) (hs : X.heap.size ≤ Y.heap.size) (hk : ∀ b, FrI E lo X b → b < X.heap.size → Y.heap[b]? = X.heap[b]?) : IsKs E lo Y v ks := by
  obtain ⟨⟨h1, A, cap, e, hc, h2⟩, h3⟩ := h
  have hlt : ∀ a n c, v = .slice (some a) n c → 0 < ks.length → a.block < X.heap.size := fun a n c e2 h0 => by
    obtain ⟨b, off, e3, hb, _⟩ := h2 h0
    rw [e, e3] at e2
    simp only [Value.slice.injEq, Option.some.injEq] at e2
    rw [← e2.1]
    exact hb
  refine ⟨⟨h1, A, cap, e, hc, fun h0 => ?_⟩, fun a n c e2 h0 => ?_⟩
  · obtain ⟨b, off, e3, hb, h4⟩ := h2 h0
    refine ⟨b, off, e3, Nat.lt_of_lt_of_le hb hs, fun i x hx j u hu => ?_⟩
    rw [World.cell?_of_block (a := ⟨b, off + i * 1 + j, none⟩) (hk b (h3 ⟨b, off, none⟩ ks.length cap (by rw [e, e3]) h0) hb)]
    exact h4 i x hx j u hu
  · exact (h3 a n c e2 h0).keep (hk _ (h3 a n c e2 h0) (hlt a n c e2 h0))
theorem IsKs.nil {lo : Nat} {X : World} : IsKs E lo X (.slice none 0 0) [] := ⟨.nil_, fun a n c e => by cases e⟩
/-- a step, and where its lists lie -/
structure StepR where
  d : StepD
  A1 : Option Addr
  c1 : Nat
  A2 : Option Addr
  c2 : Nat
abbrev StepR.nk (x : StepR) : Value := .slice x.A1 x.d.nd.kids.length x.c1
abbrev StepR.ks (x : StepR) : Value := .slice x.A2 x.d.ks.length x.c2
abbrev StepR.cs (x : StepR) : List Value := [.int .i64 x.d.k, .int .i64 x.d.r, .int .i64 x.d.f, .string x.d.s, .int .i64 x.d.nd.op, .int .i64 x.d.nd.at_, .int .i64 x.d.nd.n, .int .i64 x.d.nd.m, .string x.d.nd.s, x.nk, x.ks]
abbrev stepV (x : StepR) : Value := .agg #[.int .i64 x.d.k, .int .i64 x.d.r, .int .i64 x.d.f, .string x.d.s, .int .i64 x.d.nd.op, .int .i64 x.d.nd.at_, .int .i64 x.d.nd.n, .int .i64 x.d.nd.m, .string x.d.nd.s, x.nk, x.ks]
abbrev stepO (x : StepR) : Obj := .cells #[.int .i64 x.d.k, .int .i64 x.d.r, .int .i64 x.d.f, .string x.d.s, .int .i64 x.d.nd.op, .int .i64 x.d.nd.at_, .int .i64 x.d.nd.n, .int .i64 x.d.nd.m, .string x.d.nd.s, x.nk, x.ks] 41
theorem sr_len (x : StepR) : (StepR.cs x).length = 11 := rfl
theorem one_step (x : StepR) : ∀ u ∈ StepR.cs x, u.oneCell' = true := by
  intro u hu
  simp only [StepR.cs, List.mem_cons, List.not_mem_nil, or_false] at hu
  rcases hu with rfl | rfl | rfl | rfl | rfl | rfl | rfl | rfl | rfl | rfl | rfl <;> rfl
theorem elem_step : ElemOf StepR StepR.cs 28 41 11 136 (.agg #[.int .i64 0, .int .i64 0, .int .i64 0, .string ⟨#[]⟩, .int .i64 0, .int .i64 0, .int .i64 0, .int .i64 0, .string ⟨#[]⟩, .slice none 0 0, .slice none 0 0]) where
  len _ := rfl
  sl := Tryd.underlying28
  info := info_partsE (by kernel_rfl)
  zs := rfl
  pos := by decide
  bpos := by decide
def HoldsS (E : Nat → Prop) (lo : Nat) (X : World) (x : StepR) : Prop := IsNd (FrN lo X) X x.nk x.d.nd.kids ∧ IsKs E lo X x.ks x.d.ks
abbrev mkO (v : Value) (g : Int) (b : Bool) : Obj := .cells #[v, .int .i64 g, .bool b] 50
/-- the maker in block B -/
def MkS (E : Nat → Prop) (lo B : Nat) (x : Mk) (X : World) : Prop := lo ≤ B ∧ ∃ (A : Option Addr) (cp : Nat) (rs : List StepR), X.heap[B]? = some (mkO (.slice A x.l.length cp) x.g x.b) ∧ X.ownsRow lo 41 11 (.slice A x.l.length cp) x.l.length (flat StepR.cs rs) ∧ rs.map (·.d) = x.l ∧ ∀ r ∈ rs, HoldsS E lo X r
/-- the maker's row lies in block b -/
def RowB (B : Nat) (X : World) (b : Nat) : Prop := ∃ v g k, X.heap[B]? = some (mkO v g k) ∧ v.ownBlock = some b
theorem row_type {lo B : Nat} {X : World} {v : Value} {g : Int} {k : Bool} {n : Nat} {xs : List Value} (h1 : X.heap[B]? = some (mkO v g k)) (h2 : X.ownsRow lo 41 11 v n xs) : ∀ b, RowB B X b → lo ≤ b ∧ b < X.heap.size ∧ ∃ cs, X.heap[b]? = some (.cells cs 41) := by
  rintro b ⟨v', g', k', e, hb⟩
  rw [h1] at e
  simp only [Option.some.injEq, Obj.cells.injEq, and_true, Array.mk.injEq, List.cons.injEq] at e
  rw [← e.1] at hb
  exact ⟨(own_ltN h2 b hb).1, (own_ltN h2 b hb).2, own_typeN h2 b hb⟩
/-- what may change: the maker's block, and the row -/
def KpM (_lo B : Nat) (X Y : World) : Prop := Touch (fun b => b = B ∨ RowB B X b) X Y ∧ ∀ b, b < X.heap.size → RowB B Y b → RowB B X b
theorem KpM.of_below {lo B : Nat} {X Y : World} (h : Below X.heap.size X Y) (hB : B < X.heap.size) : KpM lo B X Y :=
  ⟨Touch.of_below h, fun b _ ⟨v, g, k, e, hb⟩ => ⟨v, g, k, by rw [← h.block B hB]; exact e, hb⟩⟩
theorem KpM.size {lo B : Nat} {X Y : World} (h : KpM lo B X Y) : X.heap.size ≤ Y.heap.size := Touch.size h.1
theorem KpM.trans {lo B : Nat} {X Y Z : World} (h : KpM lo B X Y) (k : KpM lo B Y Z) : KpM lo B X Z :=
  ⟨Touch.trans h.1 k.1 fun b hb hF => by
    rcases hF with h1 | h1
    · exact .inl h1
    · exact .inr (h.2 b hb h1), fun b hb hr => h.2 b hb (k.2 b (Nat.lt_of_lt_of_le hb h.size) hr)⟩
/-- a block that is not the maker's and not the row's stays -/
theorem KpM.keepB {lo B : Nat} {X Y : World} (h : KpM lo B X Y) {b : Nat} (hl : b < X.heap.size) (h1 : b ≠ B) (h2 : ¬ RowB B X b) : Y.heap[b]? = X.heap[b]? := Touch.block h.1 b hl (by
  rintro (e | e)
  · exact h1 e
  · exact h2 e)
abbrev RowT (lo B : Nat) (X : World) : Prop := (∃ v g k, X.heap[B]? = some (mkO v g k)) ∧ lo ≤ B ∧ ∀ b, RowB B X b → lo ≤ b ∧ b < X.heap.size ∧ ∃ cs, X.heap[b]? = some (.cells cs 41)
theorem KpM.below {lo B : Nat} {X Y : World} (h : KpM lo B X Y) (hR : RowT lo B X) (hl : lo ≤ X.heap.size) : Below lo X Y := Touch.below h.1 hl fun k hk => by
  rcases hk with rfl | h1
  · exact hR.2.1
  · exact (hR.2.2 k h1).1
/-- a block of another type stays -/
theorem KpM.block {lo B : Nat} {X Y : World} (h : KpM lo B X Y) (hR : RowT lo B X) {b : Nat} {cs : Array Value} {T : TypeId} (hb : X.heap[b]? = some (.cells cs T)) (h1 : T ≠ 41) (h2 : T ≠ 50) : Y.heap[b]? = some (.cells cs T) := by
  rw [h.keepB (Array.getElem?_eq_some_iff.1 hb).1 (fun e => by
    obtain ⟨v, g, k, e2⟩ := hR.1
    rw [e, e2] at hb
    simp only [Option.some.injEq, Obj.cells.injEq] at hb
    exact h2 hb.2.1.symm) (fun e => by
    obtain ⟨_, _, cs', e2⟩ := hR.2.2 b e
    rw [hb] at e2
    simp only [Option.some.injEq, Obj.cells.injEq] at e2
    exact h1 e2.2.1)]
  exact hb
theorem nd_kp {lo l2 B : Nat} {X Y : World} {v : Value} {l : List Tree} (h : IsNd (FrN l2 X) X v l) (k : KpM lo B X Y) (hR : RowT lo B X) : IsNd (FrN l2 Y) Y v l := h.keep k.size fun b hp hlt => by
  obtain ⟨h1, cs', h2⟩ := hp
  have e := k.block hR h2 (by decide) (by decide)
  exact ⟨e.trans h2.symm, h1, cs', e⟩
theorem ks_kp {lo l2 B : Nat} {X Y : World} {v : Value} {l : List Int} (h : IsKs E l2 X v l) (k : KpM lo B X Y) (hR : RowT lo B X) : IsKs E l2 Y v l := h.keep k.size fun b hp hlt => by
  obtain ⟨h1, _, cs', h2⟩ := hp
  exact (k.block hR h2 (by decide) (by decide)).trans h2.symm
theorem HoldsS.kp {lo B : Nat} {X Y : World} {x : StepR} (h : HoldsS E lo X x) (k : KpM lo B X Y) (hR : RowT lo B X) : HoldsS E lo Y x := ⟨nd_kp h.1 k hR, ks_kp h.2 k hR⟩
theorem MkS.rowT {lo B : Nat} {x : Mk} {X : World} (h : MkS E lo B x X) : RowT lo B X := by
  obtain ⟨h0, A, cp, rs, h1, h2, _⟩ := h
  exact ⟨⟨_, _, _, h1⟩, h0, row_type h1 h2⟩
theorem MkS.lt {lo B : Nat} {x : Mk} {X : World} (h : MkS E lo B x X) : B < X.heap.size := by
  obtain ⟨_, A, cp, rs, h1, _⟩ := h
  exact (Array.getElem?_eq_some_iff.1 h1).1
theorem MkS.step {lo B : Nat} {x : Mk} {X Y : World} (h : MkS E lo B x X) (hb : Below X.heap.size X Y) : MkS E lo B x Y := by
  obtain ⟨h0, A, cp, rs, h1, h2, h3, h4⟩ := h
  exact ⟨h0, A, cp, rs, (hb.block _ (Array.getElem?_eq_some_iff.1 h1).1).trans h1, ownsRow_below h2 hb, h3, fun r hr => (h4 r hr).kp (KpM.of_below (lo := lo) (B := B) hb (Array.getElem?_eq_some_iff.1 h1).1) ⟨⟨_, _, _, h1⟩, h0, row_type h1 h2⟩⟩
/-- one step more -/
theorem MkS.lay {lo B : Nat} {x : Mk} {X V Y : World} {A : Option Addr} {cp : Nat} {rs : List StepR} (h0 : lo ≤ B) (h1 : X.heap[B]? = some (mkO (.slice A x.l.length cp) x.g x.b)) (h2 : X.ownsRow lo 41 11 (.slice A x.l.length cp) x.l.length (flat StepR.cs rs)) (h3 : rs.map (·.d) = x.l) (h4 : ∀ r ∈ rs, HoldsS E lo X r)
    (hb : Below X.heap.size X V) (hlo : lo ≤ X.heap.size) {r : StepR} (hr : HoldsS E lo X r) {g n m : Nat} (hm : m = x.l.length + 1)
    (o : Y.ownsRow lo 41 11 (.slice (some ⟨g, 0, none⟩) (x.l.length + 1) n) (x.l.length + 1) (flat StepR.cs (rs ++ [r]))) (hg : V.grownBy Y (Value.slice A x.l.length cp).ownBlock) (hw : (Value.slice A x.l.length cp).ownBlock = some g ∨ g = V.heap.size) :
    MkS E lo B (x.lay r.d) (Y.setCell ⟨B, 0, none⟩ (.slice (some ⟨g, 0, none⟩) m n)) ∧ KpM lo B X (Y.setCell ⟨B, 0, none⟩ (.slice (some ⟨g, 0, none⟩) m n)) := by
  subst hm
  have T1 := touch_grownE hg
  have hgX : ∀ k, (Value.slice A x.l.length cp).ownBlock = some k → lo ≤ k ∧ ∃ cs, X.heap[k]? = some (.cells cs 41) := fun k hk => ⟨(own_ltN h2 k hk).1, own_typeN h2 k hk⟩
  have hBV := (hb.block _ (Array.getElem?_eq_some_iff.1 h1).1).trans h1
  have hBY := (T1.block _ (Array.getElem?_eq_some_iff.1 hBV).1 (fun e => by obtain ⟨_, cs, e2⟩ := hgX _ e; rw [h1] at e2; simp at e2)).trans hBV
  have hR : RowT lo B X := ⟨⟨_, _, _, h1⟩, h0, row_type h1 h2⟩
  have K2 : KpM lo B X (Y.setCell ⟨B, 0, none⟩ (.slice (some ⟨g, 0, none⟩) (x.l.length + 1) n)) := by
    refine ⟨Touch.set (p := ⟨B, 0, none⟩) (Touch.trans (Touch.of_below (F := fun b => b = B ∨ RowB B X b) hb) T1 fun k _ hk => .inr ⟨_, _, _, h1, hk⟩) (.inl (.inl rfl)) _, fun b hlt hr => ?_⟩
    obtain ⟨v, g', k', e, hb'⟩ := hr
    have e2 := heap_setCell_same Y B 0 _ _ (.slice (some ⟨g, 0, none⟩) (x.l.length + 1) n) hBY
    rw [e] at e2
    simp only [Option.some.injEq, Obj.cells.injEq, and_true] at e2
    have e3 : v = .slice (some ⟨g, 0, none⟩) (x.l.length + 1) n := by
      have := congrArg (fun a : Array Value => a[0]?) e2
      simpa using this
    subst e3
    simp only [Value.ownBlock, Option.some.injEq] at hb'
    subst hb'
    rcases hw with e4 | e4
    · exact ⟨_, _, _, h1, e4⟩
    · have := hb.size
      omega
  have hgB : g ≠ B := fun e => by
    obtain ⟨cs, e2⟩ := own_typeN o g rfl
    rw [e, hBY] at e2
    simp at e2
  have hl : (x.lay r.d).l.length = x.l.length + 1 := by simp [Mk.lay]
  refine ⟨⟨h0, some ⟨g, 0, none⟩, n, rs ++ [r], ?_, ?_, by simp [Mk.lay, h3], fun y hy => ?_⟩, K2⟩
  · rw [hl]
    exact heap_setCell_same Y B 0 _ _ _ hBY
  · rw [hl]
    exact ownsRow_touch o ((Touch.refl _ _).set1 _ _) (fun k hk e => by simp only [Value.ownBlock, Option.some.injEq] at hk; exact hgB (hk.trans e))
  · rcases List.mem_append.1 hy with hy | hy
    · exact (h4 y hy).kp K2 hR
    · rw [List.mem_singleton.1 hy]
      exact hr.kp K2 hR
end Go.Proofs.YtiagegecnopfgaaDoor
