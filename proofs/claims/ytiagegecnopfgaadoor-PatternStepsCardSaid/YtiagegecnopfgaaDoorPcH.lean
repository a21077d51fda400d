/- Lists of steps under overwriting. -/
import Derived.Test.YtiagegecnopfgaaDoorPcF
namespace Go.Proofs.YtiagegecnopfgaaDoor
set_option linter.all false
open Go.ChangeShapes Go.WideShapes Go.ChangeAt Go.RowKit Go.Sort Go.Deep

theorem RowR.nil {E : Nat → Prop} {lo : Nat} {X : World} : RowR E lo (.slice none 0 0) 0 [] X := ⟨rfl, ⟨by simp [flat], .inl ⟨rfl, rfl⟩⟩, fun r hr => by cases hr⟩
theorem RowR.rd {E : Nat → Prop} {lo n : Nat} {v : Value} {rs : List StepR} {X : World} (h : RowR E lo v n rs X) : RdL X v (rs.map (·.d)) := by
  obtain ⟨hn, o, hh⟩ := h
  subst hn
  exact ⟨rs, ownsRow_slOf sr_len o, rfl, fun r hr => ⟨(hh r hr).1.mono fun _ _ => trivial, (hh r hr).2.1⟩⟩
/-- a list made behind the overwritten blocks stays -/
theorem RowR.tk {lo hi n : Nat} {v : Value} {rs : List StepR} {Y Z : World} (h : RowR (fun b => b < hi) lo v n rs Y) (hg : ∀ g, v.ownBlock = some g → hi ≤ g) (k : TK lo hi Y Z) : RowR (fun b => b < hi) lo v n rs Z :=
  h.touch k.1 (fun _ hb _ => ⟨hb.1, fun _ => hb.2⟩) fun g e hb => by have := hg g e; omega
/-- a list of keys, whatever it holds -/
def ShK (lo hi : Nat) (X : World) (A : Option Addr) (n : Nat) : Prop := n ≤ 9223372036854775807 ∧ (0 < n → ∃ b off, A = some ⟨b, off, none⟩ ∧ (lo ≤ b ∧ b < hi) ∧ (∃ cs, X.heap[b]? = some (Obj.cells cs 3)) ∧ ∀ j, j < n → ∃ a : Int, X.cell? ⟨b, off + j, none⟩ = some (.int .i64 a))
theorem ShK.tk {lo hi n : Nat} {X Y : World} {A : Option Addr} (h : ShK lo hi X A n) (k : TK lo hi X Y) : ShK lo hi Y A n := by
  refine ⟨h.1, fun h0 => ?_⟩
  obtain ⟨b, off, e, hb, ⟨cs, hc⟩, hx⟩ := h.2 h0
  refine ⟨b, off, e, hb, k.2.2.1 b hb.1 hb.2 cs _ hc, fun j hj => ?_⟩
  obtain ⟨a, ha⟩ := hx j hj
  obtain ⟨v, hv, q⟩ := k.2.2.2 b _ _ hb.1 hb.2 ha
  obtain ⟨a', rfl⟩ := q.int
  exact ⟨a', hv⟩
theorem IsKs.sh {E : Nat → Prop} {lo hi : Nat} {X : World} {v : Value} {ks : List Int} (h : IsKs E lo X v ks) (hh : X.heap.size ≤ hi) : ∃ A c, v = .slice A ks.length c ∧ ShK lo hi X A ks.length := by
  obtain ⟨A, c, e, hc, hm⟩ := h.1.form
  refine ⟨A, c, e, by unfold maxLen at hm; omega, fun h0 => ?_⟩
  obtain ⟨b, off, c', e2, _, hb, hx⟩ := h.1.at_ h0
  have h2 := h.2 _ _ _ e2 h0
  rw [e] at e2
  simp only [Value.slice.injEq] at e2
  refine ⟨b, off, e2.1, ⟨h2.1, by omega⟩, h2.2.2, fun j hj => ?_⟩
  have hr : ks[j]? = some ks[j] := List.getElem?_eq_getElem hj
  have := hx j _ hr 0 _ rfl
  rw [Nat.mul_one, Nat.add_zero] at this
  exact ⟨_, this⟩
/-- a step's cells, whatever they hold -/
def ShS (lo hi : Nat) (X : World) (b o : Nat) (A : Option Addr) (q c : Nat) (A2 : Option Addr) (q2 c2 : Nat) (l : List Tree) : Prop :=
  (∃ a : Int, X.cell? ⟨b, o, none⟩ = some (.int .i64 a)) ∧ (∃ a : Int, X.cell? ⟨b, o + 1, none⟩ = some (.int .i64 a)) ∧ (∃ a : Int, X.cell? ⟨b, o + 2, none⟩ = some (.int .i64 a)) ∧ (∃ s : ByteArray, X.cell? ⟨b, o + 3, none⟩ = some (.string s)) ∧
  (∃ a : Int, X.cell? ⟨b, o + 4, none⟩ = some (.int .i64 a)) ∧ (∃ a : Int, X.cell? ⟨b, o + 5, none⟩ = some (.int .i64 a)) ∧ (∃ a : Int, X.cell? ⟨b, o + 6, none⟩ = some (.int .i64 a)) ∧ (∃ a : Int, X.cell? ⟨b, o + 7, none⟩ = some (.int .i64 a)) ∧ (∃ s : ByteArray, X.cell? ⟨b, o + 8, none⟩ = some (.string s)) ∧
  X.cell? ⟨b, o + 9, none⟩ = some (.slice A q c) ∧ X.cell? ⟨b, o + 10, none⟩ = some (.slice A2 q2 c2) ∧ IsSh lo hi X (.slice A q c) l ∧ ShK lo hi X A2 q2
theorem tk_int {lo hi b o : Nat} {X Y : World} (k : TK lo hi X Y) (hl : lo ≤ b) (hb : b < hi) (h : ∃ a : Int, X.cell? ⟨b, o, none⟩ = some (.int .i64 a)) : ∃ a : Int, Y.cell? ⟨b, o, none⟩ = some (.int .i64 a) := by
  obtain ⟨a, h⟩ := h
  obtain ⟨v, hv, q⟩ := k.2.2.2 b o _ hl hb h
  obtain ⟨a', rfl⟩ := q.int
  exact ⟨a', hv⟩
theorem tk_str {lo hi b o : Nat} {X Y : World} (k : TK lo hi X Y) (hl : lo ≤ b) (hb : b < hi) (h : ∃ a : ByteArray, X.cell? ⟨b, o, none⟩ = some (.string a)) : ∃ a : ByteArray, Y.cell? ⟨b, o, none⟩ = some (.string a) := by
  obtain ⟨a, h⟩ := h
  obtain ⟨v, hv, q⟩ := k.2.2.2 b o _ hl hb h
  obtain ⟨a', rfl⟩ := q.str
  exact ⟨a', hv⟩
theorem tk_sl {lo hi b o : Nat} {X Y : World} (k : TK lo hi X Y) (hl : lo ≤ b) (hb : b < hi) {A : Option Addr} {n c : Nat} (h : X.cell? ⟨b, o, none⟩ = some (.slice A n c)) : Y.cell? ⟨b, o, none⟩ = some (.slice A n c) := by
  obtain ⟨v, hv, q⟩ := k.2.2.2 b o _ hl hb h
  rw [q.slice] at hv
  exact hv
theorem ShS.tk {lo hi b o q c q2 c2 : Nat} {A A2 : Option Addr} {l : List Tree} {X Y : World} (h : ShS lo hi X b o A q c A2 q2 c2 l) (hl : lo ≤ b) (hb : b < hi) (k : TK lo hi X Y) : ShS lo hi Y b o A q c A2 q2 c2 l := by
  obtain ⟨h0, h1, h2, h3, h4, h5, h6, h7, h8, h9, h10, h11, h12⟩ := h
  exact ⟨tk_int k hl hb h0, tk_int k hl hb h1, tk_int k hl hb h2, tk_str k hl hb h3, tk_int k hl hb h4, tk_int k hl hb h5, tk_int k hl hb h6, tk_int k hl hb h7, tk_str k hl hb h8, tk_sl k hl hb h9, tk_sl k hl hb h10, h11.tk k, h12.tk k⟩
/-- a list of steps, whatever they hold -/
def ShL (lo hi : Nat) (X : World) (A : Option Addr) (n : Nat) : Prop := 0 < n → ∃ b off, A = some ⟨b, off, none⟩ ∧ (lo ≤ b ∧ b < hi) ∧ ∀ i, i < n → ∃ A1 q1 c1 A2 q2 c2 l, ShS lo hi X b (off + i * 11) A1 q1 c1 A2 q2 c2 l
theorem ShL.tk {lo hi n : Nat} {X Y : World} {A : Option Addr} (h : ShL lo hi X A n) (k : TK lo hi X Y) : ShL lo hi Y A n := fun h0 => by
  obtain ⟨b, off, e, hb, hx⟩ := h h0
  refine ⟨b, off, e, hb, fun i hi => ?_⟩
  obtain ⟨A1, q1, c1, A2, q2, c2, l, hs⟩ := hx i hi
  exact ⟨A1, q1, c1, A2, q2, c2, l, hs.tk hb.1 hb.2 k⟩
theorem IsSt.sh {lo hi : Nat} {X : World} {A : Option Addr} {n c : Nat} {l : List StepD} (h : IsSt lo X (.slice A n c) l) (hh : X.heap.size ≤ hi) : ShL lo hi X A n := by
  intro h0
  obtain ⟨A', c', rs, e, ho, hl, hr⟩ := h
  simp only [Value.slice.injEq] at e
  obtain ⟨rfl, rfl, rfl⟩ := e
  have hlen : rs.length = l.length := by rw [← hl]; simp
  rw [← hlen] at ho
  obtain ⟨b, off, cap, e, _, hb, hx⟩ := (ownsRow_slOf sr_len ho).at_ (by omega)
  have e0 := e
  simp only [Value.slice.injEq] at e
  obtain ⟨rfl, -, rfl⟩ := e
  refine ⟨b, off, rfl, ⟨(own_ltN ho b rfl).1, by omega⟩, fun i hi => ?_⟩
  obtain ⟨r, hri⟩ : ∃ r, rs[i]? = some r := ⟨_, List.getElem?_eq_getElem (by omega)⟩
  obtain ⟨h1, h2⟩ := hr r (List.mem_of_getElem? hri)
  have f := fun j u hu => hx i r hri j u hu
  exact ⟨r.A1, r.d.nd.kids.length, r.c1, r.A2, r.d.ks.length, r.c2, r.d.nd.kids, ⟨_, f 0 _ rfl⟩, ⟨_, f 1 _ rfl⟩, ⟨_, f 2 _ rfl⟩, ⟨_, f 3 _ rfl⟩, ⟨_, f 4 _ rfl⟩, ⟨_, f 5 _ rfl⟩, ⟨_, f 6 _ rfl⟩, ⟨_, f 7 _ rfl⟩, ⟨_, f 8 _ rfl⟩, f 9 _ rfl, f 10 _ rfl, h1.sh hh, by
    obtain ⟨A5, c5, e5, h5⟩ := h2.sh hh
    simp only [StepR.ks, Value.slice.injEq] at e5
    rw [e5.1]
    exact h5⟩
/-- the table of powers outlives overwriting -/
theorem PowTab.low {X Y : World} (h : PowTab X) (hb : ∀ b, b < X.heap.size → Y.heap[b]? = X.heap[b]?) : PowTab Y := ((Tab.start h).low hb).1
end Go.Proofs.YtiagegecnopfgaaDoor
