/- Slices in memory that read as lists. -/
import Derived.Test.YtiagegecnopfgaaDoorVals
import Derived.Test.YtiagegecnopfgaaDoorGrow
import Derived.Deep.RegionWith
import Derived.Deep.DeepCutAuto
import Derived.Deep.DeepMust
namespace Go.Proofs.YtiagegecnopfgaaDoor
set_option linter.all false
open Go.RowKit Go.Sort Go.Deep

instance : DecidableEq Val := fun a b => if h : a.eq b = true then .isTrue (Val.eq_iff.1 h) else .isFalse fun e => h (Val.eq_iff.2 e)

/-- v is a slice whose elements, of n cells each, hold xs in w. -/
def SlOf {α : Type} (w : World) (n : Nat) (en : α → List Value) (v : Value) (xs : List α) : Prop :=
  xs.length ≤ maxLen ∧ ∃ (A : Option Addr) (cap : Nat), v = .slice A xs.length cap ∧ xs.length ≤ cap ∧
    (0 < xs.length → ∃ b off, A = some ⟨b, off, none⟩ ∧ b < w.heap.size ∧ ∀ i x, xs[i]? = some x → ∀ j u, (en x)[j]? = some u → w.cell? ⟨b, off + i * n + j, none⟩ = some u)

section
variable {α : Type} {w w' : World} {n : Nat} {en : α → List Value} {v : Value} {xs : List α}
theorem SlOf.nil_ : SlOf w n en (.slice none 0 0) ([] : List α) := ⟨by simp, none, 0, rfl, Nat.le_refl _, fun h => absurd h (Nat.lt_irrefl 0)⟩
theorem SlOf.keep (h : SlOf w n en v xs) (hs : w.heap.size ≤ w'.heap.size) (hk : ∀ b o, b < w.heap.size → w'.cell? ⟨b, o, none⟩ = w.cell? ⟨b, o, none⟩) : SlOf w' n en v xs := by
  obtain ⟨hm, A, cap, hv, hc, h⟩ := h
  refine ⟨hm, A, cap, hv, hc, fun h0 => ?_⟩
  obtain ⟨b, off, hA, hb, hx⟩ := h h0
  exact ⟨b, off, hA, by omega, fun i x hi j u hj => by rw [hk _ _ hb]; exact hx i x hi j u hj⟩
theorem SlOf.below (h : SlOf w n en v xs) (hb : Below w.heap.size w w') : SlOf w' n en v xs := h.keep hb.size fun b _ hlt => hb.cell (p := ⟨b, _, none⟩) hlt
theorem SlOf.gr (h : SlOf w n en v xs) (p : Regrown) : SlOf (gr w p) n en v xs := h.below (below_gr w p)
theorem SlOf.alloc (h : SlOf w n en v xs) (o : Obj) : SlOf (w.alloc o) n en v xs := h.below ((Below.refl _ w).alloc (Nat.le_refl _) o)
theorem SlOf.drew (h : SlOf w n en v xs) : SlOf w.drew n en v xs := h
theorem SlOf.form (h : SlOf w n en v xs) : ∃ A cap, v = .slice A xs.length cap ∧ xs.length ≤ cap ∧ xs.length ≤ maxLen := by
  obtain ⟨hm, A, cap, hv, hc, _⟩ := h
  exact ⟨A, cap, hv, hc, hm⟩
theorem SlOf.at_ (h : SlOf w n en v xs) (h0 : 0 < xs.length) : ∃ b off cap, v = .slice (some ⟨b, off, none⟩) xs.length cap ∧ xs.length ≤ cap ∧ b < w.heap.size ∧ ∀ i x, xs[i]? = some x → ∀ j u, (en x)[j]? = some u → w.cell? ⟨b, off + i * n + j, none⟩ = some u := by
  obtain ⟨hm, A, cap, hv, hc, h⟩ := h
  obtain ⟨b, off, rfl, hb, hx⟩ := h h0
  exact ⟨b, off, cap, hv, hc, hb, hx⟩
end

section
variable {H : Type} {enc : TypeId × Value → H} {w : World} {base : Nat} {spare : Nat → Bool} {held : Bool}
theorem add_off (b off i : Nat) : (Addr.mk b off none).add i = ⟨b, off + i, none⟩ := by
  unfold Addr.add
  split
  · rename_i h
    subst h
    rfl
  · rfl

/-- A slice argument opened: what each element's cells are. -/
theorem open_sl {α : Type} [Inhabited α] {T E : TypeId} {n : Nat} {en : α → List Value} {ok : α → Prop} (hT : Tryd.prog.underlying T = some (.slice E)) (hn : Tryd.prog.cellsOf E = n) (hn0 : 0 < n)
    (helem : ∀ (m : Nat) (cs : List Value) (x : DataW H × List MemPlace), DataW.trod enc Tryd.prog w base spare held m E cs = some x → ∃ a : α, cs = en a ∧ ok a)
    {m : Nat} {cs : List Value} {x : DataW H × List MemPlace} (h : DataW.trod enc Tryd.prog w base spare held m T cs = some x) : ∃ (v : Value) (xs : List α), cs = [v] ∧ SlOf w n en v xs ∧ ∀ a ∈ xs, ok a := by
  rcases open_slice hT h with ⟨rfl, _⟩ | ⟨a, len, cap, m', k, D, Pl, rfl, hb, hl, hm, hmm, _, hi⟩
  · exact ⟨_, [], rfl, .nil_, by simp⟩
  · have hle : len ≤ m' := by rw [hmm]; split <;> omega
    rw [hn] at hi
    have hex : ∀ i, i < len → ∃ a' : α, w.cells? base (a.add (i * n)) n = some (en a') ∧ ok a' := fun i hil => by
      obtain ⟨cs', h1, h2⟩ := hi i (by omega)
      obtain ⟨a', rfl, hok⟩ := helem _ _ _ h2
      exact ⟨a', h1, hok⟩
    obtain ⟨f, hf⟩ := choose_lt hex
    refine ⟨_, (List.range len).map f, rfl, ⟨by simp; omega, some a, cap, by simp, by simpa using hl, fun h0 => ?_⟩, ?_⟩
    · have hlen : 0 < len := by simpa using h0
      obtain ⟨b, off, spot⟩ := a
      have c0 := World.cells?_some (hf 0 hlen).1
      have hl0 : (en (f 0)).length = n := c0.2.1
      have hc0 := c0.2.2 0 hn0
      rw [List.getElem?_eq_getElem (by omega)] at hc0
      have hspot : spot = none := by simpa [Addr.add] using World.cell?_spot hc0
      subst hspot
      have hblt : b < w.heap.size := World.block_lt_of_cell? w _ (by rw [add_off, add_off] at hc0; exact hc0)
      refine ⟨b, off, rfl, hblt, fun i x hx j u hu => ?_⟩
      have hil : i < len := by
        have := (List.getElem?_eq_some_iff.1 hx).1
        simpa using this
      have hxf : x = f i := by
        simp [hil] at hx
        exact hx.symm
      subst hxf
      have ci := World.cells?_some (hf i hil).1
      have hj : j < n := by
        have := (List.getElem?_eq_some_iff.1 hu).1
        rw [ci.2.1] at this
        exact this
      have := ci.2.2 j hj
      rw [add_off, add_off, hu] at this
      rw [← this]
    · intro a' ha'
      obtain ⟨i, hi', rfl⟩ := List.mem_map.1 ha'
      exact (hf i (by simpa using hi')).2
end

abbrev IsV (w : World) (v : Value) (xs : List Val) : Prop := SlOf w 3 Val.cs v xs
section
variable {H : Type} {enc : TypeId × Value → H} {w : World} {base : Nat} {spare : Nat → Bool} {held : Bool}
instance : Inhabited Val := ⟨.zero⟩
end

/-! ### cells -/
structure CellD where
  k : Int
  sh : Int
  fl : Int
  ag : Int
  sl : List Val
  mo : List Val
deriving DecidableEq
abbrev cellV (k sh fl ag : Int) (sv mv : Value) : Value := .agg #[.int .i64 k, .int .i64 sh, .int .i64 fl, .int .i64 ag, sv, mv]
/-- the cells of a Cell, its slices as they stand -/
structure CellR where
  k : Int
  sh : Int
  fl : Int
  ag : Int
  sv : Value
  mv : Value
abbrev CellR.cs (c : CellR) : List Value := [.int .i64 c.k, .int .i64 c.sh, .int .i64 c.fl, .int .i64 c.ag, c.sv, c.mv]
instance : Inhabited CellD := ⟨⟨0, 0, 0, 0, [], []⟩⟩
instance : Inhabited CellR := ⟨⟨0, 0, 0, 0, .nilFunc, .nilFunc⟩⟩
def CellD.ok (c : CellD) : Prop := i64ok c.k ∧ i64ok c.sh ∧ i64ok c.fl ∧ i64ok c.ag ∧ (∀ x ∈ c.sl, x.ok) ∧ (∀ x ∈ c.mo, x.ok)
def Holds6 (w : World) (r : CellR) (c : CellD) : Prop := r.k = c.k ∧ r.sh = c.sh ∧ r.fl = c.fl ∧ r.ag = c.ag ∧ IsV w r.sv c.sl ∧ IsV w r.mv c.mo
theorem Holds6.below {w w' : World} {r : CellR} {c : CellD} (h : Holds6 w r c) (hb : Below w.heap.size w w') : Holds6 w' r c := ⟨h.1, h.2.1, h.2.2.1, h.2.2.2.1, h.2.2.2.2.1.below hb, h.2.2.2.2.2.below hb⟩

/-- a slice of cells that reads as l -/
def IsC (w : World) (v : Value) (l : List CellD) : Prop := ∃ rs : List CellR, SlOf w 6 CellR.cs v rs ∧ rs.length = l.length ∧ ∀ (i : Nat) (r : CellR) (c : CellD), rs[i]? = some r → l[i]? = some c → Holds6 w r c
theorem IsC.below {w w' : World} {v : Value} {l : List CellD} (h : IsC w v l) (hb : Below w.heap.size w w') : IsC w' v l := by
  obtain ⟨rs, h1, h2, h3⟩ := h
  exact ⟨rs, h1.below hb, h2, fun i r c hr hc => (h3 i r c hr hc).below hb⟩
theorem IsC.nil_ {w : World} : IsC w (.slice none 0 0) [] := ⟨[], .nil_, rfl, by simp⟩

end Go.Proofs.YtiagegecnopfgaaDoor
