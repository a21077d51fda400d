/- Arguments opened, with the bound that the statement puts on their bytes. -/
import Derived.Test.YtiagegecnopfgaaDoorSl
namespace Go.Proofs.YtiagegecnopfgaaDoor
set_option linter.all false
open Go.RowKit Go.Sort Go.Deep

/-- each string, slice and map in d is at most as long as a machine's memory allows -/
def light {H : Type} (T : TypeId) (d : DataW H) : Prop := ∀ n ∈ d.weights Tryd.prog T, n ≤ reachBytes

section
variable {H : Type} {enc : TypeId × Value → H} {w : World} {base : Nat} {spare : Nat → Bool} {held : Bool}
theorem mem_weightsAll {E : TypeId} {d : DataW H} {n : Nat} (hn : n ∈ d.weights Tryd.prog E) : ∀ {l : List (DataW H)}, d ∈ l → n ∈ DataW.weightsAll Tryd.prog E l
  | a :: l, h => by
    unfold DataW.weightsAll
    rcases List.mem_cons.1 h with rfl | h
    · exact List.mem_append_left _ hn
    · exact List.mem_append_right _ (mem_weightsAll hn h)
theorem light_of_each {ts : List TypeId} {ds : List (DataW H)} (h : (DataW.weightsEach Tryd.prog ts ds).all (· ≤ reachBytes) = true) {j : Nat} {t : TypeId} {d : DataW H} (ht : ts[j]? = some t) (hd : ds[j]? = some d) : light t d := fun n hn => by
  have := List.all_eq_true.1 h n (DataW.weights_mem_each ht hd n hn)
  simpa using this
theorem light_field {T : TypeId} {fs : Array Field} (hT : Tryd.prog.underlying T = some (.struct fs)) {parts : List (DataW H)} (h : light T (DataW.agg parts)) {j : Nat} {f : Field} {d : DataW H} (hf : fs[j]? = some f) (hd : parts[j]? = some d) : light f.type d := fun n hn => by
  refine h n ?_
  unfold DataW.weights
  rw [hT]
  refine DataW.weights_mem_each (j := j) ?_ hd n hn
  rw [List.getElem?_map, Array.getElem?_toList, hf]
  rfl

/-- A slice argument opened: what each element's cells are. -/
theorem open_slf {α : Type} [Inhabited α] {T E : TypeId} {n bytes : Nat} {en : α → List Value} {ok : α → Prop} (hT : Tryd.prog.underlying T = some (.slice E)) (hn : Tryd.prog.cellsOf E = n) (hn0 : 0 < n) (hb : Tryd.prog.bytesOf E = bytes)
    (helem : ∀ (m : Nat) (cs : List Value) (x : DataW H × List MemPlace), DataW.trod enc Tryd.prog w base spare held m E cs = some x → light E x.1 → ∃ a : α, cs = en a ∧ ok a)
    {m : Nat} {cs : List Value} {x : DataW H × List MemPlace} (h : DataW.trod enc Tryd.prog w base spare held m T cs = some x) (hl : light T x.1) :
    ∃ (v : Value) (xs : List α), cs = [v] ∧ SlOf w n en v xs ∧ (∀ a ∈ xs, ok a) ∧ xs.length * bytes ≤ reachBytes := by
  rcases open_slice hT h with ⟨rfl, _⟩ | ⟨a, len, cap, m', k, D, Pl, rfl, hbb, hle0, hm, hmm, hx, hi⟩
  · exact ⟨_, [], rfl, .nil_, by simp, by simp⟩
  · have hle : len ≤ m' := by rw [hmm]; split <;> omega
    rw [hn] at hi
    subst hx
    have hw : ∀ i, i < len → light E (D i) := fun i hil n hn' => by
      refine hl n ?_
      unfold DataW.weights
      rw [hT]
      refine List.mem_cons_of_mem _ (List.mem_append_left _ (mem_weightsAll hn' ?_))
      exact List.mem_map.2 ⟨i, List.mem_range.2 hil, rfl⟩
    have hlen : len * bytes ≤ reachBytes := by
      have := hl (((List.range len).map D).length * bytes + ((List.range (m' - len)).map fun j => D (len + j)).length * bytes) (by
        unfold DataW.weights
        rw [hT]
        dsimp only
        rw [hb, ← Nat.add_mul]
        exact List.mem_cons_self ..)
      simp only [List.length_map, List.length_range] at this
      omega
    have hex : ∀ i, i < len → ∃ a' : α, w.cells? base (a.add (i * n)) n = some (en a') ∧ ok a' := fun i hil => by
      obtain ⟨cs', h1, h2⟩ := hi i (by omega)
      obtain ⟨a', rfl, hok⟩ := helem _ _ _ h2 (hw i hil)
      exact ⟨a', h1, hok⟩
    obtain ⟨f, hf⟩ := choose_lt hex
    refine ⟨_, (List.range len).map f, rfl, ⟨by simp; omega, some a, cap, by simp, by simpa using hle0, fun h0 => ?_⟩, ?_, by simpa using hlen⟩
    · have hlen : 0 < len := by simpa using h0
      obtain ⟨b, off, spot⟩ := a
      have c0 := World.cells?_some (hf 0 hlen).1
      have hl0 : (en (f 0)).length = n := c0.2.1
      have hc0 := c0.2.2 0 hn0
      rw [List.getElem?_eq_getElem (by omega)] at hc0
      have hspot : spot = none := by simpa [Addr.add] using World.cell?_spot hc0
      subst hspot
      have hblt : b < w.heap.size := World.block_lt_of_cell? w _ (by rw [add_off, add_off] at hc0; exact hc0)
      refine ⟨b, off, rfl, hblt, fun i x hx j u hu => ?_⟩
      have hil : i < len := by
        have := (List.getElem?_eq_some_iff.1 hx).1
        simpa using this
      have hxf : x = f i := by
        simp [hil] at hx
        exact hx.symm
      subst hxf
      have ci := World.cells?_some (hf i hil).1
      have hj : j < n := by
        have := (List.getElem?_eq_some_iff.1 hu).1
        rw [ci.2.1] at this
        exact this
      have := ci.2.2 j hj
      rw [add_off, add_off, hu] at this
      rw [← this]
    · intro a' ha'
      obtain ⟨i, hi', rfl⟩ := List.mem_map.1 ha'
      exact (hf i (by simpa using hi')).2
end

/-- a list of values that make and append take -/
def fitV (l : List Val) : Prop := l.length * 32 ≤ 140737488355328
def CellD.fit (c : CellD) : Prop := fitV c.sl ∧ fitV c.mo
theorem fitV.le {l : List Val} (h : fitV l) : l.length ≤ 4398046511104 := by
  have h' : l.length * 32 ≤ 140737488355328 := h
  omega
section
variable {H : Type} {enc : TypeId × Value → H} {w : World} {base : Nat} {spare : Nat → Bool} {held : Bool}
end
end Go.Proofs.YtiagegecnopfgaaDoor
