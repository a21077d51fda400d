/- Property lists: properties as they stand in memory. Property lists: place, Find. Property lists: Find. Property lists: the reference's Find. Property lists: a list of properties as an element type; copied. -/
import Derived.Test.YtippimonpdeioaaDescA
import Derived.Test.YtippimonpdeioaaKeyL
import Derived.Test.YtippimonpdeioaaOwn
import Derived.Test.YtippimonpdeioaaSrC
import Derived.Shelf.Abstract
import Derived.Test.YtippimonpdeioaaSrI
namespace Go.Proofs.Ytippimonpdeioaa
set_option linter.all false
open Go.ChangeShapes Go.WideShapes Go.ChangeAt Go.RowKit Go.Sort Go.Deep

deriving instance DecidableEq for Prp
abbrev Prp.cs (p : Prp) : List Value := [.int .i64 p.k.k, .int .i64 p.k.n, .string p.k.s, .int .i64 p.a, .int .i64 p.v.k, .int .i64 p.v.n, .string p.v.s, .int .i64 p.g.k, .int .i64 p.g.n, .string p.g.s, .int .i64 p.t.k, .int .i64 p.t.n, .string p.t.s]
abbrev Prp.nil : Prp := ⟨.zero, 0, .zero, .zero, .zero⟩
instance : Inhabited Prp := ⟨.nil⟩
theorem prp_len (x : Prp) : (Prp.cs x).length = 13 := rfl
/-- Go's == on properties -/
def Prp.eq (a b : Prp) : Bool := a.k.eq b.k && (a.a == b.a && (a.v.eq b.v && (a.g.eq b.g && a.t.eq b.t)))
theorem Prp.eq_iff {a b : Prp} : a.eq b = true ↔ a = b := by
  obtain ⟨k, s1, s2, s3, s4⟩ := a
  obtain ⟨k', s1', s2', s3', s4'⟩ := b
  simp only [Prp.eq, Bool.and_eq_true, beq_iff_eq, Prp.mk.injEq, Val.eq_iff]
theorem Prp.eq_self (a : Prp) : a.eq a = true := Prp.eq_iff.2 rfl
theorem Prp.eq_false {a b : Prp} : a.eq b = false ↔ a ≠ b := by rw [← Bool.not_eq_true, Ne, Prp.eq_iff]
theorem eqIn_key (d : Nat) (a b a' b' : Int) (s s' : ByteArray) (w : World) : (Op.equalIn (d + 1 + 1) 24 (.agg #[.int .i64 a, .int .i64 b, .string s]) (.agg #[.int .i64 a', .int .i64 b', .string s'])).run Try.prog w = .ok ((Val.mk a b s).eq ⟨a', b', s'⟩) w := by
  simp [go_sem, Val.eq]
  by_cases h1 : a = a' <;> by_cases h2 : b = b' <;> by_cases h3 : s.toList = s'.toList <;> simp [h1, h2, h3]
theorem eqIn_val (d : Nat) (a b a' b' : Int) (s s' : ByteArray) (w : World) : (Op.equalIn (d + 1 + 1) 25 (.agg #[.int .i64 a, .int .i64 b, .string s]) (.agg #[.int .i64 a', .int .i64 b', .string s'])).run Try.prog w = .ok ((Val.mk a b s).eq ⟨a', b', s'⟩) w := by
  simp [go_sem, Val.eq]
  by_cases h1 : a = a' <;> by_cases h2 : b = b' <;> by_cases h3 : s.toList = s'.toList <;> simp [h1, h2, h3]
theorem eqIn_prop (k k' v v' g g' t t' : Val) (a a' : Int) (w : World) : (Op.equalIn 10000 42 (.agg #[.int .i64 k.k, .int .i64 k.n, .string k.s, .int .i64 a, .int .i64 v.k, .int .i64 v.n, .string v.s, .int .i64 g.k, .int .i64 g.n, .string g.s, .int .i64 t.k, .int .i64 t.n, .string t.s]) (.agg #[.int .i64 k'.k, .int .i64 k'.n, .string k'.s, .int .i64 a', .int .i64 v'.k, .int .i64 v'.n, .string v'.s, .int .i64 g'.k, .int .i64 g'.n, .string g'.s, .int .i64 t'.k, .int .i64 t'.n, .string t'.s])).run Try.prog w = .ok ((Prp.mk k a v g t).eq ⟨k', a', v', g', t'⟩) w := by
  rw [show (10000 : Nat) = 9997 + 1 + 1 + 1 from rfl, run_equalIn_agg w _ _ _ _ (by simp [go_sem]) (by kernel_rfl)]
  simp [go_sem, eqIn_key, eqIn_val]
  by_cases h1 : a = a' <;> cases hk : k.eq k' <;> cases hv : v.eq v' <;> cases hg : g.eq g' <;> cases ht : t.eq t' <;> simp [h1, hk, hv, hg, ht, Prp.eq]
theorem prop_eql (p q : Prp) (w : World) : (binOp .eql 42 p.agg q.agg).run Try.prog w = .ok (.bool (p.eq q)) w := by
  rw [run_eql_struct, eqIn_prop]
  rfl
theorem prop_neq (p q : Prp) (w : World) : (binOp .neq 42 p.agg q.agg).run Try.prog w = .ok (.bool (!p.eq q)) w := by
  rw [run_neq_struct, eqIn_prop]
  rfl
/-- .. with the fields as they stand in a slot -/
theorem prop_neqL (k1 k2 : Int) (k3 : ByteArray) (a v1 v2 : Int) (v3 : ByteArray) (g1 g2 : Int) (g3 : ByteArray) (t1 t2 : Int) (t3 : ByteArray) (k1' k2' : Int) (k3' : ByteArray) (a' v1' v2' : Int) (v3' : ByteArray) (g1' g2' : Int) (g3' : ByteArray) (t1' t2' : Int) (t3' : ByteArray) (w : World) :
    (binOp .neq 42 (.agg #[.int .i64 k1, .int .i64 k2, .string k3, .int .i64 a, .int .i64 v1, .int .i64 v2, .string v3, .int .i64 g1, .int .i64 g2, .string g3, .int .i64 t1, .int .i64 t2, .string t3]) (.agg #[.int .i64 k1', .int .i64 k2', .string k3', .int .i64 a', .int .i64 v1', .int .i64 v2', .string v3', .int .i64 g1', .int .i64 g2', .string g3', .int .i64 t1', .int .i64 t2', .string t3'])).run Try.prog w =
      .ok (.bool (!(Prp.mk ⟨k1, k2, k3⟩ a ⟨v1, v2, v3⟩ ⟨g1, g2, g3⟩ ⟨t1, t2, t3⟩).eq ⟨⟨k1', k2', k3'⟩, a', ⟨v1', v2', v3'⟩, ⟨g1', g2', g3'⟩, ⟨t1', t2', t3'⟩⟩)) w := prop_neq ⟨⟨k1, k2, k3⟩, a, ⟨v1, v2, v3⟩, ⟨g1, g2, g3⟩, ⟨t1, t2, t3⟩⟩ ⟨⟨k1', k2', k3'⟩, a', ⟨v1', v2', v3'⟩, ⟨g1', g2', g3'⟩, ⟨t1', t2', t3'⟩⟩ w
attribute [simp] prop_neqL val_eql val_neq
theorem Prp.eq_cols (e : Prp) : (Prp.mk ⟨e.k.k, e.k.n, e.k.s⟩ e.a ⟨e.v.k, e.v.n, e.v.s⟩ ⟨e.g.k, e.g.n, e.g.s⟩ ⟨e.t.k, e.t.n, e.t.s⟩).eq ⟨⟨e.k.k, e.k.n, e.k.s⟩, e.a, ⟨e.v.k, e.v.n, e.v.s⟩, ⟨e.g.k, e.g.n, e.g.s⟩, ⟨e.t.k, e.t.n, e.t.s⟩⟩ = true := Prp.eq_self _
abbrev IsP (w : World) (v : Value) (xs : List Prp) : Prop := SlOf w 13 Prp.cs v xs
abbrev IsK (w : World) (v : Value) (xs : List Val) : Prop := SlOf w 3 Val.cs v xs
/-- a list of properties of the call's own -/
abbrev OwnP (w : World) (lo : Nat) (v : Value) (xs : List Prp) : Prop := w.ownsRow lo 42 13 v xs.length (flat Prp.cs xs)
theorem OwnP.isP {w : World} {lo : Nat} {v : Value} {xs : List Prp} (h : OwnP w lo v xs) : IsP w v xs := ownsRow_slOf prp_len h
abbrev OwnK (w : World) (lo : Nat) (v : Value) (xs : List Val) : Prop := w.ownsRow lo 24 3 v xs.length (flat Val.cs xs)
theorem OwnK.isK {w : World} {lo : Nat} {v : Value} {xs : List Val} (h : OwnK w lo v xs) : IsK w v xs := ownsRow_slOf cs_len h
/-- a property in a block of its own -/
abbrev prpO (p : Prp) : Obj := .cells #[.int .i64 p.k.k, .int .i64 p.k.n, .string p.k.s, .int .i64 p.a, .int .i64 p.v.k, .int .i64 p.v.n, .string p.v.s, .int .i64 p.g.k, .int .i64 p.g.n, .string p.g.s, .int .i64 p.t.k, .int .i64 p.t.n, .string p.t.s] 42
theorem cells13 {w : World} {b : Nat} {p : Prp} (h : w.heap[b]? = some (prpO p)) : (w.cell? ⟨b, 0, none⟩ = some (.int .i64 p.k.k) ∧ w.cell? ⟨b, 1, none⟩ = some (.int .i64 p.k.n) ∧ w.cell? ⟨b, 2, none⟩ = some (.string p.k.s) ∧ w.cell? ⟨b, 3, none⟩ = some (.int .i64 p.a) ∧
    w.cell? ⟨b, 4, none⟩ = some (.int .i64 p.v.k) ∧ w.cell? ⟨b, 5, none⟩ = some (.int .i64 p.v.n) ∧ w.cell? ⟨b, 6, none⟩ = some (.string p.v.s) ∧ w.cell? ⟨b, 7, none⟩ = some (.int .i64 p.g.k) ∧ w.cell? ⟨b, 8, none⟩ = some (.int .i64 p.g.n) ∧ w.cell? ⟨b, 9, none⟩ = some (.string p.g.s) ∧
    w.cell? ⟨b, 10, none⟩ = some (.int .i64 p.t.k) ∧ w.cell? ⟨b, 11, none⟩ = some (.int .i64 p.t.n) ∧ w.cell? ⟨b, 12, none⟩ = some (.string p.t.s)) ∧ ∀ j, w.frozen? ⟨b, j, none⟩ = false := by
  refine ⟨?_, fun j => frozen_of_row w b _ _ _ h⟩
  and_intros <;> (rw [cell_of_row w b _ _ _ _ h]; rfl)
/-- the cells of the i-th property of a list -/
def At13 (w : World) (b o : Nat) (p : Prp) : Prop := w.cell? ⟨b, o, none⟩ = some (.int .i64 p.k.k) ∧ w.cell? ⟨b, o + 1, none⟩ = some (.int .i64 p.k.n) ∧ w.cell? ⟨b, o + 2, none⟩ = some (.string p.k.s) ∧ w.cell? ⟨b, o + 3, none⟩ = some (.int .i64 p.a) ∧
    w.cell? ⟨b, o + 4, none⟩ = some (.int .i64 p.v.k) ∧ w.cell? ⟨b, o + 5, none⟩ = some (.int .i64 p.v.n) ∧ w.cell? ⟨b, o + 6, none⟩ = some (.string p.v.s) ∧ w.cell? ⟨b, o + 7, none⟩ = some (.int .i64 p.g.k) ∧ w.cell? ⟨b, o + 8, none⟩ = some (.int .i64 p.g.n) ∧ w.cell? ⟨b, o + 9, none⟩ = some (.string p.g.s) ∧
    w.cell? ⟨b, o + 10, none⟩ = some (.int .i64 p.t.k) ∧ w.cell? ⟨b, o + 11, none⟩ = some (.int .i64 p.t.n) ∧ w.cell? ⟨b, o + 12, none⟩ = some (.string p.t.s)
theorem IsP.at13 {w : World} {v : Value} {xs : List Prp} (h : IsP w v xs) {i : Nat} {p : Prp} (hi : xs[i]? = some p) : ∃ b off cap, v = .slice (some ⟨b, off, none⟩) xs.length cap ∧ b < w.heap.size ∧ xs.length ≤ maxLen ∧ At13 w b (off + i * 13) p := by
  have hl := (List.getElem?_eq_some_iff.1 hi).1
  obtain ⟨b, off, cap, rfl, hc, hb, hx⟩ := h.at_ (by omega)
  refine ⟨b, off, cap, rfl, hb, h.1, ?_⟩
  have f := fun j u hu => hx i p hi j u hu
  exact ⟨f 0 _ rfl, f 1 _ rfl, f 2 _ rfl, f 3 _ rfl, f 4 _ rfl, f 5 _ rfl, f 6 _ rfl, f 7 _ rfl, f 8 _ rfl, f 9 _ rfl, f 10 _ rfl, f 11 _ rfl, f 12 _ rfl⟩
theorem At13.below {w w' : World} {b o : Nat} {p : Prp} (h : At13 w b o p) (hb : b < w.heap.size) (hw : Below w.heap.size w w') : At13 w' b o p := by
  obtain ⟨h0, h1, h2, h3, h4, h5, h6, h7, h8, h9, h10, h11, h12⟩ := h
  have f := fun j => hw.cell (p := ⟨b, j, none⟩) hb
  exact ⟨(f _).trans h0, (f _).trans h1, (f _).trans h2, (f _).trans h3, (f _).trans h4, (f _).trans h5, (f _).trans h6, (f _).trans h7, (f _).trans h8, (f _).trans h9, (f _).trans h10, (f _).trans h11, (f _).trans h12⟩
end Go.Proofs.Ytippimonpdeioaa
namespace Go.Proofs.Ytippimonpdeioaa
set_option linter.all false
open Go.ChangeShapes Go.WideShapes Go.ChangeAt Go.RowKit Go.Sort Go.Deep Go.Shelf

/-- the first element that satisfies p, or -1 -/
def placeM (p : Prp → Bool) (xs : List Prp) : Int := match xs.findIdx? p with | some i => (i : Int) | none => -1
theorem placeM_at {p : Prp → Bool} {xs : List Prp} {k : Nat} {x : Prp} (h : ∀ y ∈ xs.take k, p y = false) (hx : xs[k]? = some x) (hp : p x = true) : placeM p xs = (k : Int) := by
  have : xs.findIdx? p = some k := by
    rw [List.findIdx?_eq_some_iff_getElem]
    obtain ⟨hk, e⟩ := List.getElem?_eq_some_iff.1 hx
    refine ⟨hk, by rw [e]; exact hp, fun j hj => ?_⟩
    have := h (xs[j]) (by rw [List.mem_take_iff_getElem]; exact ⟨j, by omega, rfl⟩)
    simp [this]
  unfold placeM
  rw [this]
theorem placeM_no {p : Prp → Bool} {xs : List Prp} (h : ∀ y ∈ xs, p y = false) : placeM p xs = -1 := by
  have : xs.findIdx? p = none := by
    rw [List.findIdx?_eq_none_iff]
    intro x hx
    simp [h x hx]
  unfold placeM
  rw [this]
theorem take_all_snoc {p : Prp → Bool} {xs : List Prp} {k : Nat} {x : Prp} (h : ∀ y ∈ xs.take k, p y = false) (hx : xs[k]? = some x) (hp : p x = false) : ∀ y ∈ xs.take (k + 1), p y = false := by
  intro y hy
  rw [List.take_add_one, hx] at hy
  rcases List.mem_append.1 hy with hy | hy
  · exact h y hy
  · simp at hy
    rw [hy]
    exact hp

set_option maxRecDepth 100000 in
set_option maxHeartbeats 8000000 in
theorem place_any (v : Value) (xs : List Prp) (p : Prp → Bool) (g : Nat) (cap : Array Value) (w : World) (hm : xs.length ≤ 3000) (hv : IsP w v xs)
    (eg : ∀ args W, (callFunc g args).run Try.prog W = .ok (.enter g args) W) (hF : ∀ x ∈ xs, ∀ W, Below w.heap.size w W → Calls Try.prog g (#[x.agg] ++ cap) W fun e w' => e = .returned (.bool (p x)) ∧ Below W.heap.size W w') :
    Calls Try.prog 41 #[v, .func (.func g) #[] cap] w fun e w' => e = .returned (.int .i64 (placeM p xs)) ∧ Below w.heap.size w w' := by
  obtain ⟨A, cp, rfl, _, _⟩ := hv.form
  have H := Lib.hid hv
  have HF := Lib.hid hF
  have HM := Lib.hid hm
  clear hv hF hm
  go_enter Try.func41, Try.ntmps41
  go_wp2
  go_loopw [9] (fun i wr => ∃ k : Nat, i = .int .i64 k ∧ Hid (k ≤ xs.length ∧ (∀ y ∈ xs.take k, p y = false) ∧ Below w.heap.size w wr)) (fun i _ => xs.length - (intOf i).toNat)
  case atStart => exact ⟨0, rfl, Lib.hid ⟨Nat.zero_le _, by simp, Below.refl _ _⟩⟩
  case round =>
    obtain ⟨k, rfl, HI⟩ := hrel
    by_cases hlt : k < xs.length
    · have q0 : (k : Int) < (xs.length : Int) := by omega
      have q1 : ¬ (k : Int) < 0 := by omega
      obtain ⟨x, hx⟩ : ∃ x, xs[k]? = some x := ⟨_, List.getElem?_eq_getElem hlt⟩
      obtain ⟨b, off, cap', e1, lb, hmx, h0, h1, h2, h3, h4, h5, h6, h7, h8, h9, h10, h11, h12⟩ := IsP.at13 (H.out.below HI.out.2.2) hx
      clear hmx
      simp only [Value.slice.injEq] at e1
      obtain ⟨rfl, _, rfl⟩ := e1
      have CF := Lib.hid (callGr (HF.out x (List.mem_of_getElem? hx) (wr.alloc (prpO x)) (bl_al HI.out.2.2 _)))
      have HX := Lib.hid hx
      have LT := Lib.hid hlt
      clear hx hlt
      obtain ⟨kp, hkp, ek1⟩ : ∃ kp : Nat, kp = k + 1 ∧ wrap64 ((k : Int) + 1) = (kp : Int) := ⟨k + 1, rfl, w64 rfl (by have := LT.out; have := HM.out; omega)⟩
      have KP := Lib.hid hkp
      clear hkp
      cases hp : p x
      · have CF2 := Lib.hid (by have := CF.out; rw [hp] at this; exact this : Calls Try.prog g (#[x.agg] ++ cap) (wr.alloc (prpO x)) fun e w' => ∃ q : Regrown, e = .returned (.bool false) ∧ w' = gr (wr.alloc (prpO x)) q)
        have NX := Lib.hid (take_all_snoc HI.out.2.1 HX.out hp)
        clear CF hp
        go_wp2_with (go_at_fn g; refine CF2.out.mono ?_; rintro e w' ⟨pp, rfl, rfl⟩)
        go_roundw
        case rel => exact ⟨kp, by first | with_reducible rfl | rw [ek1], Lib.hid ⟨by rw [KP.out]; exact LT.out, by rw [KP.out]; exact NX.out, bl_gr (bl_al HI.out.2.2 _) _⟩⟩
        case measure => ((try rw [ek1]); have h1 := KP.out; have h2 := LT.out; clear ek1; simp only [intOf, Int.toNat_natCast]; omega)
      · have CF2 := Lib.hid (by have := CF.out; rw [hp] at this; exact this : Calls Try.prog g (#[x.agg] ++ cap) (wr.alloc (prpO x)) fun e w' => ∃ q : Regrown, e = .returned (.bool true) ∧ w' = gr (wr.alloc (prpO x)) q)
        have RS := Lib.hid (placeM_at HI.out.2.1 HX.out hp)
        clear CF hp
        go_wp2_with (go_at_fn g; refine CF2.out.mono ?_; rintro e w' ⟨pp, rfl, rfl⟩)
        go_ret
        exact ⟨ret_int RS.out.symm, bl_gr (bl_al HI.out.2.2 _) _⟩
    · have q0 : ¬ (k : Int) < (xs.length : Int) := by omega
      have RS := Lib.hid (show placeM p xs = -1 from placeM_no (by have h := HI.out.2.1; rwa [List.take_of_length_le (by omega)] at h))
      clear hlt
      go_wp2
      go_ret
      exact ⟨ret_int RS.out.symm, HI.out.2.2⟩
end Go.Proofs.Ytippimonpdeioaa
namespace Go.Proofs.Ytippimonpdeioaa
set_option linter.all false
open Go.ChangeShapes Go.WideShapes Go.ChangeAt Go.RowKit Go.Sort Go.Deep Go.Shelf

def keyIs (k : Val) (p : Prp) : Bool := p.k.eq k
def findM (xs : List Prp) (k : Val) : Int := placeM (keyIs k) xs
set_option maxRecDepth 100000 in
set_option maxHeartbeats 4000000 in
theorem findF_any (x : Prp) (k : Val) (B : Nat) (W : World) (hB : W.heap[B]? = some (keyO k)) : Calls Try.prog 42 #[x.agg, .pointer (some ⟨B, 0, none⟩)] W fun e w' => e = .returned (.bool (keyIs k x)) ∧ Below W.heap.size W w' := by
  have lb := (Array.getElem?_eq_some_iff.1 hB).1
  have lbn : ∀ u, B < W.heap.size + u := fun u => Nat.lt_of_lt_of_le lb (Nat.le_add_right _ _)
  obtain ⟨⟨c0, c1, c2⟩, _⟩ := cells3k hB
  clear hB
  go_enter Try.func42, Try.ntmps42
  go_wp2
  go_ret
  exact ⟨rfl, by (repeat (with_reducible first | exact Below.refl _ _ | (refine bl_set ?_ (by first | omega | (simp; done) | (simp; omega)) _) | refine bl_gr ?_ _ | refine bl_al ?_ _ | refine below_setRow ?_ (by first | omega | (simp; done) | (simp; omega)) _ | refine bl_drewN ?_ _ | refine Below.drew ?_ | (refine bl_tr ?_ (by assumption))))⟩
set_option maxRecDepth 100000 in
set_option maxHeartbeats 4000000 in
theorem find_any (v : Value) (xs : List Prp) (k : Val) (hm : xs.length ≤ 3000) (w : World) (hv : IsP w v xs) : Calls Try.prog 18 #[v, k.agg] w fun e w' => e = .returned (.int .i64 (findM xs k)) ∧ Below w.heap.size w w' := by
  have PL := Lib.hid (callGr (place_any v xs (keyIs k) 42 #[.pointer (some ⟨w.heap.size, 0, none⟩)] (w.alloc (keyO k)) hm (hv.below (bl_al (Below.refl _ _) _)) (fun args W => by go_simp) (fun x _ W hW => findF_any x k w.heap.size W ((hW.block _ (by simp)).trans (heap_alloc_new _ _)))))
  clear hm hv
  go_enter Try.func18, Try.ntmps18
  go_wp2_with (go_at_call 41; refine PL.out.mono ?_; rintro e w' ⟨pp, rfl, rfl⟩)
  go_ret
  exact ⟨rfl, by (repeat (with_reducible first | exact Below.refl _ _ | (refine bl_set ?_ (by first | omega | (simp; done) | (simp; omega)) _) | refine bl_gr ?_ _ | refine bl_al ?_ _ | refine below_setRow ?_ (by first | omega | (simp; done) | (simp; omega)) _ | refine bl_drewN ?_ _ | refine Below.drew ?_ | (refine bl_tr ?_ (by assumption))))⟩
end Go.Proofs.Ytippimonpdeioaa
namespace Go.Proofs.Ytippimonpdeioaa
set_option linter.all false
open Go.ChangeShapes Go.WideShapes Go.ChangeAt Go.RowKit Go.Sort Go.Deep Go.Shelf

theorem meas_n3 {lb k p : Nat} (h : p = k + 1) (hl : k < lb) : lb - ((p : Int)).toNat < lb - ((k : Int)).toNat := by
  simp only [Int.toNat_natCast]
  omega
set_option maxRecDepth 100000 in
set_option maxHeartbeats 8000000 in
theorem rfind_any (v : Value) (xs : List Prp) (k : Val) (hm : xs.length ≤ 3000) (w : World) (hv : IsP w v xs) : Calls Try.prog 27 #[v, k.agg] w fun e w' => e = .returned (.int .i64 (findM xs k)) ∧ Below w.heap.size w w' := by
  obtain ⟨A, cp, rfl, _, _⟩ := hv.form
  have H := Lib.hid hv
  have HM := Lib.hid hm
  clear hv hm
  go_enter Try.func27, Try.ntmps27
  go_wp2
  go_loopw [5] (fun i wr => ∃ j : Nat, i = .int .i64 j ∧ Hid (j ≤ xs.length ∧ (∀ y ∈ xs.take j, keyIs k y = false) ∧ wr.heap[w.heap.size]? = some (keyO k) ∧ Below w.heap.size w wr)) (fun i _ => xs.length - (intOf i).toNat)
  case atStart => exact ⟨0, rfl, Lib.hid ⟨Nat.zero_le _, by simp, heap_alloc_new _ _, by (repeat (with_reducible first | exact Below.refl _ _ | (refine bl_set ?_ (by first | omega | (simp; done) | (simp; omega)) _) | refine bl_gr ?_ _ | refine bl_al ?_ _ | refine below_setRow ?_ (by first | omega | (simp; done) | (simp; omega)) _ | refine bl_drewN ?_ _ | refine Below.drew ?_ | (refine bl_tr ?_ (by assumption))))⟩⟩
  case round =>
    obtain ⟨j, rfl, HI⟩ := hrel
    by_cases hlt : j < xs.length
    · have q0 : (j : Int) < (xs.length : Int) := by omega
      have q1 : ¬ (j : Int) < 0 := by omega
      obtain ⟨x, hx⟩ : ∃ x, xs[j]? = some x := ⟨_, List.getElem?_eq_getElem hlt⟩
      obtain ⟨b, off, cap', e1, lb, hmx, h0, h1, h2, -⟩ := IsP.at13 (H.out.below HI.out.2.2.2) hx
      clear hmx
      simp only [Value.slice.injEq] at e1
      obtain ⟨rfl, _, rfl⟩ := e1
      obtain ⟨⟨c0, c1, c2⟩, _⟩ := cells3k HI.out.2.2.1
      obtain ⟨jp, hjp, ek1⟩ : ∃ jp : Nat, jp = j + 1 ∧ wrap64 ((j : Int) + 1) = (jp : Int) := ⟨j + 1, rfl, w64 rfl (by have := HM.out; omega)⟩
      have HX := Lib.hid hx
      have KP := Lib.hid (And.intro hjp hlt)
      clear hx hlt hjp
      have LH := Lib.hid (HI.out.2.2.1)
      cases hp : (Val.mk x.k.k x.k.n x.k.s).eq ⟨k.k, k.n, k.s⟩
      · have NX := Lib.hid (take_all_snoc HI.out.2.1 HX.out hp)
        go_upto_region 4 with fail
        (refine wp_region_held_drew (S := (fun Z : World => Z.cell? ⟨b, off + j * 13, none⟩ = some (.int .i64 x.k.k) ∧ Z.cell? ⟨b, off + j * 13 + 1, none⟩ = some (.int .i64 x.k.n) ∧ Z.cell? ⟨b, off + j * 13 + 2, none⟩ = some (.string x.k.s) ∧ Z.cell? ⟨w.heap.size, 0, none⟩ = some (.int .i64 k.k) ∧ Z.cell? ⟨w.heap.size, 1, none⟩ = some (.int .i64 k.n) ∧ Z.cell? ⟨w.heap.size, 2, none⟩ = some (.string k.s))) Try.mixed (by (and_intros <;> go_simp)) (fun hS => ?_); (refine wpAnyH_take (i := 0) (v := ?_) rfl (by kernel_rfl) (by kernel_rfl) (by kernel_rfl) (fun _ _ _ h => h) ?_ (by assumption) ?_; rotate_left; (next => (refine Or.inl ⟨by kernel_rfl, ?_⟩; ((intro w hSw; (try dsimp only at hSw); go_simp) <;> with_reducible rfl))); (try simp only [Act.put, List.setIfInBounds_toArray, List.set_cons_zero, List.set_cons_succ])); (refine wpAnyH_take (i := 1) (v := ?_) rfl (by kernel_rfl) (by kernel_rfl) (by kernel_rfl) (fun _ _ _ h => h) ?_ (by assumption) ?_; rotate_left; (next => (refine Or.inl ⟨by kernel_rfl, ?_⟩; ((intro w hSw; (try dsimp only at hSw); go_simp) <;> with_reducible rfl))); (try simp only [Act.put, List.setIfInBounds_toArray, List.set_cons_zero, List.set_cons_succ])); (refine wpAnyH_take (i := 2) (v := ?_) rfl (by kernel_rfl) (by kernel_rfl) (by kernel_rfl) (fun _ _ _ h => h) ?_ (by assumption) ?_; rotate_left; (next => (refine Or.inl ⟨by kernel_rfl, ?_⟩; ((intro w hSw; (try dsimp only at hSw); go_simp) <;> with_reducible rfl))); (try simp only [Act.put, List.setIfInBounds_toArray, List.set_cons_zero, List.set_cons_succ])); (refine wpAnyH_take (i := 3) (v := ?_) rfl (by kernel_rfl) (by kernel_rfl) (by kernel_rfl) (fun _ _ _ h => h) ?_ (by assumption) ?_; rotate_left; (next => (refine Or.inl ⟨by kernel_rfl, ?_⟩; ((intro w hSw; (try dsimp only at hSw); go_simp) <;> with_reducible rfl))); (try simp only [Act.put, List.setIfInBounds_toArray, List.set_cons_zero, List.set_cons_succ])); (refine wpAnyH_take (i := 4) (v := ?_) rfl (by kernel_rfl) (by kernel_rfl) (by kernel_rfl) (fun _ _ _ h => h) ?_ (by assumption) ?_; rotate_left; (next => (refine Or.inl ⟨by kernel_rfl, ?_⟩; ((intro w hSw; (try dsimp only at hSw); obtain ⟨s0, s1, s2, s3, s4, s5⟩ := hSw; go_simp) <;> with_reducible rfl))); (try simp only [Act.put, List.setIfInBounds_toArray, List.set_cons_zero, List.set_cons_succ])); (refine wpAnyH_take (i := 5) (v := ?_) rfl (by kernel_rfl) (by kernel_rfl) (by kernel_rfl) (fun _ _ _ h => h) ?_ (by assumption) ?_; rotate_left; (next => (refine Or.inl ⟨by kernel_rfl, ?_⟩; ((intro w hSw; (try dsimp only at hSw); obtain ⟨s0, s1, s2, s3, s4, s5⟩ := hSw; go_simp) <;> with_reducible rfl))); (try simp only [Act.put, List.setIfInBounds_toArray, List.set_cons_zero, List.set_cons_succ])); refine wpAnyH_ready (rs := [6]) (by kernel_rfl) (by simp) ?_; refine AllReadyH.cons rfl (fun K hK => ?_) AllReadyH.nil; go_simp; refine hK.out _ _ (by (and_intros <;> go_simp)) (fun hS => ?_); clear hK K; (try simp only [Act.put, List.setIfInBounds_toArray, List.set_cons_zero, List.set_cons_succ]); refine wpAnyH_done (by kernel_rfl) ?_ _)
        go_simp
        go_wp2
        go_roundw
        case rel => exact ⟨jp, by first | with_reducible rfl | rw [ek1], Lib.hid ⟨by rw [KP.out.1]; exact KP.out.2, by rw [KP.out.1]; exact NX.out, LH.out, HI.out.2.2.2.drew⟩⟩
        case measure => ((try rw [ek1]); exact meas_n3 KP.out.1 KP.out.2)
      · have RS := Lib.hid (show findM xs k = (j : Int) from placeM_at HI.out.2.1 HX.out hp)
        go_upto_region 4 with fail
        (refine wp_region_held_drew (S := (fun Z : World => Z.cell? ⟨b, off + j * 13, none⟩ = some (.int .i64 x.k.k) ∧ Z.cell? ⟨b, off + j * 13 + 1, none⟩ = some (.int .i64 x.k.n) ∧ Z.cell? ⟨b, off + j * 13 + 2, none⟩ = some (.string x.k.s) ∧ Z.cell? ⟨w.heap.size, 0, none⟩ = some (.int .i64 k.k) ∧ Z.cell? ⟨w.heap.size, 1, none⟩ = some (.int .i64 k.n) ∧ Z.cell? ⟨w.heap.size, 2, none⟩ = some (.string k.s))) Try.mixed (by (and_intros <;> go_simp)) (fun hS => ?_); (refine wpAnyH_take (i := 0) (v := ?_) rfl (by kernel_rfl) (by kernel_rfl) (by kernel_rfl) (fun _ _ _ h => h) ?_ (by assumption) ?_; rotate_left; (next => (refine Or.inl ⟨by kernel_rfl, ?_⟩; ((intro w hSw; (try dsimp only at hSw); go_simp) <;> with_reducible rfl))); (try simp only [Act.put, List.setIfInBounds_toArray, List.set_cons_zero, List.set_cons_succ])); (refine wpAnyH_take (i := 1) (v := ?_) rfl (by kernel_rfl) (by kernel_rfl) (by kernel_rfl) (fun _ _ _ h => h) ?_ (by assumption) ?_; rotate_left; (next => (refine Or.inl ⟨by kernel_rfl, ?_⟩; ((intro w hSw; (try dsimp only at hSw); go_simp) <;> with_reducible rfl))); (try simp only [Act.put, List.setIfInBounds_toArray, List.set_cons_zero, List.set_cons_succ])); (refine wpAnyH_take (i := 2) (v := ?_) rfl (by kernel_rfl) (by kernel_rfl) (by kernel_rfl) (fun _ _ _ h => h) ?_ (by assumption) ?_; rotate_left; (next => (refine Or.inl ⟨by kernel_rfl, ?_⟩; ((intro w hSw; (try dsimp only at hSw); go_simp) <;> with_reducible rfl))); (try simp only [Act.put, List.setIfInBounds_toArray, List.set_cons_zero, List.set_cons_succ])); (refine wpAnyH_take (i := 3) (v := ?_) rfl (by kernel_rfl) (by kernel_rfl) (by kernel_rfl) (fun _ _ _ h => h) ?_ (by assumption) ?_; rotate_left; (next => (refine Or.inl ⟨by kernel_rfl, ?_⟩; ((intro w hSw; (try dsimp only at hSw); go_simp) <;> with_reducible rfl))); (try simp only [Act.put, List.setIfInBounds_toArray, List.set_cons_zero, List.set_cons_succ])); (refine wpAnyH_take (i := 4) (v := ?_) rfl (by kernel_rfl) (by kernel_rfl) (by kernel_rfl) (fun _ _ _ h => h) ?_ (by assumption) ?_; rotate_left; (next => (refine Or.inl ⟨by kernel_rfl, ?_⟩; ((intro w hSw; (try dsimp only at hSw); obtain ⟨s0, s1, s2, s3, s4, s5⟩ := hSw; go_simp) <;> with_reducible rfl))); (try simp only [Act.put, List.setIfInBounds_toArray, List.set_cons_zero, List.set_cons_succ])); (refine wpAnyH_take (i := 5) (v := ?_) rfl (by kernel_rfl) (by kernel_rfl) (by kernel_rfl) (fun _ _ _ h => h) ?_ (by assumption) ?_; rotate_left; (next => (refine Or.inl ⟨by kernel_rfl, ?_⟩; ((intro w hSw; (try dsimp only at hSw); obtain ⟨s0, s1, s2, s3, s4, s5⟩ := hSw; go_simp) <;> with_reducible rfl))); (try simp only [Act.put, List.setIfInBounds_toArray, List.set_cons_zero, List.set_cons_succ])); refine wpAnyH_ready (rs := [6]) (by kernel_rfl) (by simp) ?_; refine AllReadyH.cons rfl (fun K hK => ?_) AllReadyH.nil; go_simp; refine hK.out _ _ (by (and_intros <;> go_simp)) (fun hS => ?_); clear hK K; (try simp only [Act.put, List.setIfInBounds_toArray, List.set_cons_zero, List.set_cons_succ]); refine wpAnyH_done (by kernel_rfl) ?_ _)
        go_simp
        go_wp2
        go_ret
        exact ⟨ret_int RS.out.symm, HI.out.2.2.2.drew⟩
    · have q0 : ¬ (j : Int) < (xs.length : Int) := by omega
      have RS := Lib.hid (show findM xs k = -1 from placeM_no (by have h := HI.out.2.1; rwa [List.take_of_length_le (by omega)] at h))
      clear hlt
      go_wp2
      go_ret
      exact ⟨ret_int RS.out.symm, HI.out.2.2.2⟩
end Go.Proofs.Ytippimonpdeioaa
namespace Go.Proofs.Ytippimonpdeioaa
set_option linter.all false
open Go.ChangeShapes Go.WideShapes Go.ChangeAt Go.RowKit Go.Sort Go.Deep

abbrev zprp : Array Value := #[.int .i64 0, .int .i64 0, .string ⟨#[]⟩, .int .i64 0, .int .i64 0, .int .i64 0, .string ⟨#[]⟩, .int .i64 0, .int .i64 0, .string ⟨#[]⟩, .int .i64 0, .int .i64 0, .string ⟨#[]⟩]
theorem elem_prp : ElemOf Prp Prp.cs 22 42 13 136 (.agg zprp) where
  len _ := rfl
  one x u hu := by
    simp only [Prp.cs, List.mem_cons, List.not_mem_nil, or_false] at hu
    rcases hu with rfl | rfl | rfl | rfl | rfl | rfl | rfl | rfl | rfl | rfl | rfl | rfl | rfl <;> rfl
  sl := Try.underlying22
  info := info_partsE (by kernel_rfl)
  zs := rfl
  pos := by decide
  bpos := by decide
theorem make_prps (n m : Nat) (hn : n ≤ m) (hm : m ≤ 100000) (w : World) : (Instr.makeSlice 22 (.int .i64 (n : Int)) (.int .i64 (m : Int))).run Try.prog w = .ok (.slice (some ⟨w.heap.size, 0, none⟩) n m) (w.alloc (.cells (madeCells zprp (m * 13)) 42)) := by
  obtain ⟨i, hi, hz, hs, hb⟩ := elem_prp.info
  have := run_make (P := Try.prog) w 22 42 i _ Try.underlying22 hi hz .i64 .i64 n m (by omega) (by omega) (by rw [hb]; omega) (by omega)
  simpa [hs, Value.cells] using this
theorem one_pcs {xs : List Prp} : ∀ u ∈ flat Prp.cs xs, u.oneCell' = true := by
  intro u hu
  obtain ⟨x, _, h⟩ := List.mem_flatMap.1 hu
  exact elem_prp.one x u h
theorem run_copyP {w : World} {ty : TypeId} {g : Nat} {sv : Value} {xs : List Prp} (cap : Nat) (hsv : IsP w sv xs) {cur : Array Value} {t : TypeId} (hg : w.heap[g]? = some (.cells cur t (0, 0))) (hc : xs.length * 13 ≤ cur.size) :
    (Builtin.copy_ #[22, 22] ty #[.slice (some ⟨g, 0, none⟩) xs.length cap, sv]).run Try.prog w = .ok (goInt xs.length) (w.setRow g (flat Prp.cs xs ++ cur.toList.drop (xs.length * 13)).toArray) := by
  have hsz : (Try.prog.info? 42).map (·.size) = some 13 := by kernel_rfl
  by_cases h0 : xs.length = 0
  · obtain rfl : xs = [] := List.eq_nil_of_length_eq_zero h0
    obtain ⟨A, c, rfl, _⟩ := hsv.form
    have e : w.setRow g (flat Prp.cs [] ++ cur.toList.drop (([] : List Prp).length * 13)).toArray = w := by
      simp only [flat, List.flatMap_nil, List.length_nil, Nat.zero_mul, List.drop_zero, List.nil_append, Array.toArray_toList]
      exact setRow_self w g cur t _ hg
    rw [e]
    cases hq : Try.prog.info? 42 with
    | none => simp [hq] at hsz
    | some i => cases A <;> simp [Builtin.copy_, run_underlying Try.underlying22, Builtin.lenOf, sizeOf, typeInfo, hq, Builtin.firstCells, loadCells, loadCellsFrom, storeCells]
  · obtain ⟨a, c, rfl, hsrc⟩ := hsv.src prp_len (by omega)
    have hl := flat_len prp_len xs
    have := run_copyN w 22 22 ty 42 13 g xs.length cap a xs.length c cur t (flat Prp.cs xs) Try.underlying22 hsz hg (by rw [hl, show Nat.min xs.length xs.length = xs.length from Nat.min_self _]) hsrc (by rw [hl]; exact hc) one_pcs
    rw [show Nat.min xs.length xs.length = xs.length from Nat.min_self _, hl] at this
    exact this

set_option maxRecDepth 100000 in
set_option maxHeartbeats 4000000 in
theorem copied_any (v : Value) (xs : List Prp) (hm : xs.length ≤ 3000) (w : World) (hv : IsP w v xs) : Calls Try.prog 32 #[v] w fun e w' => ∃ (g cap : Nat), e = .returned (.slice (some ⟨g, 0, none⟩) xs.length cap) ∧ OwnP w' w.heap.size (.slice (some ⟨g, 0, none⟩) xs.length cap) xs ∧ cap = xs.length + 1 ∧ Below w.heap.size w w' := by
  obtain ⟨A, cp, rfl, _, _⟩ := hv.form
  obtain ⟨n, hn⟩ : ∃ n, n = xs.length := ⟨_, rfl⟩
  obtain ⟨m, hmn⟩ : ∃ m, m = n + 1 := ⟨_, rfl⟩
  have e1 : IntKind.i64.wrap ((n : Int) + 1) = (m : Int) := by rw [IntKind.wrap_i64]; omega
  have e2 : wrap64 ((n : Int) + 1) = (m : Int) := w64 (by omega) (by omega)
  have MK := make_prps n m (by omega) (by omega) w
  have hs : (madeCells zprp (m * 13)).size = m * 13 := by simp [madeCells]
  have CP := fun ty => run_copyP (ty := ty) m (hv.below (bl_al (Below.refl _ _) (.cells (madeCells zprp (m * 13)) 42))) (heap_alloc_new w _) (by rw [hs]; omega)
  have OW := Lib.hid (show OwnP ((w.alloc (.cells (madeCells zprp (m * 13)) 42)).setRow w.heap.size (flat Prp.cs xs ++ (madeCells zprp (m * 13)).toList.drop (xs.length * 13)).toArray) w.heap.size (.slice (some ⟨w.heap.size, 0, none⟩) n m) xs from by
    have hl := flat_len prp_len xs
    rw [hn]
    refine ⟨hl, .inr ⟨w.heap.size, m, _, rfl, Nat.le_refl _, setRow_heap _ _ _ _ _ _ (heap_alloc_new _ _), by omega, by unfold maxLen; omega, ?_, ?_⟩⟩
    · simp [hl]
      omega
    · simp [← hl])
  obtain ⟨F, hF⟩ : ∃ F, F = (flat Prp.cs xs ++ (madeCells zprp (m * 13)).toList.drop (xs.length * 13)).toArray := ⟨_, rfl⟩
  rw [← hF] at OW
  simp only [← hF] at CP
  clear hF
  rw [← hn] at CP ⊢
  have MN := Lib.hid (And.intro hmn hn)
  clear hv hm hmn hs hn
  go_enter Try.func32, Try.ntmps32
  go_wp2
  go_ret
  refine ⟨_, m, rfl, ?_, ?_, ?_⟩
  · exact OW.out
  · rw [MN.out.1, MN.out.2]
  · (repeat (with_reducible first | exact Below.refl _ _ | (refine bl_set ?_ (by first | omega | (simp; done) | (simp; omega)) _) | refine bl_gr ?_ _ | refine bl_al ?_ _ | refine below_setRow ?_ (by first | omega | (simp; done) | (simp; omega)) _ | refine bl_drewN ?_ _ | refine Below.drew ?_ | (refine bl_tr ?_ (by assumption))))
end Go.Proofs.Ytippimonpdeioaa
