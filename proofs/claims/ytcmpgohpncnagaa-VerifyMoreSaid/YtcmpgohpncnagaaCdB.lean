/- Lists of a code object: IndexFunc, ContainsFunc, every, at four element types (printed by gen51B.py). -/
import Derived.Test.YtcmpgohpncnagaaCdA
import Derived.Shelf.Abstract
namespace Go.Proofs.Ytcmpgohpncnagaa
set_option linter.all false
open Go.ChangeShapes Go.WideShapes Go.ChangeAt Go.RowKit Go.Sort Go.Deep Go.Shelf

theorem wpc_world {P : Program} {c : Code} {Q : Exit → Act → World → Prop} {a : Act} {w : World} (C : World → Prop) (hC : C w) (h : ∀ w', C w' → c.wp P Q a w') : c.wp P Q a w := h w hC
theorem w64c {n : Int} {k : Nat} (h : n = k) (hk : k ≤ 9223372036854775807) : wrap64 n = (k : Int) := by
  unfold wrap64
  omega
theorem meas_c {lb k p : Nat} (h : p = k + 1) (hl : k < lb) : lb - ((p : Int)).toNat < lb - ((k : Int)).toNat := by
  simp only [Int.toNat_natCast]
  omega
/-- the first element that satisfies p, or -1 -/
def idxM {α : Type} (p : α → Bool) (xs : List α) : Int := match xs.findIdx? p with | some i => (i : Int) | none => -1
section
variable {α : Type} {p : α → Bool} {xs : List α}
theorem idxM_at {k : Nat} {x : α} (h : ∀ y ∈ xs.take k, p y = false) (hx : xs[k]? = some x) (hp : p x = true) : idxM p xs = (k : Int) := by
  have : xs.findIdx? p = some k := by
    rw [List.findIdx?_eq_some_iff_getElem]
    obtain ⟨hk, e⟩ := List.getElem?_eq_some_iff.1 hx
    refine ⟨hk, by rw [e]; exact hp, fun j hj => ?_⟩
    have := h (xs[j]) (by rw [List.mem_take_iff_getElem]; exact ⟨j, by omega, rfl⟩)
    simp [this]
  unfold idxM
  rw [this]
theorem idxM_no (h : ∀ y ∈ xs, p y = false) : idxM p xs = -1 := by
  have : xs.findIdx? p = none := by
    rw [List.findIdx?_eq_none_iff]
    intro x hx
    simp [h x hx]
  unfold idxM
  rw [this]
theorem idx_snoc {k : Nat} {x : α} (h : ∀ y ∈ xs.take k, p y = false) (hx : xs[k]? = some x) (hp : p x = false) : ∀ y ∈ xs.take (k + 1), p y = false := by
  intro y hy
  rw [List.take_add_one, hx] at hy
  rcases List.mem_append.1 hy with hy | hy
  · exact h y hy
  · simp at hy
    rw [hy]
    exact hp
theorem idxM_any : decide (0 ≤ idxM p xs) = xs.any p := by
  unfold idxM
  cases h : xs.findIdx? p with
  | none =>
    rw [List.findIdx?_eq_none_iff] at h
    show decide ((0 : Int) ≤ -1) = _
    rw [Eq.comm, decide_eq_false (by omega), List.any_eq_false]
    intro x hx
    simp [h x hx]
  | some i =>
    rw [List.findIdx?_eq_some_iff_getElem] at h
    obtain ⟨hi, h1, _⟩ := h
    show decide ((0 : Int) ≤ (i : Int)) = _
    rw [decide_eq_true (by omega), Eq.comm, List.any_eq_true]
    exact ⟨_, List.getElem_mem hi, h1⟩
end

/-! ### api.Value -/
def AtVl (w : World) (b o : Nat) (x : Val) : Prop := w.cell? ⟨b, o, none⟩ = some (.int .i64 x.k) ∧ w.cell? ⟨b, o + 1, none⟩ = some (.int .i64 x.n) ∧ w.cell? ⟨b, o + 2, none⟩ = some (.string x.s)
theorem at_Vl {w : World} {v : Value} {xs : List Val} (h : SlOf w 3 Val.cs v xs) {i : Nat} {x : Val} (hi : xs[i]? = some x) : ∃ b off cap, v = .slice (some ⟨b, off, none⟩) xs.length cap ∧ b < w.heap.size ∧ AtVl w b (off + i * 3) x := by
  have hl := (List.getElem?_eq_some_iff.1 hi).1
  obtain ⟨b, off, cap, rfl, hc, hb, hx⟩ := h.at_ (by omega)
  refine ⟨b, off, cap, rfl, hb, ?_⟩
  have f := fun j u hu => hx i x hi j u hu
  exact ⟨f 0 _ rfl, f 1 _ rfl, f 2 _ rfl⟩
theorem AtVl.below {w w' : World} {b o : Nat} {x : Val} (h : AtVl w b o x) (hb : b < w.heap.size) (hw : Below w.heap.size w w') : AtVl w' b o x := by
  obtain ⟨h0, h1, h2⟩ := h
  have f := fun j => hw.cell (p := ⟨b, j, none⟩) hb
  exact ⟨(f _).trans h0, (f _).trans h1, (f _).trans h2⟩
abbrev VlO (x : Val) : Obj := .cells #[.int .i64 x.k, .int .i64 x.n, .string x.s] 51
theorem cells_Vl {w : World} {b : Nat} {x : Val} (h : w.heap[b]? = some (VlO x)) : AtVl w b 0 x ∧ ∀ j, w.frozen? ⟨b, j, none⟩ = false := by
  refine ⟨?_, fun j => frozen_of_row w b j _ _ h⟩
  unfold AtVl
  and_intros <;> (rw [cell_of_row w b _ _ _ _ h]; rfl)
set_option maxRecDepth 100000 in
set_option maxHeartbeats 8000000 in
theorem index_Vl (v : Value) (xs : List Val) (p : Val → Bool) (g : Nat) (cap : Array Value) (w : World) (hv : SlOf w 3 Val.cs v xs)
    (eg : ∀ args W, (callFunc g args).run Try.prog W = .ok (.enter g args) W) (hF : ∀ x ∈ xs, ∀ W, Below w.heap.size w W → Calls Try.prog g (#[x.agg] ++ cap) W fun e w' => e = .returned (.bool (p x)) ∧ Below W.heap.size W w') :
    Calls Try.prog 76 #[v, .func (.func g) #[] cap] w fun e w' => e = .returned (.int .i64 (idxM p xs)) ∧ Below w.heap.size w w' := by
  obtain ⟨A, cp, rfl, _, hm⟩ := hv.form
  have H := Lib.hid hv
  have HF := Lib.hid hF
  have HM := Lib.hid hm
  clear hv hF hm
  go_enter Try.func76, Try.ntmps76
  go_wp2
  go_loopw [8] (fun i wr => ∃ k : Nat, i = .int .i64 k ∧ Hid (k ≤ xs.length ∧ (∀ y ∈ xs.take k, p y = false) ∧ Below w.heap.size w wr)) (fun i _ => xs.length - (intOf i).toNat)
  case atStart => exact ⟨0, rfl, Lib.hid ⟨Nat.zero_le _, by simp, Below.refl _ _⟩⟩
  case round =>
    obtain ⟨k, rfl, HI⟩ := hrel
    by_cases hlt : k < xs.length
    · have q0 : (k : Int) < (xs.length : Int) := by omega
      have q1 : ¬ (k : Int) < 0 := by omega
      obtain ⟨x, hx⟩ : ∃ x, xs[k]? = some x := ⟨_, List.getElem?_eq_getElem hlt⟩
      obtain ⟨b, off, cap', e1, lb, h0, h1, h2⟩ := at_Vl (H.out.below HI.out.2.2) hx
      simp only [Value.slice.injEq] at e1
      obtain ⟨rfl, _, rfl⟩ := e1
      have CF := Lib.hid (callGr (HF.out x (List.mem_of_getElem? hx) wr HI.out.2.2))
      have HX := Lib.hid hx
      have LT := Lib.hid hlt
      clear hx hlt
      obtain ⟨kp, hkp, ek1⟩ : ∃ kp : Nat, kp = k + 1 ∧ wrap64 ((k : Int) + 1) = (kp : Int) := ⟨k + 1, rfl, w64c rfl (by have := LT.out; have := HM.out; unfold maxLen at this; omega)⟩
      have KP := Lib.hid hkp
      clear hkp
      cases hp : p x
      · have CF2 := Lib.hid (by have := CF.out; rw [hp] at this; exact this : Calls Try.prog g (#[x.agg] ++ cap) wr fun e w' => ∃ q : Regrown, e = .returned (.bool false) ∧ w' = gr wr q)
        have NX := Lib.hid (idx_snoc HI.out.2.1 HX.out hp)
        clear CF hp
        go_wp2_with (go_at_fn g; refine CF2.out.mono ?_; rintro e w' ⟨pp, rfl, rfl⟩)
        go_roundw
        case rel => exact ⟨kp, by first | with_reducible rfl | rw [ek1], Lib.hid ⟨by rw [KP.out]; exact LT.out, by rw [KP.out]; exact NX.out, bl_gr HI.out.2.2 _⟩⟩
        case measure => ((try rw [ek1]); exact meas_c KP.out LT.out)
      · have CF2 := Lib.hid (by have := CF.out; rw [hp] at this; exact this : Calls Try.prog g (#[x.agg] ++ cap) wr fun e w' => ∃ q : Regrown, e = .returned (.bool true) ∧ w' = gr wr q)
        have RS := Lib.hid (idxM_at HI.out.2.1 HX.out hp)
        clear CF hp
        go_wp2_with (go_at_fn g; refine CF2.out.mono ?_; rintro e w' ⟨pp, rfl, rfl⟩)
        go_ret
        exact ⟨ret_int RS.out.symm, bl_gr HI.out.2.2 _⟩
    · have q0 : ¬ (k : Int) < (xs.length : Int) := by omega
      have RS := Lib.hid (show idxM p xs = -1 from idxM_no (by have h := HI.out.2.1; rwa [List.take_of_length_le (by omega)] at h))
      clear hlt
      go_wp2
      go_ret
      exact ⟨ret_int RS.out.symm, HI.out.2.2⟩
set_option maxRecDepth 100000 in
set_option maxHeartbeats 8000000 in
theorem contains_Vl (v : Value) (xs : List Val) (p : Val → Bool) (g : Nat) (cap : Array Value) (w : World) (hv : SlOf w 3 Val.cs v xs)
    (eg : ∀ args W, (callFunc g args).run Try.prog W = .ok (.enter g args) W) (hF : ∀ x ∈ xs, ∀ W, Below w.heap.size w W → Calls Try.prog g (#[x.agg] ++ cap) W fun e w' => e = .returned (.bool (p x)) ∧ Below W.heap.size W w') :
    Calls Try.prog 59 #[v, .func (.func g) #[] cap] w fun e w' => e = .returned (.bool (xs.any p)) ∧ Below w.heap.size w w' := by
  have IX := Lib.hid (callGr (index_Vl v xs p g cap w hv eg hF))
  have RS := Lib.hid (idxM_any (p := p) (xs := xs))
  clear hv hF eg
  go_enter Try.func59, Try.ntmps59
  go_wp2_with (go_at_call 76; refine IX.out.mono ?_; rintro e w' ⟨pp, rfl, rfl⟩)
  go_ret
  exact ⟨ret_bool RS.out, by (repeat (with_reducible first | exact Below.refl _ _ | (refine bl_set ?_ (by first | omega | (simp; done) | (simp; omega)) _) | refine bl_gr ?_ _ | refine bl_al ?_ _ | refine below_setRow ?_ (by first | omega | (simp; done) | (simp; omega)) _ | refine bl_drewN ?_ _ | refine Below.drew ?_ | (refine bl_tr ?_ (by assumption))))⟩
set_option maxRecDepth 100000 in
set_option maxHeartbeats 8000000 in
theorem not_Vl (x : Val) (b : Bool) (g0 : Nat) (cap0 : Array Value) (B : Nat) (W : World) (eg : ∀ args W, (callFunc g0 args).run Try.prog W = .ok (.enter g0 args) W) (hB : W.heap[B]? = some (.cells #[.func (.func g0) #[] cap0] 72))
    (hF : Calls Try.prog g0 (#[x.agg] ++ cap0) (W.alloc (VlO x)) fun e w' => e = .returned (.bool b) ∧ Below (W.alloc (VlO x)).heap.size (W.alloc (VlO x)) w') :
    Calls Try.prog 60 #[x.agg, .pointer (some ⟨B, 0, none⟩)] W fun e w' => e = .returned (.bool (!b)) ∧ Below W.heap.size W w' := by
  have lb := (Array.getElem?_eq_some_iff.1 hB).1
  have lbn : ∀ u, B < W.heap.size + u := fun u => Nat.lt_of_lt_of_le lb (Nat.le_add_right _ _)
  have c0 : W.cell? ⟨B, 0, none⟩ = some (.func (.func g0) #[] cap0) := by rw [cell_of_row W B _ _ _ _ hB]; rfl
  have HF := Lib.hid (callGr hF)
  clear hB hF
  go_enter Try.func60, Try.ntmps60
  go_wp2_with (go_at_fn g0; refine HF.out.mono ?_; rintro e w' ⟨pp, rfl, rfl⟩)
  go_ret
  exact ⟨rfl, by (repeat (with_reducible first | exact Below.refl _ _ | (refine bl_set ?_ (by first | omega | (simp; done) | (simp; omega)) _) | refine bl_gr ?_ _ | refine bl_al ?_ _ | refine below_setRow ?_ (by first | omega | (simp; done) | (simp; omega)) _ | refine bl_drewN ?_ _ | refine Below.drew ?_ | (refine bl_tr ?_ (by assumption))))⟩
set_option maxRecDepth 100000 in
set_option maxHeartbeats 8000000 in
theorem every_Vl (v : Value) (xs : List Val) (p : Val → Bool) (g0 : Nat) (cap0 : Array Value) (w : World) (hv : SlOf w 3 Val.cs v xs)
    (eg : ∀ args W, (callFunc g0 args).run Try.prog W = .ok (.enter g0 args) W) (hF : ∀ x ∈ xs, ∀ W, Below w.heap.size w W → Calls Try.prog g0 (#[x.agg] ++ cap0) W fun e w' => e = .returned (.bool (p x)) ∧ Below W.heap.size W w') :
    Calls Try.prog 36 #[v, .func (.func g0) #[] cap0] w fun e w' => e = .returned (.bool (decide (xs.length ≤ 65536) && xs.all p)) ∧ Below w.heap.size w w' := by
  obtain ⟨A, cp, rfl, _, hm⟩ := hv.form
  have CT := Lib.hid (callGr (contains_Vl (.slice A xs.length cp) xs (fun x => !p x) 60 #[.pointer (some ⟨w.heap.size, 0, none⟩)] (w.alloc (.cells #[.func (.func g0) #[] cap0] 72)) (hv.below (bl_al (Below.refl _ _) _)) (fun args W => by go_simp)
    (fun x hx W hW => not_Vl x (p x) g0 cap0 w.heap.size W eg ((hW.block _ (by simp)).trans (heap_alloc_new _ _)) (hF x hx _ (bl_al (bl_tr (bl_al (Below.refl _ _) _) hW) _)))))
  have RS := Lib.hid (show (!xs.any fun x => !p x) = xs.all p by rw [List.all_eq_not_any_not])
  clear hv hF
  by_cases hl : xs.length ≤ 65536
  · have q0 : (xs.length : Int) ≤ 65536 := by omega
    have RL := Lib.hid (show decide (xs.length ≤ 65536) = true by simp [hl])
    clear hl hm
    go_enter Try.func36, Try.ntmps36
    go_wp2_with (go_at_call 59; refine CT.out.mono ?_; rintro e w' ⟨pp, rfl, rfl⟩)
    go_ret
    exact ⟨ret_bool (by rw [RL.out, RS.out]; rfl), by (repeat (with_reducible first | exact Below.refl _ _ | (refine bl_set ?_ (by first | omega | (simp; done) | (simp; omega)) _) | refine bl_gr ?_ _ | refine bl_al ?_ _ | refine below_setRow ?_ (by first | omega | (simp; done) | (simp; omega)) _ | refine bl_drewN ?_ _ | refine Below.drew ?_ | (refine bl_tr ?_ (by assumption))))⟩
  · have q0 : ¬ (xs.length : Int) ≤ 65536 := by omega
    have RL := Lib.hid (show decide (xs.length ≤ 65536) = false by simp [hl])
    clear hl hm
    go_enter Try.func36, Try.ntmps36
    go_wp2
    go_ret
    exact ⟨ret_bool (by rw [RL.out]; rfl), by (repeat (with_reducible first | exact Below.refl _ _ | (refine bl_set ?_ (by first | omega | (simp; done) | (simp; omega)) _) | refine bl_gr ?_ _ | refine bl_al ?_ _ | refine below_setRow ?_ (by first | omega | (simp; done) | (simp; omega)) _ | refine bl_drewN ?_ _ | refine Below.drew ?_ | (refine bl_tr ?_ (by assumption))))⟩

/-! ### api.Key -/
def AtKy (w : World) (b o : Nat) (x : Val) : Prop := w.cell? ⟨b, o, none⟩ = some (.int .i64 x.k) ∧ w.cell? ⟨b, o + 1, none⟩ = some (.int .i64 x.n) ∧ w.cell? ⟨b, o + 2, none⟩ = some (.string x.s)
theorem at_Ky {w : World} {v : Value} {xs : List Val} (h : SlOf w 3 Val.cs v xs) {i : Nat} {x : Val} (hi : xs[i]? = some x) : ∃ b off cap, v = .slice (some ⟨b, off, none⟩) xs.length cap ∧ b < w.heap.size ∧ AtKy w b (off + i * 3) x := by
  have hl := (List.getElem?_eq_some_iff.1 hi).1
  obtain ⟨b, off, cap, rfl, hc, hb, hx⟩ := h.at_ (by omega)
  refine ⟨b, off, cap, rfl, hb, ?_⟩
  have f := fun j u hu => hx i x hi j u hu
  exact ⟨f 0 _ rfl, f 1 _ rfl, f 2 _ rfl⟩
theorem AtKy.below {w w' : World} {b o : Nat} {x : Val} (h : AtKy w b o x) (hb : b < w.heap.size) (hw : Below w.heap.size w w') : AtKy w' b o x := by
  obtain ⟨h0, h1, h2⟩ := h
  have f := fun j => hw.cell (p := ⟨b, j, none⟩) hb
  exact ⟨(f _).trans h0, (f _).trans h1, (f _).trans h2⟩
abbrev KyO (x : Val) : Obj := .cells #[.int .i64 x.k, .int .i64 x.n, .string x.s] 52
theorem cells_Ky {w : World} {b : Nat} {x : Val} (h : w.heap[b]? = some (KyO x)) : AtKy w b 0 x ∧ ∀ j, w.frozen? ⟨b, j, none⟩ = false := by
  refine ⟨?_, fun j => frozen_of_row w b j _ _ h⟩
  unfold AtKy
  and_intros <;> (rw [cell_of_row w b _ _ _ _ h]; rfl)
set_option maxRecDepth 100000 in
set_option maxHeartbeats 8000000 in
theorem index_Ky (v : Value) (xs : List Val) (p : Val → Bool) (g : Nat) (cap : Array Value) (w : World) (hv : SlOf w 3 Val.cs v xs)
    (eg : ∀ args W, (callFunc g args).run Try.prog W = .ok (.enter g args) W) (hF : ∀ x ∈ xs, ∀ W, Below w.heap.size w W → Calls Try.prog g (#[x.agg] ++ cap) W fun e w' => e = .returned (.bool (p x)) ∧ Below W.heap.size W w') :
    Calls Try.prog 77 #[v, .func (.func g) #[] cap] w fun e w' => e = .returned (.int .i64 (idxM p xs)) ∧ Below w.heap.size w w' := by
  obtain ⟨A, cp, rfl, _, hm⟩ := hv.form
  have H := Lib.hid hv
  have HF := Lib.hid hF
  have HM := Lib.hid hm
  clear hv hF hm
  go_enter Try.func77, Try.ntmps77
  go_wp2
  go_loopw [8] (fun i wr => ∃ k : Nat, i = .int .i64 k ∧ Hid (k ≤ xs.length ∧ (∀ y ∈ xs.take k, p y = false) ∧ Below w.heap.size w wr)) (fun i _ => xs.length - (intOf i).toNat)
  case atStart => exact ⟨0, rfl, Lib.hid ⟨Nat.zero_le _, by simp, Below.refl _ _⟩⟩
  case round =>
    obtain ⟨k, rfl, HI⟩ := hrel
    by_cases hlt : k < xs.length
    · have q0 : (k : Int) < (xs.length : Int) := by omega
      have q1 : ¬ (k : Int) < 0 := by omega
      obtain ⟨x, hx⟩ : ∃ x, xs[k]? = some x := ⟨_, List.getElem?_eq_getElem hlt⟩
      obtain ⟨b, off, cap', e1, lb, h0, h1, h2⟩ := at_Ky (H.out.below HI.out.2.2) hx
      simp only [Value.slice.injEq] at e1
      obtain ⟨rfl, _, rfl⟩ := e1
      have CF := Lib.hid (callGr (HF.out x (List.mem_of_getElem? hx) wr HI.out.2.2))
      have HX := Lib.hid hx
      have LT := Lib.hid hlt
      clear hx hlt
      obtain ⟨kp, hkp, ek1⟩ : ∃ kp : Nat, kp = k + 1 ∧ wrap64 ((k : Int) + 1) = (kp : Int) := ⟨k + 1, rfl, w64c rfl (by have := LT.out; have := HM.out; unfold maxLen at this; omega)⟩
      have KP := Lib.hid hkp
      clear hkp
      cases hp : p x
      · have CF2 := Lib.hid (by have := CF.out; rw [hp] at this; exact this : Calls Try.prog g (#[x.agg] ++ cap) wr fun e w' => ∃ q : Regrown, e = .returned (.bool false) ∧ w' = gr wr q)
        have NX := Lib.hid (idx_snoc HI.out.2.1 HX.out hp)
        clear CF hp
        go_wp2_with (go_at_fn g; refine CF2.out.mono ?_; rintro e w' ⟨pp, rfl, rfl⟩)
        go_roundw
        case rel => exact ⟨kp, by first | with_reducible rfl | rw [ek1], Lib.hid ⟨by rw [KP.out]; exact LT.out, by rw [KP.out]; exact NX.out, bl_gr HI.out.2.2 _⟩⟩
        case measure => ((try rw [ek1]); exact meas_c KP.out LT.out)
      · have CF2 := Lib.hid (by have := CF.out; rw [hp] at this; exact this : Calls Try.prog g (#[x.agg] ++ cap) wr fun e w' => ∃ q : Regrown, e = .returned (.bool true) ∧ w' = gr wr q)
        have RS := Lib.hid (idxM_at HI.out.2.1 HX.out hp)
        clear CF hp
        go_wp2_with (go_at_fn g; refine CF2.out.mono ?_; rintro e w' ⟨pp, rfl, rfl⟩)
        go_ret
        exact ⟨ret_int RS.out.symm, bl_gr HI.out.2.2 _⟩
    · have q0 : ¬ (k : Int) < (xs.length : Int) := by omega
      have RS := Lib.hid (show idxM p xs = -1 from idxM_no (by have h := HI.out.2.1; rwa [List.take_of_length_le (by omega)] at h))
      clear hlt
      go_wp2
      go_ret
      exact ⟨ret_int RS.out.symm, HI.out.2.2⟩
set_option maxRecDepth 100000 in
set_option maxHeartbeats 8000000 in
theorem contains_Ky (v : Value) (xs : List Val) (p : Val → Bool) (g : Nat) (cap : Array Value) (w : World) (hv : SlOf w 3 Val.cs v xs)
    (eg : ∀ args W, (callFunc g args).run Try.prog W = .ok (.enter g args) W) (hF : ∀ x ∈ xs, ∀ W, Below w.heap.size w W → Calls Try.prog g (#[x.agg] ++ cap) W fun e w' => e = .returned (.bool (p x)) ∧ Below W.heap.size W w') :
    Calls Try.prog 61 #[v, .func (.func g) #[] cap] w fun e w' => e = .returned (.bool (xs.any p)) ∧ Below w.heap.size w w' := by
  have IX := Lib.hid (callGr (index_Ky v xs p g cap w hv eg hF))
  have RS := Lib.hid (idxM_any (p := p) (xs := xs))
  clear hv hF eg
  go_enter Try.func61, Try.ntmps61
  go_wp2_with (go_at_call 77; refine IX.out.mono ?_; rintro e w' ⟨pp, rfl, rfl⟩)
  go_ret
  exact ⟨ret_bool RS.out, by (repeat (with_reducible first | exact Below.refl _ _ | (refine bl_set ?_ (by first | omega | (simp; done) | (simp; omega)) _) | refine bl_gr ?_ _ | refine bl_al ?_ _ | refine below_setRow ?_ (by first | omega | (simp; done) | (simp; omega)) _ | refine bl_drewN ?_ _ | refine Below.drew ?_ | (refine bl_tr ?_ (by assumption))))⟩
set_option maxRecDepth 100000 in
set_option maxHeartbeats 8000000 in
theorem not_Ky (x : Val) (b : Bool) (g0 : Nat) (cap0 : Array Value) (B : Nat) (W : World) (eg : ∀ args W, (callFunc g0 args).run Try.prog W = .ok (.enter g0 args) W) (hB : W.heap[B]? = some (.cells #[.func (.func g0) #[] cap0] 74))
    (hF : Calls Try.prog g0 (#[x.agg] ++ cap0) (W.alloc (KyO x)) fun e w' => e = .returned (.bool b) ∧ Below (W.alloc (KyO x)).heap.size (W.alloc (KyO x)) w') :
    Calls Try.prog 62 #[x.agg, .pointer (some ⟨B, 0, none⟩)] W fun e w' => e = .returned (.bool (!b)) ∧ Below W.heap.size W w' := by
  have lb := (Array.getElem?_eq_some_iff.1 hB).1
  have lbn : ∀ u, B < W.heap.size + u := fun u => Nat.lt_of_lt_of_le lb (Nat.le_add_right _ _)
  have c0 : W.cell? ⟨B, 0, none⟩ = some (.func (.func g0) #[] cap0) := by rw [cell_of_row W B _ _ _ _ hB]; rfl
  have HF := Lib.hid (callGr hF)
  clear hB hF
  go_enter Try.func62, Try.ntmps62
  go_wp2_with (go_at_fn g0; refine HF.out.mono ?_; rintro e w' ⟨pp, rfl, rfl⟩)
  go_ret
  exact ⟨rfl, by (repeat (with_reducible first | exact Below.refl _ _ | (refine bl_set ?_ (by first | omega | (simp; done) | (simp; omega)) _) | refine bl_gr ?_ _ | refine bl_al ?_ _ | refine below_setRow ?_ (by first | omega | (simp; done) | (simp; omega)) _ | refine bl_drewN ?_ _ | refine Below.drew ?_ | (refine bl_tr ?_ (by assumption))))⟩
set_option maxRecDepth 100000 in
set_option maxHeartbeats 8000000 in
theorem every_Ky (v : Value) (xs : List Val) (p : Val → Bool) (g0 : Nat) (cap0 : Array Value) (w : World) (hv : SlOf w 3 Val.cs v xs)
    (eg : ∀ args W, (callFunc g0 args).run Try.prog W = .ok (.enter g0 args) W) (hF : ∀ x ∈ xs, ∀ W, Below w.heap.size w W → Calls Try.prog g0 (#[x.agg] ++ cap0) W fun e w' => e = .returned (.bool (p x)) ∧ Below W.heap.size W w') :
    Calls Try.prog 38 #[v, .func (.func g0) #[] cap0] w fun e w' => e = .returned (.bool (decide (xs.length ≤ 65536) && xs.all p)) ∧ Below w.heap.size w w' := by
  obtain ⟨A, cp, rfl, _, hm⟩ := hv.form
  have CT := Lib.hid (callGr (contains_Ky (.slice A xs.length cp) xs (fun x => !p x) 62 #[.pointer (some ⟨w.heap.size, 0, none⟩)] (w.alloc (.cells #[.func (.func g0) #[] cap0] 74)) (hv.below (bl_al (Below.refl _ _) _)) (fun args W => by go_simp)
    (fun x hx W hW => not_Ky x (p x) g0 cap0 w.heap.size W eg ((hW.block _ (by simp)).trans (heap_alloc_new _ _)) (hF x hx _ (bl_al (bl_tr (bl_al (Below.refl _ _) _) hW) _)))))
  have RS := Lib.hid (show (!xs.any fun x => !p x) = xs.all p by rw [List.all_eq_not_any_not])
  clear hv hF
  by_cases hl : xs.length ≤ 65536
  · have q0 : (xs.length : Int) ≤ 65536 := by omega
    have RL := Lib.hid (show decide (xs.length ≤ 65536) = true by simp [hl])
    clear hl hm
    go_enter Try.func38, Try.ntmps38
    go_wp2_with (go_at_call 61; refine CT.out.mono ?_; rintro e w' ⟨pp, rfl, rfl⟩)
    go_ret
    exact ⟨ret_bool (by rw [RL.out, RS.out]; rfl), by (repeat (with_reducible first | exact Below.refl _ _ | (refine bl_set ?_ (by first | omega | (simp; done) | (simp; omega)) _) | refine bl_gr ?_ _ | refine bl_al ?_ _ | refine below_setRow ?_ (by first | omega | (simp; done) | (simp; omega)) _ | refine bl_drewN ?_ _ | refine Below.drew ?_ | (refine bl_tr ?_ (by assumption))))⟩
  · have q0 : ¬ (xs.length : Int) ≤ 65536 := by omega
    have RL := Lib.hid (show decide (xs.length ≤ 65536) = false by simp [hl])
    clear hl hm
    go_enter Try.func38, Try.ntmps38
    go_wp2
    go_ret
    exact ⟨ret_bool (by rw [RL.out]; rfl), by (repeat (with_reducible first | exact Below.refl _ _ | (refine bl_set ?_ (by first | omega | (simp; done) | (simp; omega)) _) | refine bl_gr ?_ _ | refine bl_al ?_ _ | refine below_setRow ?_ (by first | omega | (simp; done) | (simp; omega)) _ | refine bl_drewN ?_ _ | refine Below.drew ?_ | (refine bl_tr ?_ (by assumption))))⟩

/-! ### api.Ins -/
def AtIn (w : World) (b o : Nat) (x : InsD) : Prop := w.cell? ⟨b, o, none⟩ = some (.int .i64 x.op) ∧ w.cell? ⟨b, o + 1, none⟩ = some (.int .i64 x.a) ∧ w.cell? ⟨b, o + 2, none⟩ = some (.int .i64 x.b) ∧ w.cell? ⟨b, o + 3, none⟩ = some (.int .i64 x.c)
theorem at_In {w : World} {v : Value} {xs : List InsD} (h : SlOf w 4 InsD.cs v xs) {i : Nat} {x : InsD} (hi : xs[i]? = some x) : ∃ b off cap, v = .slice (some ⟨b, off, none⟩) xs.length cap ∧ b < w.heap.size ∧ AtIn w b (off + i * 4) x := by
  have hl := (List.getElem?_eq_some_iff.1 hi).1
  obtain ⟨b, off, cap, rfl, hc, hb, hx⟩ := h.at_ (by omega)
  refine ⟨b, off, cap, rfl, hb, ?_⟩
  have f := fun j u hu => hx i x hi j u hu
  exact ⟨f 0 _ rfl, f 1 _ rfl, f 2 _ rfl, f 3 _ rfl⟩
theorem AtIn.below {w w' : World} {b o : Nat} {x : InsD} (h : AtIn w b o x) (hb : b < w.heap.size) (hw : Below w.heap.size w w') : AtIn w' b o x := by
  obtain ⟨h0, h1, h2, h3⟩ := h
  have f := fun j => hw.cell (p := ⟨b, j, none⟩) hb
  exact ⟨(f _).trans h0, (f _).trans h1, (f _).trans h2, (f _).trans h3⟩
abbrev InO (x : InsD) : Obj := .cells #[.int .i64 x.op, .int .i64 x.a, .int .i64 x.b, .int .i64 x.c] 45
theorem cells_In {w : World} {b : Nat} {x : InsD} (h : w.heap[b]? = some (InO x)) : AtIn w b 0 x ∧ ∀ j, w.frozen? ⟨b, j, none⟩ = false := by
  refine ⟨?_, fun j => frozen_of_row w b j _ _ h⟩
  unfold AtIn
  and_intros <;> (rw [cell_of_row w b _ _ _ _ h]; rfl)
set_option maxRecDepth 100000 in
set_option maxHeartbeats 8000000 in
theorem index_In (v : Value) (xs : List InsD) (p : InsD → Bool) (g : Nat) (cap : Array Value) (w : World) (hv : SlOf w 4 InsD.cs v xs)
    (eg : ∀ args W, (callFunc g args).run Try.prog W = .ok (.enter g args) W) (hF : ∀ x ∈ xs, ∀ W, Below w.heap.size w W → Calls Try.prog g (#[x.agg] ++ cap) W fun e w' => e = .returned (.bool (p x)) ∧ Below W.heap.size W w') :
    Calls Try.prog 78 #[v, .func (.func g) #[] cap] w fun e w' => e = .returned (.int .i64 (idxM p xs)) ∧ Below w.heap.size w w' := by
  obtain ⟨A, cp, rfl, _, hm⟩ := hv.form
  have H := Lib.hid hv
  have HF := Lib.hid hF
  have HM := Lib.hid hm
  clear hv hF hm
  go_enter Try.func78, Try.ntmps78
  go_wp2
  go_loopw [8] (fun i wr => ∃ k : Nat, i = .int .i64 k ∧ Hid (k ≤ xs.length ∧ (∀ y ∈ xs.take k, p y = false) ∧ Below w.heap.size w wr)) (fun i _ => xs.length - (intOf i).toNat)
  case atStart => exact ⟨0, rfl, Lib.hid ⟨Nat.zero_le _, by simp, Below.refl _ _⟩⟩
  case round =>
    obtain ⟨k, rfl, HI⟩ := hrel
    by_cases hlt : k < xs.length
    · have q0 : (k : Int) < (xs.length : Int) := by omega
      have q1 : ¬ (k : Int) < 0 := by omega
      obtain ⟨x, hx⟩ : ∃ x, xs[k]? = some x := ⟨_, List.getElem?_eq_getElem hlt⟩
      obtain ⟨b, off, cap', e1, lb, h0, h1, h2, h3⟩ := at_In (H.out.below HI.out.2.2) hx
      simp only [Value.slice.injEq] at e1
      obtain ⟨rfl, _, rfl⟩ := e1
      have CF := Lib.hid (callGr (HF.out x (List.mem_of_getElem? hx) wr HI.out.2.2))
      have HX := Lib.hid hx
      have LT := Lib.hid hlt
      clear hx hlt
      obtain ⟨kp, hkp, ek1⟩ : ∃ kp : Nat, kp = k + 1 ∧ wrap64 ((k : Int) + 1) = (kp : Int) := ⟨k + 1, rfl, w64c rfl (by have := LT.out; have := HM.out; unfold maxLen at this; omega)⟩
      have KP := Lib.hid hkp
      clear hkp
      cases hp : p x
      · have CF2 := Lib.hid (by have := CF.out; rw [hp] at this; exact this : Calls Try.prog g (#[x.agg] ++ cap) wr fun e w' => ∃ q : Regrown, e = .returned (.bool false) ∧ w' = gr wr q)
        have NX := Lib.hid (idx_snoc HI.out.2.1 HX.out hp)
        clear CF hp
        go_wp2_with (go_at_fn g; refine CF2.out.mono ?_; rintro e w' ⟨pp, rfl, rfl⟩)
        go_roundw
        case rel => exact ⟨kp, by first | with_reducible rfl | rw [ek1], Lib.hid ⟨by rw [KP.out]; exact LT.out, by rw [KP.out]; exact NX.out, bl_gr HI.out.2.2 _⟩⟩
        case measure => ((try rw [ek1]); exact meas_c KP.out LT.out)
      · have CF2 := Lib.hid (by have := CF.out; rw [hp] at this; exact this : Calls Try.prog g (#[x.agg] ++ cap) wr fun e w' => ∃ q : Regrown, e = .returned (.bool true) ∧ w' = gr wr q)
        have RS := Lib.hid (idxM_at HI.out.2.1 HX.out hp)
        clear CF hp
        go_wp2_with (go_at_fn g; refine CF2.out.mono ?_; rintro e w' ⟨pp, rfl, rfl⟩)
        go_ret
        exact ⟨ret_int RS.out.symm, bl_gr HI.out.2.2 _⟩
    · have q0 : ¬ (k : Int) < (xs.length : Int) := by omega
      have RS := Lib.hid (show idxM p xs = -1 from idxM_no (by have h := HI.out.2.1; rwa [List.take_of_length_le (by omega)] at h))
      clear hlt
      go_wp2
      go_ret
      exact ⟨ret_int RS.out.symm, HI.out.2.2⟩
set_option maxRecDepth 100000 in
set_option maxHeartbeats 8000000 in
theorem contains_In (v : Value) (xs : List InsD) (p : InsD → Bool) (g : Nat) (cap : Array Value) (w : World) (hv : SlOf w 4 InsD.cs v xs)
    (eg : ∀ args W, (callFunc g args).run Try.prog W = .ok (.enter g args) W) (hF : ∀ x ∈ xs, ∀ W, Below w.heap.size w W → Calls Try.prog g (#[x.agg] ++ cap) W fun e w' => e = .returned (.bool (p x)) ∧ Below W.heap.size W w') :
    Calls Try.prog 64 #[v, .func (.func g) #[] cap] w fun e w' => e = .returned (.bool (xs.any p)) ∧ Below w.heap.size w w' := by
  have IX := Lib.hid (callGr (index_In v xs p g cap w hv eg hF))
  have RS := Lib.hid (idxM_any (p := p) (xs := xs))
  clear hv hF eg
  go_enter Try.func64, Try.ntmps64
  go_wp2_with (go_at_call 78; refine IX.out.mono ?_; rintro e w' ⟨pp, rfl, rfl⟩)
  go_ret
  exact ⟨ret_bool RS.out, by (repeat (with_reducible first | exact Below.refl _ _ | (refine bl_set ?_ (by first | omega | (simp; done) | (simp; omega)) _) | refine bl_gr ?_ _ | refine bl_al ?_ _ | refine below_setRow ?_ (by first | omega | (simp; done) | (simp; omega)) _ | refine bl_drewN ?_ _ | refine Below.drew ?_ | (refine bl_tr ?_ (by assumption))))⟩
set_option maxRecDepth 100000 in
set_option maxHeartbeats 8000000 in
theorem not_In (x : InsD) (b : Bool) (g0 : Nat) (cap0 : Array Value) (B : Nat) (W : World) (eg : ∀ args W, (callFunc g0 args).run Try.prog W = .ok (.enter g0 args) W) (hB : W.heap[B]? = some (.cells #[.func (.func g0) #[] cap0] 77))
    (hF : Calls Try.prog g0 (#[x.agg] ++ cap0) (W.alloc (InO x)) fun e w' => e = .returned (.bool b) ∧ Below (W.alloc (InO x)).heap.size (W.alloc (InO x)) w') :
    Calls Try.prog 65 #[x.agg, .pointer (some ⟨B, 0, none⟩)] W fun e w' => e = .returned (.bool (!b)) ∧ Below W.heap.size W w' := by
  have lb := (Array.getElem?_eq_some_iff.1 hB).1
  have lbn : ∀ u, B < W.heap.size + u := fun u => Nat.lt_of_lt_of_le lb (Nat.le_add_right _ _)
  have c0 : W.cell? ⟨B, 0, none⟩ = some (.func (.func g0) #[] cap0) := by rw [cell_of_row W B _ _ _ _ hB]; rfl
  have HF := Lib.hid (callGr hF)
  clear hB hF
  go_enter Try.func65, Try.ntmps65
  go_wp2_with (go_at_fn g0; refine HF.out.mono ?_; rintro e w' ⟨pp, rfl, rfl⟩)
  go_ret
  exact ⟨rfl, by (repeat (with_reducible first | exact Below.refl _ _ | (refine bl_set ?_ (by first | omega | (simp; done) | (simp; omega)) _) | refine bl_gr ?_ _ | refine bl_al ?_ _ | refine below_setRow ?_ (by first | omega | (simp; done) | (simp; omega)) _ | refine bl_drewN ?_ _ | refine Below.drew ?_ | (refine bl_tr ?_ (by assumption))))⟩
set_option maxRecDepth 100000 in
set_option maxHeartbeats 8000000 in
theorem every_In (v : Value) (xs : List InsD) (p : InsD → Bool) (g0 : Nat) (cap0 : Array Value) (w : World) (hv : SlOf w 4 InsD.cs v xs)
    (eg : ∀ args W, (callFunc g0 args).run Try.prog W = .ok (.enter g0 args) W) (hF : ∀ x ∈ xs, ∀ W, Below w.heap.size w W → Calls Try.prog g0 (#[x.agg] ++ cap0) W fun e w' => e = .returned (.bool (p x)) ∧ Below W.heap.size W w') :
    Calls Try.prog 40 #[v, .func (.func g0) #[] cap0] w fun e w' => e = .returned (.bool (decide (xs.length ≤ 65536) && xs.all p)) ∧ Below w.heap.size w w' := by
  obtain ⟨A, cp, rfl, _, hm⟩ := hv.form
  have CT := Lib.hid (callGr (contains_In (.slice A xs.length cp) xs (fun x => !p x) 65 #[.pointer (some ⟨w.heap.size, 0, none⟩)] (w.alloc (.cells #[.func (.func g0) #[] cap0] 77)) (hv.below (bl_al (Below.refl _ _) _)) (fun args W => by go_simp)
    (fun x hx W hW => not_In x (p x) g0 cap0 w.heap.size W eg ((hW.block _ (by simp)).trans (heap_alloc_new _ _)) (hF x hx _ (bl_al (bl_tr (bl_al (Below.refl _ _) _) hW) _)))))
  have RS := Lib.hid (show (!xs.any fun x => !p x) = xs.all p by rw [List.all_eq_not_any_not])
  clear hv hF
  by_cases hl : xs.length ≤ 65536
  · have q0 : (xs.length : Int) ≤ 65536 := by omega
    have RL := Lib.hid (show decide (xs.length ≤ 65536) = true by simp [hl])
    clear hl hm
    go_enter Try.func40, Try.ntmps40
    go_wp2_with (go_at_call 64; refine CT.out.mono ?_; rintro e w' ⟨pp, rfl, rfl⟩)
    go_ret
    exact ⟨ret_bool (by rw [RL.out, RS.out]; rfl), by (repeat (with_reducible first | exact Below.refl _ _ | (refine bl_set ?_ (by first | omega | (simp; done) | (simp; omega)) _) | refine bl_gr ?_ _ | refine bl_al ?_ _ | refine below_setRow ?_ (by first | omega | (simp; done) | (simp; omega)) _ | refine bl_drewN ?_ _ | refine Below.drew ?_ | (refine bl_tr ?_ (by assumption))))⟩
  · have q0 : ¬ (xs.length : Int) ≤ 65536 := by omega
    have RL := Lib.hid (show decide (xs.length ≤ 65536) = false by simp [hl])
    clear hl hm
    go_enter Try.func40, Try.ntmps40
    go_wp2
    go_ret
    exact ⟨ret_bool (by rw [RL.out]; rfl), by (repeat (with_reducible first | exact Below.refl _ _ | (refine bl_set ?_ (by first | omega | (simp; done) | (simp; omega)) _) | refine bl_gr ?_ _ | refine bl_al ?_ _ | refine below_setRow ?_ (by first | omega | (simp; done) | (simp; omega)) _ | refine bl_drewN ?_ _ | refine Below.drew ?_ | (refine bl_tr ?_ (by assumption))))⟩

/-! ### api.Guard -/
def AtGd (w : World) (b o : Nat) (x : GrdD) : Prop := w.cell? ⟨b, o, none⟩ = some (.int .i64 x.f) ∧ w.cell? ⟨b, o + 1, none⟩ = some (.int .i64 x.t) ∧ w.cell? ⟨b, o + 2, none⟩ = some (.int .i64 x.g) ∧ w.cell? ⟨b, o + 3, none⟩ = some (.int .i64 x.r)
theorem at_Gd {w : World} {v : Value} {xs : List GrdD} (h : SlOf w 4 GrdD.cs v xs) {i : Nat} {x : GrdD} (hi : xs[i]? = some x) : ∃ b off cap, v = .slice (some ⟨b, off, none⟩) xs.length cap ∧ b < w.heap.size ∧ AtGd w b (off + i * 4) x := by
  have hl := (List.getElem?_eq_some_iff.1 hi).1
  obtain ⟨b, off, cap, rfl, hc, hb, hx⟩ := h.at_ (by omega)
  refine ⟨b, off, cap, rfl, hb, ?_⟩
  have f := fun j u hu => hx i x hi j u hu
  exact ⟨f 0 _ rfl, f 1 _ rfl, f 2 _ rfl, f 3 _ rfl⟩
theorem AtGd.below {w w' : World} {b o : Nat} {x : GrdD} (h : AtGd w b o x) (hb : b < w.heap.size) (hw : Below w.heap.size w w') : AtGd w' b o x := by
  obtain ⟨h0, h1, h2, h3⟩ := h
  have f := fun j => hw.cell (p := ⟨b, j, none⟩) hb
  exact ⟨(f _).trans h0, (f _).trans h1, (f _).trans h2, (f _).trans h3⟩
abbrev GdO (x : GrdD) : Obj := .cells #[.int .i64 x.f, .int .i64 x.t, .int .i64 x.g, .int .i64 x.r] 48
theorem cells_Gd {w : World} {b : Nat} {x : GrdD} (h : w.heap[b]? = some (GdO x)) : AtGd w b 0 x ∧ ∀ j, w.frozen? ⟨b, j, none⟩ = false := by
  refine ⟨?_, fun j => frozen_of_row w b j _ _ h⟩
  unfold AtGd
  and_intros <;> (rw [cell_of_row w b _ _ _ _ h]; rfl)
set_option maxRecDepth 100000 in
set_option maxHeartbeats 8000000 in
theorem index_Gd (v : Value) (xs : List GrdD) (p : GrdD → Bool) (g : Nat) (cap : Array Value) (w : World) (hv : SlOf w 4 GrdD.cs v xs)
    (eg : ∀ args W, (callFunc g args).run Try.prog W = .ok (.enter g args) W) (hF : ∀ x ∈ xs, ∀ W, Below w.heap.size w W → Calls Try.prog g (#[x.agg] ++ cap) W fun e w' => e = .returned (.bool (p x)) ∧ Below W.heap.size W w') :
    Calls Try.prog 79 #[v, .func (.func g) #[] cap] w fun e w' => e = .returned (.int .i64 (idxM p xs)) ∧ Below w.heap.size w w' := by
  obtain ⟨A, cp, rfl, _, hm⟩ := hv.form
  have H := Lib.hid hv
  have HF := Lib.hid hF
  have HM := Lib.hid hm
  clear hv hF hm
  go_enter Try.func79, Try.ntmps79
  go_wp2
  go_loopw [8] (fun i wr => ∃ k : Nat, i = .int .i64 k ∧ Hid (k ≤ xs.length ∧ (∀ y ∈ xs.take k, p y = false) ∧ Below w.heap.size w wr)) (fun i _ => xs.length - (intOf i).toNat)
  case atStart => exact ⟨0, rfl, Lib.hid ⟨Nat.zero_le _, by simp, Below.refl _ _⟩⟩
  case round =>
    obtain ⟨k, rfl, HI⟩ := hrel
    by_cases hlt : k < xs.length
    · have q0 : (k : Int) < (xs.length : Int) := by omega
      have q1 : ¬ (k : Int) < 0 := by omega
      obtain ⟨x, hx⟩ : ∃ x, xs[k]? = some x := ⟨_, List.getElem?_eq_getElem hlt⟩
      obtain ⟨b, off, cap', e1, lb, h0, h1, h2, h3⟩ := at_Gd (H.out.below HI.out.2.2) hx
      simp only [Value.slice.injEq] at e1
      obtain ⟨rfl, _, rfl⟩ := e1
      have CF := Lib.hid (callGr (HF.out x (List.mem_of_getElem? hx) wr HI.out.2.2))
      have HX := Lib.hid hx
      have LT := Lib.hid hlt
      clear hx hlt
      obtain ⟨kp, hkp, ek1⟩ : ∃ kp : Nat, kp = k + 1 ∧ wrap64 ((k : Int) + 1) = (kp : Int) := ⟨k + 1, rfl, w64c rfl (by have := LT.out; have := HM.out; unfold maxLen at this; omega)⟩
      have KP := Lib.hid hkp
      clear hkp
      cases hp : p x
      · have CF2 := Lib.hid (by have := CF.out; rw [hp] at this; exact this : Calls Try.prog g (#[x.agg] ++ cap) wr fun e w' => ∃ q : Regrown, e = .returned (.bool false) ∧ w' = gr wr q)
        have NX := Lib.hid (idx_snoc HI.out.2.1 HX.out hp)
        clear CF hp
        go_wp2_with (go_at_fn g; refine CF2.out.mono ?_; rintro e w' ⟨pp, rfl, rfl⟩)
        go_roundw
        case rel => exact ⟨kp, by first | with_reducible rfl | rw [ek1], Lib.hid ⟨by rw [KP.out]; exact LT.out, by rw [KP.out]; exact NX.out, bl_gr HI.out.2.2 _⟩⟩
        case measure => ((try rw [ek1]); exact meas_c KP.out LT.out)
      · have CF2 := Lib.hid (by have := CF.out; rw [hp] at this; exact this : Calls Try.prog g (#[x.agg] ++ cap) wr fun e w' => ∃ q : Regrown, e = .returned (.bool true) ∧ w' = gr wr q)
        have RS := Lib.hid (idxM_at HI.out.2.1 HX.out hp)
        clear CF hp
        go_wp2_with (go_at_fn g; refine CF2.out.mono ?_; rintro e w' ⟨pp, rfl, rfl⟩)
        go_ret
        exact ⟨ret_int RS.out.symm, bl_gr HI.out.2.2 _⟩
    · have q0 : ¬ (k : Int) < (xs.length : Int) := by omega
      have RS := Lib.hid (show idxM p xs = -1 from idxM_no (by have h := HI.out.2.1; rwa [List.take_of_length_le (by omega)] at h))
      clear hlt
      go_wp2
      go_ret
      exact ⟨ret_int RS.out.symm, HI.out.2.2⟩
set_option maxRecDepth 100000 in
set_option maxHeartbeats 8000000 in
theorem contains_Gd (v : Value) (xs : List GrdD) (p : GrdD → Bool) (g : Nat) (cap : Array Value) (w : World) (hv : SlOf w 4 GrdD.cs v xs)
    (eg : ∀ args W, (callFunc g args).run Try.prog W = .ok (.enter g args) W) (hF : ∀ x ∈ xs, ∀ W, Below w.heap.size w W → Calls Try.prog g (#[x.agg] ++ cap) W fun e w' => e = .returned (.bool (p x)) ∧ Below W.heap.size W w') :
    Calls Try.prog 67 #[v, .func (.func g) #[] cap] w fun e w' => e = .returned (.bool (xs.any p)) ∧ Below w.heap.size w w' := by
  have IX := Lib.hid (callGr (index_Gd v xs p g cap w hv eg hF))
  have RS := Lib.hid (idxM_any (p := p) (xs := xs))
  clear hv hF eg
  go_enter Try.func67, Try.ntmps67
  go_wp2_with (go_at_call 79; refine IX.out.mono ?_; rintro e w' ⟨pp, rfl, rfl⟩)
  go_ret
  exact ⟨ret_bool RS.out, by (repeat (with_reducible first | exact Below.refl _ _ | (refine bl_set ?_ (by first | omega | (simp; done) | (simp; omega)) _) | refine bl_gr ?_ _ | refine bl_al ?_ _ | refine below_setRow ?_ (by first | omega | (simp; done) | (simp; omega)) _ | refine bl_drewN ?_ _ | refine Below.drew ?_ | (refine bl_tr ?_ (by assumption))))⟩
set_option maxRecDepth 100000 in
set_option maxHeartbeats 8000000 in
theorem not_Gd (x : GrdD) (b : Bool) (g0 : Nat) (cap0 : Array Value) (B : Nat) (W : World) (eg : ∀ args W, (callFunc g0 args).run Try.prog W = .ok (.enter g0 args) W) (hB : W.heap[B]? = some (.cells #[.func (.func g0) #[] cap0] 80))
    (hF : Calls Try.prog g0 (#[x.agg] ++ cap0) (W.alloc (GdO x)) fun e w' => e = .returned (.bool b) ∧ Below (W.alloc (GdO x)).heap.size (W.alloc (GdO x)) w') :
    Calls Try.prog 68 #[x.agg, .pointer (some ⟨B, 0, none⟩)] W fun e w' => e = .returned (.bool (!b)) ∧ Below W.heap.size W w' := by
  have lb := (Array.getElem?_eq_some_iff.1 hB).1
  have lbn : ∀ u, B < W.heap.size + u := fun u => Nat.lt_of_lt_of_le lb (Nat.le_add_right _ _)
  have c0 : W.cell? ⟨B, 0, none⟩ = some (.func (.func g0) #[] cap0) := by rw [cell_of_row W B _ _ _ _ hB]; rfl
  have HF := Lib.hid (callGr hF)
  clear hB hF
  go_enter Try.func68, Try.ntmps68
  go_wp2_with (go_at_fn g0; refine HF.out.mono ?_; rintro e w' ⟨pp, rfl, rfl⟩)
  go_ret
  exact ⟨rfl, by (repeat (with_reducible first | exact Below.refl _ _ | (refine bl_set ?_ (by first | omega | (simp; done) | (simp; omega)) _) | refine bl_gr ?_ _ | refine bl_al ?_ _ | refine below_setRow ?_ (by first | omega | (simp; done) | (simp; omega)) _ | refine bl_drewN ?_ _ | refine Below.drew ?_ | (refine bl_tr ?_ (by assumption))))⟩
set_option maxRecDepth 100000 in
set_option maxHeartbeats 8000000 in
theorem every_Gd (v : Value) (xs : List GrdD) (p : GrdD → Bool) (g0 : Nat) (cap0 : Array Value) (w : World) (hv : SlOf w 4 GrdD.cs v xs)
    (eg : ∀ args W, (callFunc g0 args).run Try.prog W = .ok (.enter g0 args) W) (hF : ∀ x ∈ xs, ∀ W, Below w.heap.size w W → Calls Try.prog g0 (#[x.agg] ++ cap0) W fun e w' => e = .returned (.bool (p x)) ∧ Below W.heap.size W w') :
    Calls Try.prog 43 #[v, .func (.func g0) #[] cap0] w fun e w' => e = .returned (.bool (decide (xs.length ≤ 65536) && xs.all p)) ∧ Below w.heap.size w w' := by
  obtain ⟨A, cp, rfl, _, hm⟩ := hv.form
  have CT := Lib.hid (callGr (contains_Gd (.slice A xs.length cp) xs (fun x => !p x) 68 #[.pointer (some ⟨w.heap.size, 0, none⟩)] (w.alloc (.cells #[.func (.func g0) #[] cap0] 80)) (hv.below (bl_al (Below.refl _ _) _)) (fun args W => by go_simp)
    (fun x hx W hW => not_Gd x (p x) g0 cap0 w.heap.size W eg ((hW.block _ (by simp)).trans (heap_alloc_new _ _)) (hF x hx _ (bl_al (bl_tr (bl_al (Below.refl _ _) _) hW) _)))))
  have RS := Lib.hid (show (!xs.any fun x => !p x) = xs.all p by rw [List.all_eq_not_any_not])
  clear hv hF
  by_cases hl : xs.length ≤ 65536
  · have q0 : (xs.length : Int) ≤ 65536 := by omega
    have RL := Lib.hid (show decide (xs.length ≤ 65536) = true by simp [hl])
    clear hl hm
    go_enter Try.func43, Try.ntmps43
    go_wp2_with (go_at_call 67; refine CT.out.mono ?_; rintro e w' ⟨pp, rfl, rfl⟩)
    go_ret
    exact ⟨ret_bool (by rw [RL.out, RS.out]; rfl), by (repeat (with_reducible first | exact Below.refl _ _ | (refine bl_set ?_ (by first | omega | (simp; done) | (simp; omega)) _) | refine bl_gr ?_ _ | refine bl_al ?_ _ | refine below_setRow ?_ (by first | omega | (simp; done) | (simp; omega)) _ | refine bl_drewN ?_ _ | refine Below.drew ?_ | (refine bl_tr ?_ (by assumption))))⟩
  · have q0 : ¬ (xs.length : Int) ≤ 65536 := by omega
    have RL := Lib.hid (show decide (xs.length ≤ 65536) = false by simp [hl])
    clear hl hm
    go_enter Try.func43, Try.ntmps43
    go_wp2
    go_ret
    exact ⟨ret_bool (by rw [RL.out]; rfl), by (repeat (with_reducible first | exact Below.refl _ _ | (refine bl_set ?_ (by first | omega | (simp; done) | (simp; omega)) _) | refine bl_gr ?_ _ | refine bl_al ?_ _ | refine below_setRow ?_ (by first | omega | (simp; done) | (simp; omega)) _ | refine bl_drewN ?_ _ | refine Below.drew ?_ | (refine bl_tr ?_ (by assumption))))⟩
end Go.Proofs.Ytcmpgohpncnagaa
