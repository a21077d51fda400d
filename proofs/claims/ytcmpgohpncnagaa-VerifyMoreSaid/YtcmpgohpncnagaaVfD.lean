/- The specification's example. -/
import Derived.Test.YtcmpgohpncnagaaVfA
import Derived.Test.YtcmpgohpncnagaaElem
namespace Go.Proofs.Ytcmpgohpncnagaa
set_option linter.all false
open Go.ChangeShapes Go.WideShapes Go.ChangeAt Go.RowKit Go.Sort Go.Deep Go.Shelf

/-- one code object in a block of its own -/
theorem isCd_one {W : World} {b : Nat} {c : CodeD} {i p k g : Value} {T : TypeId} (h : W.heap[b]? = some (.cells #[.string c.nm, .int .i64 c.kd, .int .i64 c.ln, .int .i64 c.rg, i, p, k, g] T)) (h4 : Cd4 W i p k g c) : IsCd W (.slice (some ⟨b, 0, none⟩) 1 1) [c] := by
  refine ⟨[⟨c.nm, c.kd, c.ln, c.rg, i, p, k, g⟩], sl_oneE h rfl, rfl, fun q r d hr hd => ?_⟩
  match q with
  | 0 =>
    simp only [List.getElem?_cons_zero, Option.some.injEq] at hr hd
    subst hr
    subst hd
    exact ⟨rfl, rfl, rfl, rfl, h4⟩
  | q + 1 => simp at hr
theorem codeL_ok {l : List InsD} (h : ∀ x ∈ l, x.ok) : (codeL l).ok := ⟨Nat.zero_le _, i64_0, i64_0, by show i64ok 1; unfold i64ok; omega, h, fun y hy => by rw [List.mem_singleton.1 hy]; exact ⟨i64_0, i64_0, Nat.zero_le _⟩, by simp, by simp⟩
theorem insL_ok : insL.ok := ⟨by show i64ok 1; unfold i64ok; omega, i64_0, i64_0, i64_0⟩
theorem insT_ok : insT.ok := ⟨by show i64ok 48; unfold i64ok; omega, i64_0, i64_0, i64_0⟩
/-- one element in a block of its own, as a row of the call's own -/
theorem own_one {α : Type} {en : α → List Value} {E : TypeId} {size : Nat} {w : World} {g lo : Nat} {x : α} (hg : w.heap[g]? = some (.cells (en x).toArray E)) (hn : (en x).length = size) (hlo : lo ≤ g) : w.ownsRow lo E size (.slice (some ⟨g, 0, none⟩) 1 1) ([x] : List α).length (flat en [x]) :=
  ⟨by simp [flat, hn], .inr ⟨g, 1, (en x).toArray, rfl, hlo, hg, Nat.le_refl _, by unfold maxLen; omega, by simp [hn], by rw [show ([x] : List α).length * size = (en x).length by simp [hn]]; simp [flat]⟩⟩
/-- the three blocks of the example -/
def Liv (w : World) (v : Value) (X : World) : Prop := X.heap[w.heap.size]? = some (.cells (Val.cs .zero).toArray 51) ∧
  X.heap[w.heap.size + 1 + 1]? = some (codeO ⟨#[]⟩ 0 0 1 v (.slice (some ⟨w.heap.size, 0, none⟩) 1 1) (.slice none 0 0) (.slice none 0 0)) ∧ Below w.heap.size w X
theorem Liv.step {w X Y : World} {v : Value} (h : Liv w v X) (hb : Below X.heap.size X Y) : Liv w v Y :=
  ⟨(hb.block _ (Array.getElem?_eq_some_iff.1 h.1).1).trans h.1, (hb.block _ (Array.getElem?_eq_some_iff.1 h.2.1).1).trans h.2.1, bl_tr h.2.2 hb⟩
theorem Liv.lt {w X : World} {v : Value} (h : Liv w v X) : w.heap.size + 1 + 1 < X.heap.size := (Array.getElem?_eq_some_iff.1 h.2.1).1
theorem Liv.cd {w X : World} {v : Value} {l : List InsD} (h : Liv w v X) (hv : IsI4 X v l) : Cd4 X v (.slice (some ⟨w.heap.size, 0, none⟩) 1 1) (.slice none 0 0) (.slice none 0 0) (codeL l) := ⟨hv, sl_oneE h.1 rfl, .nil_, .nil_⟩
theorem own_ne {w : World} {lo : Nat} {E T : TypeId} {size n b : Nat} {v : Value} {xs : List Value} {cs : Array Value} (h : w.ownsRow lo E size v n xs) (hb : w.heap[b]? = some (.cells cs T)) (hT : T ≠ E) : ∀ g, v.ownBlock = some g → g ≠ b := by
  intro g hg e
  subst e
  rcases h.2 with ⟨rfl, _⟩ | ⟨g', cap, cur, rfl, _, hg', _⟩
  · simp [Value.ownBlock] at hg
  · simp only [Value.ownBlock, Option.some.injEq] at hg
    subst hg
    rw [hb] at hg'
    simp only [Option.some.injEq, Obj.cells.injEq] at hg'
    exact hT hg'.2.1
theorem Liv.grown {w Y w5 : World} {v : Value} {o : Obj} {A : Nat} (h : Liv w v Y) (g : (Y.alloc o).grownBy w5 (Value.slice (some ⟨w.heap.size + 1, 0, none⟩) 1 A).ownBlock) : Liv w v w5 := by
  have l0 := h.lt
  have T5 := touch_grownE g
  refine ⟨(T5.block _ (by simp; omega) (by simp [Value.ownBlock])).trans ((heap_alloc_old _ _ (by omega)).trans h.1), (T5.block _ (by simp; omega) (by simp [Value.ownBlock])).trans ((heap_alloc_old _ _ (by omega)).trans h.2.1), grown_lo (bl_al h.2.2 _) g fun g hg => by simp [Value.ownBlock] at hg; omega⟩
theorem Liv.put {w X : World} {v : Value} {lo : Nat} {A : Option Addr} {n : Nat} (h : Liv w v X) (o : X.ownsRow lo 45 4 (.slice A 2 n) 2 (flat InsD.cs [insL, insT])) : Liv w (.slice A 2 n) (X.setCell ⟨w.heap.size + 1 + 1, 4, none⟩ (.slice A 2 n)) ∧ IsI4 (X.setCell ⟨w.heap.size + 1 + 1, 4, none⟩ (.slice A 2 n)) (.slice A 2 n) [insL, insT] := by
  have l0 := h.lt
  refine ⟨⟨(heap_setCell_other X _ _ _ (by dsimp only; omega)).trans h.1, heap_setCell_same X _ _ _ _ _ h.2.1, bl_set h.2.2 (by dsimp only; omega) _⟩, ?_⟩
  exact ownsRow_slOf (xs := [insL, insT]) ins_len (ownsRow_touch o ((Touch.refl _ _).set1 _ _) (own_ne o h.2.1 (by decide)))
set_option maxRecDepth 100000 in
set_option maxHeartbeats 8000000 in
theorem livesc_any (w : World) : Calls Try.prog 9 #[] w fun e w' => e = .returned (.bool true) ∧ Below w.heap.size w w' := by
  have C1 := Lib.hid (fun W s (h : IsCd W s [codeL [insL]]) => (by have := imgcheck_any s _ (fun c hc => by rw [List.mem_singleton.1 hc]; exact codeL_ok (fun x hx => by rw [List.mem_singleton.1 hx]; exact insL_ok)) W h; rw [live_1] at this; exact this : Calls Try.prog 16 #[imgV s] W fun e w' => e = .returned (.tuple #[.int .i64 0, .int .i64 0, .int .i64 42]) ∧ Below W.heap.size W w'))
  have C2 := Lib.hid (fun W s (h : IsCd W s [codeL [insL, insT]]) => (by have := imgcheck_any s _ (fun c hc => by rw [List.mem_singleton.1 hc]; exact codeL_ok (fun x hx => by simp only [List.mem_cons, List.not_mem_nil, or_false] at hx; rcases hx with rfl | rfl; exact insL_ok; exact insT_ok)) W h; rw [live_2] at this; exact this : Calls Try.prog 16 #[imgV s] W fun e w' => e = .returned (.tuple #[.int .i64 0, .int .i64 0, .int .i64 0]) ∧ Below W.heap.size W w'))
  go_enter Try.func9, Try.ntmps9
  go_upto_region 2 with fail
  refine wpc_world (fun X => X.heap[w.heap.size + 1]? = some (.cells (InsD.cs insL).toArray 45) ∧ Liv w (.slice (some ⟨w.heap.size + 1, 0, none⟩) 1 1) X) ⟨hq_1 _ _ _ _, hq_0 _ _ _ _, by have := heap_alloc_new ((w.alloc (.cells (Val.cs .zero).toArray 51)).alloc (.cells (InsD.cs insL).toArray 45)) (codeO ⟨#[]⟩ 0 0 1 (.slice (some ⟨w.heap.size + 1, 0, none⟩) 1 1) (.slice (some ⟨w.heap.size, 0, none⟩) 1 1) (.slice none 0 0) (.slice none 0 0)); simpa using this, by (repeat (with_reducible first | exact Below.refl _ _ | (refine bl_set ?_ (by first | omega | (simp; done) | (simp; omega)) _) | refine bl_gr ?_ _ | refine bl_al ?_ _ | refine below_setRow ?_ (by first | omega | (simp; done) | (simp; omega)) _ | refine bl_drewN ?_ _ | refine Below.drew ?_ | (refine bl_tr ?_ (by assumption))))⟩ ?_
  rintro X ⟨xi, xl⟩
  have L1 := Lib.hid xl
  have D1 := Lib.hid (And.intro xi (xl.cd (l := [insL]) (sl_oneE xi rfl)))
  obtain ⟨⟨a0, a1, a2, a3, a4, a5, a6, a7⟩, af⟩ := cells8 xl.2.1
  have l0 := xl.lt
  clear xi xl
  go_upto_region 3 with (go_at_call 16; refine (callGr (C1.out _ _ (isCd_one (c := codeL [insL]) (heap_alloc_new _ _) (D1.out.2.below (by (repeat (with_reducible first | exact Below.refl _ _ | (refine bl_set ?_ (by first | omega | (simp; done) | (simp; omega)) _) | refine bl_gr ?_ _ | refine bl_al ?_ _ | refine below_setRow ?_ (by first | omega | (simp; done) | (simp; omega)) _ | refine bl_drewN ?_ _ | refine Below.drew ?_ | (refine bl_tr ?_ (by assumption))))))))).mono ?_; rintro e w' ⟨pp, rfl, rfl⟩)
  refine wpc_world (fun Y => Below X.heap.size X Y) (by (repeat (with_reducible first | exact Below.refl _ _ | (refine bl_set ?_ (by first | omega | (simp; done) | (simp; omega)) _) | refine bl_gr ?_ _ | refine bl_al ?_ _ | refine below_setRow ?_ (by first | omega | (simp; done) | (simp; omega)) _ | refine bl_drewN ?_ _ | refine Below.drew ?_ | (refine bl_tr ?_ (by assumption))))) ?_
  intro Y hY
  have L2 := Lib.hid (L1.out.step hY)
  have I2 := Lib.hid ((hY.block _ (show w.heap.size + 1 < X.heap.size by omega)).trans D1.out.1)
  clear a0 a1 a2 a3 a4 a5 a6 a7 af l0 hY
  obtain ⟨⟨a0, a1, a2, a3, a4, a5, a6, a7⟩, af⟩ := cells8 L2.out.2.1
  have l0 := L2.out.lt
  have l2 : ∀ u, w.heap.size + 1 + 1 < Y.heap.size + u := fun u => Nat.lt_of_lt_of_le l0 (Nat.le_add_right _ _)
  go_upto_region 4 with (at_builtin; refine wpList_appG elem_ins rfl _ _ rfl w.heap.size [insL] [insT] (yv := .slice (some ⟨w.heap.size + 1, 0, none⟩) 1 1) (sv := .slice (some ⟨Y.heap.size, 0, none⟩) 1 1) rfl rfl (own_one ((heap_alloc_old _ _ (by omega)).trans I2.out) rfl (Nat.le_succ _)) (by simp; omega) (sl_oneE (heap_alloc_new _ _) rfl) (fun x _ => one_ins x) (by simp) (by simp) ?_; intro A5 n5 w5 o5 g5; have L5 := Lib.hid (Liv.grown L2.out g5); have O5 := Lib.hid o5; rw [show ([insL] ++ [insT] : List InsD).length = 2 from rfl]; clear o5 g5 a0 a1 a2 a3 a4 a5 a6 a7 af l0 l2; obtain ⟨⟨a0, a1, a2, a3, a4, a5, a6, a7⟩, af⟩ := cells8 L5.out.2.1; have l0 := L5.out.lt)
  refine wpc_world (fun Z => Liv w (.slice A5 2 n5) Z ∧ IsI4 Z (.slice A5 2 n5) [insL, insT]) (Liv.put L5.out O5.out) ?_
  rintro Z ⟨zl, zi⟩
  have LZ := Lib.hid zl
  have DZ := Lib.hid (zl.cd zi)
  clear a0 a1 a2 a3 a4 a5 a6 a7 af l0
  obtain ⟨⟨a0, a1, a2, a3, a4, a5, a6, a7⟩, af⟩ := cells8 zl.2.1
  have l0 := zl.lt
  clear zl zi
  go_wp2_with (go_at_call 16; refine (callGr (C2.out _ _ (isCd_one (c := codeL [insL, insT]) (heap_alloc_new _ _) (DZ.out.below (by (repeat (with_reducible first | exact Below.refl _ _ | (refine bl_set ?_ (by first | omega | (simp; done) | (simp; omega)) _) | refine bl_gr ?_ _ | refine bl_al ?_ _ | refine below_setRow ?_ (by first | omega | (simp; done) | (simp; omega)) _ | refine bl_drewN ?_ _ | refine Below.drew ?_ | (refine bl_tr ?_ (by assumption))))))))).mono ?_; rintro e w' ⟨pp, rfl, rfl⟩)
  go_ret
  exact ⟨by simp, bl_tr LZ.out.2.2 (by (repeat (with_reducible first | exact Below.refl _ _ | (refine bl_set ?_ (by first | omega | (simp; done) | (simp; omega)) _) | refine bl_gr ?_ _ | refine bl_al ?_ _ | refine below_setRow ?_ (by first | omega | (simp; done) | (simp; omega)) _ | refine bl_drewN ?_ _ | refine Below.drew ?_ | (refine bl_tr ?_ (by assumption)))))⟩
end Go.Proofs.Ytcmpgohpncnagaa
