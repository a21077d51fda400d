/- Cells: Right, by the program. -/
import Derived.Test.YtdikdkllbhanfaaCelK
import Derived.Test.YtdikdkllbhanfaaCelD
namespace Go.Proofs.Ytdikdkllbhanfaa
set_option linter.all false
open Go.RowKit Go.Sort Go.Deep Go.Shelf
attribute [local go_sem] Oper.semAt_some

def headB (c : CellD) : Bool := decide (1 ≤ c.k ∧ c.k ≤ 11 ∧ 0 ≤ c.sh ∧ 0 ≤ c.fl ∧ c.fl ≤ 63 ∧ (c.ag = 0 ∨ c.ag = 1))
def rightB (c : CellD) : Bool := headB c && ((c.sl.all mayB && c.mo.all mayB) && (slotsB c && moreB c.k c.mo))
theorem head_cases (c : CellD) : headB c = true ∨ c.k < 1 ∨ (¬ c.k < 1 ∧ 11 < c.k) ∨ (¬ c.k < 1 ∧ ¬ 11 < c.k ∧ c.sh < 0) ∨ (¬ c.k < 1 ∧ ¬ 11 < c.k ∧ ¬ c.sh < 0 ∧ c.fl < 0) ∨ (¬ c.k < 1 ∧ ¬ 11 < c.k ∧ ¬ c.sh < 0 ∧ ¬ c.fl < 0 ∧ 63 < c.fl) ∨ (¬ c.k < 1 ∧ ¬ 11 < c.k ∧ ¬ c.sh < 0 ∧ ¬ c.fl < 0 ∧ ¬ 63 < c.fl ∧ c.ag ≠ 0 ∧ c.ag ≠ 1) := by
  unfold headB
  rw [decide_eq_true_iff]
  omega
theorem rightB_head {c : CellD} (h : headB c = false) : rightB c = false := by simp [rightB, h]
theorem headB_false {c : CellD} (h : ¬ (1 ≤ c.k ∧ c.k ≤ 11 ∧ 0 ≤ c.sh ∧ 0 ≤ c.fl ∧ c.fl ≤ 63 ∧ (c.ag = 0 ∨ c.ag = 1))) : headB c = false := decide_eq_false h

theorem moreD_all (k : Int) (p : Val → Bool) (l : List Val) : (moreD k l).all (fun x => p x.2) = l.all p := by
  rw [Bool.eq_iff_iff, List.all_eq_true, List.all_eq_true]
  constructor
  · intro h v hv
    obtain ⟨i, hi, rfl⟩ := List.getElem_of_mem hv
    exact h (holdsB k i, l[i]) (List.mem_mapIdx.2 ⟨i, hi, rfl⟩)
  · intro h x hx
    obtain ⟨i, hi, rfl⟩ := List.mem_mapIdx.1 hx
    exact h _ (List.getElem_mem hi)
theorem elemsD_all (c : CellD) (p : Val → Bool) : (elemsD c).all (fun x => p x.2) = (c.sl.all p && c.mo.all p) := by
  unfold elemsD
  rw [List.all_append, moreD_all, List.all_map]
  rfl

set_option maxRecDepth 100000 in
set_option maxHeartbeats 4000000 in
theorem right_any (sv mv : Value) (c : CellD) (hc : c.ok) (w : World) (h1 : IsV w sv c.sl) (h2 : IsV w mv c.mo) :
    Calls Try.prog 43 #[cellV c.k c.sh c.fl c.ag sv mv] w fun e w' => e = .returned (.bool (rightB c)) ∧ Below w.heap.size w w' := by
  obtain ⟨A1, n1, rfl, _, hm1⟩ := h1.form
  obtain ⟨A2, n2, rfl, _, hm2⟩ := h2.form
  have H1 := Lib.hid h1
  have H2 := Lib.hid h2
  clear h1 h2
  refine callsIn_wide.1 (callsIn_of_wp_marks (n := 9) Try.func43 rfl trivial ?_ rfl)
  refine wpIn_wide.2 ?_
  simp only [Try.ntmps43, List.size_toArray, List.length_cons, List.length_nil, Nat.reduceAdd, Nat.reduceSub, Array.replicate_succ, Array.replicate_zero, List.push_toArray, List.append_toArray, List.nil_append, List.cons_append]
  go_upto_region 1 with fail
  go_cut [37] from 5 to 37 (fun s w' => s = .bool (!headB c) ∧ w' = (w.alloc (cellO c.k c.sh c.fl c.ag (.slice A1 c.sl.length n1) (.slice A2 c.mo.length n2))).alloc (.cells #[.bool false] 4))
  case first =>
    rcases head_cases c with hh | hh | ⟨q1, hh⟩ | ⟨q1, q2, hh⟩ | ⟨q1, q2, q3, hh⟩ | ⟨q1, q2, q3, q4, hh⟩ | ⟨q1, q2, q3, q4, q5, hh, hh2⟩
    case inr.inr.inr.inr.inr.inr =>
      have b1 : (c.ag != 0) = true := bne_iff_ne.2 hh
      have b2 : (c.ag != 1) = true := bne_iff_ne.2 hh2
      have HR := Lib.hid (headB_false (c := c) (by omega))
      clear hh hh2
      go_wp2
      go_meet
      exact ⟨by rw [HR.out]; rfl, rfl⟩
    case inl =>
      have hp := of_decide_eq_true hh
      have p1 : ¬ c.k < 1 := by omega
      have p2 : ¬ 11 < c.k := by omega
      have p3 : ¬ c.sh < 0 := by omega
      have p4 : ¬ c.fl < 0 := by omega
      have p5 : ¬ 63 < c.fl := by omega
      have HH := Lib.hid hh
      have hcy : (c.ag != 0) = false ∨ ((c.ag != 0) = true ∧ (c.ag != 1) = false) := by
        by_cases h : c.ag = 0
        · exact .inl (by simp [h])
        · exact .inr ⟨bne_iff_ne.2 h, by have : c.ag = 1 := by omega
                                         simp [this]⟩
      clear hh hp
      rcases hcy with b1 | ⟨b1, b2⟩
      all_goals go_wp2
      all_goals go_meet
      all_goals exact ⟨by rw [HH.out]; rfl, rfl⟩
    all_goals
      have HR := Lib.hid (headB_false (c := c) (by omega))
      go_wp2
      go_meet
      exact ⟨by rw [HR.out]; rfl, rfl⟩
  case rest =>
    obtain ⟨rfl, rfl⟩ := hcut
    cases hh : headB c
    · have HR := Lib.hid (rightB_head hh)
      clear hh
      go_wp2
      refine marks_ret0 (v := .bool false) (by simp [results, Try.results43, go_sem]) rfl ⟨ret_bool HR.out.symm, by (repeat (with_reducible first | exact Below.refl _ _ | (refine bl_set ?_ (by first | omega | (simp; done) | (simp; omega)) _) | refine bl_gr ?_ _ | refine bl_al ?_ _ | refine below_setRow ?_ (by first | omega | (simp; done) | (simp; omega)) _ | refine bl_drewN ?_ _ | refine Below.drew ?_ | (refine bl_tr ?_ (by assumption))))⟩
    · have HH := Lib.hid hh
      clear hh
      go_wp2_with (go_at_call 51; refine (all_any _ _ _ _ _ _ _ _ _ _ _).mono ?_; rintro e w1 ⟨rfl, hw1⟩; have W1 := Lib.hid hw1; clear hw1)
      obtain ⟨hb0, hb1, hb2, hsz, hB0⟩ : w1.heap[w.heap.size]? = some (cellO c.k c.sh c.fl c.ag (.slice A1 c.sl.length n1) (.slice A2 c.mo.length n2)) ∧ w1.heap[w.heap.size + 1]? = some (.cells #[.bool false] 4) ∧
          w1.heap[w.heap.size + 1 + 1]? = some (cellO c.k c.sh c.fl c.ag (.slice A1 c.sl.length n1) (.slice A2 c.mo.length n2)) ∧ w1.heap.size = w.heap.size + 3 ∧ Below w.heap.size w w1 := by
        rw [W1.out]
        exact ⟨hq_0 _ _ _ _, hq_1 _ _ _ _, hq_2 _ _ _ _, by simp, by (repeat (with_reducible first | exact Below.refl _ _ | (refine bl_set ?_ (by first | omega | (simp; done) | (simp; omega)) _) | refine bl_gr ?_ _ | refine bl_al ?_ _ | refine below_setRow ?_ (by first | omega | (simp; done) | (simp; omega)) _ | refine bl_drewN ?_ _ | refine Below.drew ?_ | (refine bl_tr ?_ (by assumption))))⟩
      have hs1 := Nat.le_of_eq hsz
      have hs2 := Nat.le_of_eq hsz.symm
      have hlB : w.heap.size + 1 + 1 < w1.heap.size := by omega
      clear W1 hsz
      refine (wpIn_wide (n := 9)).1 ?_
      refine wpIn_rangeFunc_ownH rfl (by omega) (gf := 55) (lb := #[.pointer (some ⟨w.heap.size + 1 + 1, 0, none⟩)]) rfl trivial (enters_of Try.func55 (by kernel_rfl) rfl)
        (all_stops c hc _ _ _ w w1 hB0 hb2 H1.out H2.out) KpB.trans (KpB.put (by omega) hlB) (Below.refl _ _) (fun _ => rfl)
        (fun pre W => (∀ x ∈ pre, mayB x.1.2 = true) ∧ W.heap[w.heap.size]? = some (cellO c.k c.sh c.fl c.ag (.slice A1 c.sl.length n1) (.slice A2 c.mo.length n2)) ∧ W.heap[w.heap.size + 1]? = some (.cells #[.bool false] 4) ∧ Below w.heap.size w W ∧ w1.heap.size ≤ W.heap.size)
        (fun c' pre W => c' = .ret ∧ (∃ x ∈ pre, mayB x.1.2 = false) ∧ W.heap[w.heap.size + 1]? = some (.cells #[.bool false] 4) ∧ Below w.heap.size w W)
        (ownFrom_of fun s W W' ⟨ha, hh, hr, hB, hz⟩ hs => ⟨ha, hs.heap hh, hs.heap hr, hs.below (by omega) hB (Nat.le_refl _), Nat.le_trans hz hs.size⟩)
        (fun c => ownFrom_of fun s W W' ⟨ha, he, hr, hB⟩ hs => ⟨ha, he, hs.heap hr, hs.below (by omega) hB (Nat.le_refl _)⟩)
        ⟨by simp, hb0, hb1, hB0, Nat.le_refl _⟩
        (fun x a' W => ∃ Bx, w1.heap.size ≤ Bx ∧ W.heap[Bx]? = some (.cells #[.int .i64 x.1.2.k, .int .i64 x.1.2.n, .string x.1.2.s] 34) ∧
          a' = { tmps := #[cellV c.k c.sh c.fl c.ag (.slice A1 c.sl.length n1) (.slice A2 c.mo.length n2), .pointer (some ⟨w.heap.size, 0, none⟩), .pointer (some ⟨w.heap.size + 1, 0, none⟩), undef, .pointer (some ⟨Bx, 0, none⟩), u5, u6, u7, u8, u9, u10, u11, u12, u13, u14, u15, u16, u17, u18, u19, u20, u21, u22, u23, u24, u25, u26, u27, u28, u29, u30, u31, u32, u33, u34, u35, u36, .bool false,
            cellV c.k c.sh c.fl c.ag (.slice A1 c.sl.length n1) (.slice A2 c.mo.length n2), .func (.func 55) #[] #[.pointer (some ⟨w.heap.size + 1 + 1, 0, none⟩)], .bool x.1.1, x.1.2.agg, undef, undef, undef, undef, undef, undef, undef, undef, undef, undef, undef, undef], defers := [] })
        (fun x a' => ownFrom_of fun _ W W' ⟨Bx, h1, h2, h3⟩ hs => ⟨Bx, h1, hs.heap h2, h3⟩) ?assign ?body ?done ?stop
      case assign =>
        rintro l pre x W K ⟨ha, hh, hr, hB, hz⟩ hK
        gi_wp2
        refine hK _ _ ((KeepsOthers.alloc _ _).from _) (KpB.alloc hB.size (by omega) _) ⟨ha, (heap_alloc_old _ _ (Array.getElem?_eq_some_iff.1 hh).1).trans hh, (heap_alloc_old _ _ (Array.getElem?_eq_some_iff.1 hr).1).trans hr, hB.alloc hB.size _, by simp; omega⟩ ⟨W.heap.size, hz, heap_alloc_new _ _, rfl⟩
      case body =>
        rintro l pre ⟨⟨b, u⟩, hok⟩ a' W hl hr ⟨ha, hh, hr0, hB, hz⟩ ⟨Bx, hBx, hx, rfl⟩ hlt
        obtain ⟨x0, x1, x2⟩ := cells3 hx
        obtain ⟨z0, z1⟩ := cells1 hr0
        have lx := (Array.getElem?_eq_some_iff.1 hx).1
        have nh : w.heap.size < W.heap.size := by omega
        have no : w.heap.size + 1 < W.heap.size := by omega
        have nn : w.heap.size + 1 + 1 < W.heap.size := by omega
        have INV := Lib.hid (And.intro ha (And.intro hh (And.intro hr0 (And.intro hB hz))))
        clear ha hh hr0 hB hx hr hl
        cases hm : mayB u
        · have MC := Lib.hid (fun W1 => by have := may_any u W1 hok.2.2; rw [hm] at this; exact this : ∀ W1, Calls Try.prog 52 #[u.agg] W1 fun e w' => e = .returned (.bool false) ∧ Below W1.heap.size W1 w')
          have HM := Lib.hid hm
          clear hm
          gi_wp2_with (refine ⟨trivial, ?_⟩; gi_at_call 52; refine (calls_wide l (callGr (MC.out _))).mono ?_; rintro e w' ⟨pp, rfl, rfl⟩)
          have R := ret_touch_gr INV.out.2.2.2.1 INV.out.2.2.1 (by omega) w1.heap.size (.bool false) pp
          exact ⟨R.1, rfl, ⟨_, List.mem_append_right _ (List.mem_singleton_self _), HM.out⟩, R.2.1, R.2.2⟩
        · have MC := Lib.hid (fun W1 => by have := may_any u W1 hok.2.2; rw [hm] at this; exact this : ∀ W1, Calls Try.prog 52 #[u.agg] W1 fun e w' => e = .returned (.bool true) ∧ Below W1.heap.size W1 w')
          have HM := Lib.hid hm
          clear hm
          gi_wp2_with (refine ⟨trivial, ?_⟩; gi_at_call 52; refine (calls_wide l (callGr (MC.out _))).mono ?_; rintro e w' ⟨pp, rfl, rfl⟩)
          have tg : Touch (fun _ => False) W (gr W pp) := Touch.of_below (below_gr W pp)
          exact ⟨keeps_gr _ _ _, KpB.touch tg INV.out.2.2.2.1.size (fun _ h => h.elim) nn, fun x hx => by
            rcases List.mem_append.1 hx with hx | hx
            · exact INV.out.1 x hx
            · rw [List.mem_singleton.1 hx]; exact HM.out, (tg.block _ nh (fun h => h)).trans INV.out.2.1, (tg.block _ no (fun h => h)).trans INV.out.2.2.1, bl_gr' INV.out.2.2.2.1 pp, by rw [gr_size]; have := INV.out.2.2.2.2; omega⟩
      case done =>
        rintro D ys W hD rfl ⟨ha, hh, hr, hB, hz⟩ hK
        have EA := Lib.hid (show rightB c = (slotsB c && moreB c.k c.mo) by
          have e1 : (elemsD c).all (fun x => mayB x.2) = true := by
            rw [← elems_val c hc, List.all_map, List.all_eq_true]
            exact ha
          have e2 : (c.sl.all mayB && c.mo.all mayB) = true := by rw [← elemsD_all, e1]
          rw [rightB, HH.out, e2]
          simp)
        obtain ⟨⟨b0, b1, b2, b3, b4, b5⟩, _⟩ := cells6 hh
        obtain ⟨z0, z1⟩ := cells1 hr
        have nh : w.heap.size < W.heap.size := by omega
        have no : w.heap.size + 1 < W.heap.size := by omega
        have INV := Lib.hid (And.intro hr (And.intro hB (And.intro hD hK)))
        have V1 := Lib.hid (H1.out.below hB)
        have V2 := Lib.hid (H2.out.below hB)
        clear ha hh hr hB hz hD hK
        go_wp2_with (first | (go_at_call 53; refine (callGr (slotsRight_any _ _ c _ (V1.out.below (by (repeat (with_reducible first | exact Below.refl _ _ | (refine bl_set ?_ (by first | omega | (simp; done) | (simp; omega)) _) | refine bl_gr ?_ _ | refine bl_al ?_ _ | refine below_setRow ?_ (by first | omega | (simp; done) | (simp; omega)) _ | refine bl_drewN ?_ _ | refine Below.drew ?_ | (refine bl_tr ?_ (by assumption)))))) (V2.out.below (by (repeat (with_reducible first | exact Below.refl _ _ | (refine bl_set ?_ (by first | omega | (simp; done) | (simp; omega)) _) | refine bl_gr ?_ _ | refine bl_al ?_ _ | refine below_setRow ?_ (by first | omega | (simp; done) | (simp; omega)) _ | refine bl_drewN ?_ _ | refine Below.drew ?_ | (refine bl_tr ?_ (by assumption)))))))).mono ?_; rintro e w' ⟨pp, rfl, rfl⟩) | (go_at_call 54; refine (callGr (moreRight_any _ _ c.mo _ (V2.out.below (by (repeat (with_reducible first | exact Below.refl _ _ | (refine bl_set ?_ (by first | omega | (simp; done) | (simp; omega)) _) | refine bl_gr ?_ _ | refine bl_al ?_ _ | refine below_setRow ?_ (by first | omega | (simp; done) | (simp; omega)) _ | refine bl_drewN ?_ _ | refine Below.drew ?_ | (refine bl_tr ?_ (by assumption)))))))).mono ?_; rintro e w' ⟨pp, rfl, rfl⟩))
        · have hs : slotsB c = true := by assumption
          have R := fun q => ret_touch_gr INV.out.2.1 INV.out.1 (by omega) w1.heap.size (.bool (moreB c.k c.mo)) q
          have h9 := fun q => (heap_put (.deferred none) (show w.heap.size + 1 ≠ D by have := INV.out.2.2.1; omega)).trans (R q).2.1
          have q0 := fun q => (cells1 (h9 q)).1
          refine marks_ret1 (v := .bool (moreB c.k c.mo)) ((R _).1.same D _ INV.out.2.2.1 INV.out.2.2.2 rfl) ?_ rfl ⟨ret_bool (by rw [EA.out, hs]; simp), below_put (R _).2.2 (by have := INV.out.2.2.1; omega) _⟩
          simp [results, Try.results43, go_sem, q0]
        · have hs : slotsB c = false := by first | assumption | exact Bool.eq_false_iff.2 (by assumption)
          have R := fun q => ret_touch_gr INV.out.2.1 INV.out.1 (by omega) w1.heap.size (.bool false) q
          have h9 := fun q => (heap_put (.deferred none) (show w.heap.size + 1 ≠ D by have := INV.out.2.2.1; omega)).trans (R q).2.1
          have q0 := fun q => (cells1 (h9 q)).1
          refine marks_ret1 (v := .bool false) ((R _).1.same D _ INV.out.2.2.1 INV.out.2.2.2 rfl) ?_ rfl ⟨ret_bool (by rw [EA.out, hs]; simp), below_put (R _).2.2 (by have := INV.out.2.2.1; omega) _⟩
          simp [results, Try.results43, go_sem, q0]
      case stop =>
        rintro D c' pre W hD hpre ⟨rfl, he, hr, hB⟩ hK
        have EA := Lib.hid (show rightB c = false by
          obtain ⟨x, hx, hxx⟩ := he
          have hx' : x.1 ∈ elemsD c := by rw [← elems_val c hc]; exact List.mem_map_of_mem (hpre.subset hx)
          have e1 : (c.sl.all mayB && c.mo.all mayB) = false := by
            rw [Bool.and_eq_false_iff]
            rcases List.mem_append.1 hx' with h | h
            · obtain ⟨v, hv, e⟩ := List.mem_map.1 h
              exact .inl (List.all_eq_false.2 ⟨v, hv, by rw [← e] at hxx; simpa using hxx⟩)
            · obtain ⟨i, hi, e⟩ := List.mem_mapIdx.1 h
              exact .inr (List.all_eq_false.2 ⟨_, List.getElem_mem hi, by rw [← e] at hxx; simpa using hxx⟩)
          simp [rightB, e1])
        have HD := Lib.hid (And.intro hD (And.intro hK (And.intro hr hB)))
        clear he hr hB hD hK
        gi_wp2
        have h9 := (heap_put (.deferred none) (show w.heap.size + 1 ≠ D by have := HD.out.1; omega)).trans HD.out.2.2.1
        obtain ⟨q0, _⟩ := cells1 h9
        refine marks_ret1 (v := .bool false) HD.out.2.1 ?_ rfl ⟨ret_bool EA.out.symm, below_put HD.out.2.2.2 (by have := HD.out.1; omega) _⟩
        simp [results, Try.results43, go_sem, q0]
end Go.Proofs.Ytdikdkllbhanfaa
