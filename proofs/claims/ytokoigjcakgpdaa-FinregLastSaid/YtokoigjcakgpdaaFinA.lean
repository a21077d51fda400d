/- Cells: the law's bound on a cell. -/
import Derived.Test.YtokoigjcakgpdaaCelN
namespace Go.Proofs.Ytokoigjcakgpdaa
set_option linter.all false
open Go.RowKit Go.Sort Go.Deep

theorem ok_at {l : List Val} (h : ∀ x ∈ l, x.ok) (k : Nat) (hk : k < l.length) : (vAt l k).ok := by
  unfold vAt; rw [List.getElem?_eq_getElem hk]; exact h _ (List.getElem_mem hk)

/-- the answer of small -/
def SmallR (c : CellD) (v : Value) : Prop := ∃ r : Bool, v = .bool r ∧ (r = true → c.sl.length ≤ 100 ∧ c.mo.length ≤ 400)
theorem small_no (c : CellD) : SmallR c (.bool false) := ⟨false, rfl, fun h => Bool.noConfusion h⟩
theorem small_yes (c : CellD) (h : c.sl.length ≤ 100 ∧ c.mo.length ≤ 400) : SmallR c (.bool true) := ⟨true, rfl, fun _ => h⟩

set_option maxRecDepth 100000 in
set_option maxHeartbeats 4000000 in
theorem small_any (sv mv : Value) (c : CellD) (hc : c.ok) (w : World) (h1 : IsV w sv c.sl) (h2 : IsV w mv c.mo) :
    Calls Try.prog 8 #[cellV c.k c.sh c.fl c.ag sv mv] w fun e w' => ∃ v, e = .returned v ∧ SmallR c v ∧ Below w.heap.size w w' := by
  obtain ⟨A1, n1, rfl, _, hm1⟩ := h1.form
  obtain ⟨A2, n2, rfl, _, hm2⟩ := h2.form
  have H1 := Lib.hid h1
  have H2 := Lib.hid h2
  have OK1 := Lib.hid hc.2.2.2.2.1
  have OK2 := Lib.hid hc.2.2.2.2.2
  clear h1 h2 hc
  unfold maxLen at hm1 hm2
  by_cases s1 : 100 < c.sl.length
  · have q1 : (100 : Int) < c.sl.length := by omega
    go_enter Try.func8, Try.ntmps8
    go_wp2
    go_ret
    refine ⟨.bool false, by rfl, small_no c, ?_⟩; (repeat (with_reducible first | exact Below.refl _ _ | (refine bl_set ?_ (by first | omega | (simp; done) | (simp; omega)) _) | refine bl_gr ?_ _ | refine bl_al ?_ _ | refine below_setRow ?_ (by first | omega | (simp; done) | (simp; omega)) _ | refine bl_drewN ?_ _ | refine Below.drew ?_ | (refine bl_tr ?_ (by assumption))))
  have q1 : ¬ (100 : Int) < c.sl.length := by omega
  by_cases s2 : 400 < c.mo.length
  · have q2 : (400 : Int) < c.mo.length := by omega
    go_enter Try.func8, Try.ntmps8
    go_wp2
    go_ret
    refine ⟨.bool false, by rfl, small_no c, ?_⟩; (repeat (with_reducible first | exact Below.refl _ _ | (refine bl_set ?_ (by first | omega | (simp; done) | (simp; omega)) _) | refine bl_gr ?_ _ | refine bl_al ?_ _ | refine below_setRow ?_ (by first | omega | (simp; done) | (simp; omega)) _ | refine bl_drewN ?_ _ | refine Below.drew ?_ | (refine bl_tr ?_ (by assumption))))
  have q2 : ¬ (400 : Int) < c.mo.length := by omega
  have S := Lib.hid (And.intro (show c.sl.length ≤ 100 by omega) (show c.mo.length ≤ 400 by omega))
  go_enter Try.func8, Try.ntmps8
  go_wp2
  clear q1 q2
  go_loopw [3, 4] (fun s i wr => ∃ (k : Nat) (x : Int), k ≤ c.sl.length ∧ i = .int .i64 k ∧ s = .int .i64 x ∧
    wr.heap[w.heap.size]? = some (cellO c.k c.sh c.fl c.ag (.slice A1 c.sl.length n1) (.slice A2 c.mo.length n2)) ∧ Below w.heap.size w wr) (fun _ i _ => c.sl.length - (intOf i).toNat)
  case atStart => exact ⟨0, 0, by omega, rfl, rfl, heap_alloc_new _ _, by (repeat (with_reducible first | exact Below.refl _ _ | (refine bl_set ?_ (by first | omega | (simp; done) | (simp; omega)) _) | refine bl_gr ?_ _ | refine bl_al ?_ _ | refine below_setRow ?_ (by first | omega | (simp; done) | (simp; omega)) _ | refine bl_drewN ?_ _ | refine Below.drew ?_ | (refine bl_tr ?_ (by assumption))))⟩
  case round =>
    obtain ⟨k, x, hk, rfl, rfl, hx, hB⟩ := hrel
    obtain ⟨⟨b0, b1, b2, b3, b4, b5⟩, _⟩ := cells6 hx
    have INV := Lib.hid (And.intro hx hB)
    by_cases hlt : k < c.sl.length
    · have HV := H1.out.below hB
      obtain ⟨b, off, rfl⟩ := isV_addr HV (by omega)
      obtain ⟨hb, c00, c01, c02⟩ := HV.v3 k hlt
      have hs : (vAt c.sl k).s.size ≤ maxLen := (ok_at OK1.out k hlt).2.2
      have ev : c.sl[k] = vAt c.sl k := by unfold vAt; rw [List.getElem?_eq_getElem hlt]; rfl
      have q0 : ¬ (k : Int) < 0 := by omega
      have q1 : (k : Int) < c.sl.length := by omega
      generalize vAt c.sl k = v at *
      unfold maxLen at hs
      clear hx hB HV ev
      go_wp2
      · go_ret
        refine ⟨.bool false, by rfl, small_no c, ?_⟩; exact INV.out.2
      · go_roundw
        case rel => exact ⟨k + 1, _, by omega, by go_num, rfl, INV.out.1, INV.out.2⟩
        case measure => simp [intOf]; omega
    · have q1 : ¬ (k : Int) < c.sl.length := by omega
      clear hx hB
      go_wp2
      clear b0 b1 b2 b3 b4 b5
      obtain ⟨wo, rfl⟩ : ∃ wo : World, wo = wr := ⟨_, rfl⟩
      go_loopw [3, 5] (fun s i wr => ∃ (m : Nat) (y : Int), m ≤ c.mo.length ∧ i = .int .i64 m ∧ s = .int .i64 y ∧
        wr.heap[w.heap.size]? = some (cellO c.k c.sh c.fl c.ag (.slice A1 c.sl.length n1) (.slice A2 c.mo.length n2)) ∧ Below w.heap.size w wr) (fun _ i _ => c.mo.length - (intOf i).toNat)
      case atStart => exact ⟨0, x, by omega, rfl, rfl, INV.out.1, INV.out.2⟩
      case round =>
        clear INV q1 hlt hk
        obtain ⟨m, y, hk, rfl, rfl, hx, hB⟩ := hrel
        obtain ⟨⟨b0, b1, b2, b3, b4, b5⟩, _⟩ := cells6 hx
        have INV := Lib.hid (And.intro hx hB)
        by_cases hlt : m < c.mo.length
        · have HV := H2.out.below hB
          obtain ⟨b, off, rfl⟩ := isV_addr HV (by omega)
          obtain ⟨hb, c00, c01, c02⟩ := HV.v3 m hlt
          have hs : (vAt c.mo m).s.size ≤ maxLen := (ok_at OK2.out m hlt).2.2
          have ev : c.mo[m] = vAt c.mo m := by unfold vAt; rw [List.getElem?_eq_getElem hlt]; rfl
          have q0 : ¬ (m : Int) < 0 := by omega
          have q1 : (m : Int) < c.mo.length := by omega
          generalize vAt c.mo m = v at *
          unfold maxLen at hs
          clear hx hB HV ev
          go_wp2
          · go_ret
            refine ⟨.bool false, by rfl, small_no c, ?_⟩; exact INV.out.2
          · go_roundw
            case rel => exact ⟨m + 1, _, by omega, by go_num, rfl, INV.out.1, INV.out.2⟩
            case measure => simp [intOf]; omega
        · have q1 : ¬ (m : Int) < c.mo.length := by omega
          clear hx hB
          go_wp2
          go_ret
          refine ⟨.bool true, by rfl, small_yes c S.out, ?_⟩; exact INV.out.2
