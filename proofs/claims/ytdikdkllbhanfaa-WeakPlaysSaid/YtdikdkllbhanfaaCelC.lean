/- The program's iterator over a cell's values. -/
import Derived.Test.YtdikdkllbhanfaaCelB
import Derived.Test.YtdikdkllbhanfaaIt
namespace Go.Proofs.Ytdikdkllbhanfaa
set_option linter.all false
open Go.RowKit Go.Sort Go.Deep Go.Shelf
attribute [local go_sem] Oper.semAt_some

/-- is the value at place i of More held strongly? -/
def holdsB (k : Int) (i : Nat) : Bool := k != 8 && (k != 10 || (i : Int) % 2 == 0)
def moreD (k : Int) (l : List Val) : List (Bool × Val) := l.mapIdx fun i v => (holdsB k i, v)
def elemsD (c : CellD) : List (Bool × Val) := c.sl.map (fun v => (true, v)) ++ moreD c.k c.mo
abbrev El := { x : Bool × Val // x.2.ok }
theorem elemsD_ok {c : CellD} (h : c.ok) : ∀ x ∈ elemsD c, x.2.ok := fun x hx => by
  obtain ⟨_, _, _, _, h5, h6⟩ := h
  rcases List.mem_append.1 hx with h | h
  · obtain ⟨v, hv, rfl⟩ := List.mem_map.1 h
    exact h5 v hv
  · obtain ⟨i, hi, rfl⟩ := List.mem_mapIdx.1 h
    exact h6 _ (List.getElem_mem hi)
def elems (c : CellD) (h : c.ok) : List El := (elemsD c).pmap (fun x h => ⟨x, h⟩) (elemsD_ok h)
theorem elems_val (c : CellD) (h : c.ok) : (elems c h).map Subtype.val = elemsD c := by simp [elems, List.map_pmap]
theorem elems_len (c : CellD) (h : c.ok) : (elems c h).length = c.sl.length + c.mo.length := by simp [elems, elemsD, moreD]
theorem elems_take1 (c : CellD) (h : c.ok) (k : Nat) (hk : k < c.sl.length) (hok : (c.sl[k]).ok) : (elems c h).take (k + 1) = (elems c h).take k ++ [⟨(true, c.sl[k]), hok⟩] := by
  have hl : k < (elems c h).length := by rw [elems_len]; omega
  rw [List.take_succ_eq_append_getElem hl]
  congr 2
  apply Subtype.ext
  have e : (elems c h)[k].1 = ((elems c h).map Subtype.val)[k]'(by simpa using hl) := by simp
  rw [e]
  simp only [elems_val, elemsD]
  rw [List.getElem_append_left (by simpa using hk)]
  simp
theorem elems_take2 (c : CellD) (h : c.ok) (k : Nat) (hk : k < c.mo.length) (hok : (c.mo[k]).ok) : (elems c h).take (c.sl.length + k + 1) = (elems c h).take (c.sl.length + k) ++ [⟨(holdsB c.k k, c.mo[k]), hok⟩] := by
  have hl : c.sl.length + k < (elems c h).length := by rw [elems_len]; omega
  rw [List.take_succ_eq_append_getElem hl]
  congr 2
  apply Subtype.ext
  have e : (elems c h)[c.sl.length + k].1 = ((elems c h).map Subtype.val)[c.sl.length + k]'(by simpa using hl) := by simp
  rw [e]
  simp only [elems_val, elemsD]
  rw [List.getElem_append_right (by simp)]
  simp [moreD]
theorem holdsB_cases (k : Int) (i : Nat) : ((k != 8) = false ∧ holdsB k i = false) ∨ ((k != 8) = true ∧ (k != 10) = true ∧ holdsB k i = true) ∨ ((k != 8) = true ∧ (k != 10) = false ∧ ((i : Int) % 2 == 0) = true ∧ holdsB k i = true) ∨ ((k != 8) = true ∧ (k != 10) = false ∧ ((i : Int) % 2 == 0) = false ∧ holdsB k i = false) := by
  unfold holdsB
  cases k != 8 <;> cases k != 10 <;> cases (i : Int) % 2 == 0 <;> simp
abbrev encEl (x : El) : Array Value := #[.bool x.1.1, x.1.2.agg]

set_option maxRecDepth 100000 in
set_option maxHeartbeats 4000000 in
theorem all1_in (l Bn n₀ : Nat) (c : CellD) (hc : c.ok) (sv mv : Value) (J Jx : List El → World → Prop)
    (Bq : Nat) (hJ : AbidesFrom Bq J) (hJx : AbidesFrom Bq Jx)
    (hY : ∀ pre x W, J pre W → pre.length < (elems c hc).length → YieldAt Fence.wide 7 Try.prog l (encEl x) W fun e W' =>
      (e = .returned (.bool true) ∧ J (pre ++ [x]) W' ∧ KpB n₀ Bn W W') ∨ (e = .returned (.bool false) ∧ Jx (pre ++ [x]) W'))
    (W : World) (hB : W.heap[Bn]? = some (.cells #[.int .i64 c.k, .int .i64 c.sh, .int .i64 c.fl, .int .i64 c.ag, sv, mv] 24)) (hn : n₀ ≤ W.heap.size) (w0 : World) (hw0 : w0.heap.size ≤ n₀) (h0b : Below w0.heap.size w0 W) (h1 : IsV w0 sv c.sl) (h2 : IsV w0 mv c.mo) (h0 : J [] W) :
    CallsIn Fence.wide 8 Try.prog 55 #[.func (.yield l) #[] #[], .pointer (some ⟨Bn, 0, none⟩)] W fun e W' => (∃ v, e = .returned v) ∧
      ((∃ ys, ys = elems c hc ∧ J ys W') ∨ (∃ pre, pre <+: elems c hc ∧ Jx pre W')) := by
  obtain ⟨A1, n1, rfl, _, hm1⟩ := h1.form
  obtain ⟨A2, n2, rfl, _, hm2⟩ := h2.form
  have H1 := Lib.hid h1
  have H2 := Lib.hid h2
  have HJ := Lib.hid hJ
  have HX := Lib.hid hJx
  have HY := Lib.hid hY
  have HB := Lib.hid hB
  have H0 := Lib.hid h0
  have HK := Lib.hid hc
  unfold maxLen at hm1 hm2
  obtain ⟨⟨b0, b1, b2, b3, b4, b5⟩, _⟩ := cells6 hB
  clear h1 h2 hJ hJx hY hB h0
  refine callsIn_of_wp Try.func55 rfl trivial ?_ rfl
  simp only [Try.ntmps55, List.size_toArray, List.length_cons, List.length_nil, Nat.reduceAdd, Nat.reduceSub, Array.replicate_succ, Array.replicate_zero, List.push_toArray, List.append_toArray, List.nil_append, List.cons_append]
  gi_wp2
  clear b0 b1 b2 b3 b4 b5
  gi_loopw [11] (fun i wr => ∃ k : Nat, k ≤ c.sl.length ∧ i = .int .i64 k ∧ J ((elems c hc).take k) wr ∧ KpB n₀ Bn W wr) (fun i _ => c.sl.length - (intOf i).toNat)
  case atStart => exact ⟨0, by omega, rfl, H0.out, KpB.refl _ _ _⟩
  case round =>
    obtain ⟨k, hk, rfl, hj, hB⟩ := hrel
    have hsz := hB.1.size
    have HBW := Lib.hid hB
    by_cases hlt : k < c.sl.length
    · have hb0 := h0b.trans (hB.1.mono hw0)
      obtain ⟨b, o, cap, e, _, hb, hx⟩ := (H1.out.below hb0).at_ (by omega)
      simp only [Value.slice.injEq, true_and] at e
      obtain ⟨rfl, rfl⟩ := e
      have hok : (c.sl[k]).ok := HK.out.2.2.2.2.1 _ (List.getElem_mem hlt)
      have ET := Lib.hid (elems_take1 c hc k hlt hok)
      have EX := List.getElem?_eq_getElem hlt
      generalize c.sl[k] = v at *
      have c0 : wr.cell? ⟨b, o + k * 3, none⟩ = some (.int .i64 v.k) := hx k v EX 0 _ rfl
      have c1 : wr.cell? ⟨b, o + k * 3 + 1, none⟩ = some (.int .i64 v.n) := hx k v EX 1 _ rfl
      have c2 : wr.cell? ⟨b, o + k * 3 + 2, none⟩ = some (.string v.s) := hx k v EX 2 _ rfl
      have h0 : ¬ (k : Int) < 0 := by omega
      have hj' : J ((elems c hc).take k) (wr.alloc (.cells #[.int .i64 v.k, .int .i64 v.n, .string v.s] 34)) := HJ.out _ _ _ none hj (World.grownBy_alloc _ _ none) (fun r e => by cases e)
      obtain ⟨fn, tmps, assign, body, hy, hR⟩ := HY.out _ ⟨(true, v), hok⟩ _ hj' (by rw [elems_len, List.length_take]; omega)
      have HR := Lib.hid hR
      change (Instr.yield l #[.bool true, .agg #[.int .i64 v.k, .int .i64 v.n, .string v.s]]).run Try.prog _ = _ at hy
      clear hx EX hj hj' hR hB hb0
      gi_wp2
      refine HR.out.mono ?_
      rintro e W3 (⟨rfl, hJ3, hk3⟩ | ⟨rfl, hJx3⟩)
      · have J3 := Lib.hid (And.intro hJ3 (HBW.out.trans ((KpB.alloc (Nat.le_trans hn hsz) (Nat.lt_of_lt_of_le (Array.getElem?_eq_some_iff.1 HB.out).1 hsz) _).trans hk3)))
        clear hJ3 hk3
        gi_wp2
        go_roundw
        case rel => exact ⟨k + 1, by omega, by go_num, by rw [ET.out]; exact J3.out.1, J3.out.2⟩
        case measure => simp [intOf]; omega
      · have J3 := Lib.hid hJx3
        clear hJx3
        gi_wp2
        refine bodyPost_ret (results_none rfl _ _ _) rfl ?_
        refine ⟨⟨_, rfl⟩, .inr ⟨_, ?_, J3.out⟩⟩
        rw [← ET.out]
        exact List.take_prefix _ _
    · obtain ⟨⟨b0, b1, b2, b3, b4, b5⟩, _⟩ := cells6 (hB.2.trans HB.out)
      have hkl : k = c.sl.length := by omega
      have JE := Lib.hid hj
      have hle : ¬ (k : Int) < c.sl.length := by omega
      have HKL := Lib.hid hkl
      clear hj hkl hB
      gi_wp2
      clear b0 b1 b2 b3 b4 b5
      obtain ⟨wo, rfl⟩ : ∃ wo : World, wo = wr := ⟨_, rfl⟩
      gi_loopw [23] (fun i w2 => ∃ m : Nat, m ≤ c.mo.length ∧ i = .int .i64 m ∧ J ((elems c hc).take (c.sl.length + m)) w2 ∧ KpB n₀ Bn W w2) (fun i _ => c.mo.length - (intOf i).toNat)
      case atStart => exact ⟨0, by omega, rfl, by have := JE.out; rw [HKL.out] at this; exact this, HBW.out⟩
      case round =>
        clear HBW JE HKL hsz hle hlt hk
        obtain ⟨m, hm, rfl, hj, hB⟩ := hrel
        have hsz := hB.1.size
        have HBW := Lib.hid hB
        by_cases hlt : m < c.mo.length
        · have hb0 := h0b.trans (hB.1.mono hw0)
          obtain ⟨b, o, cap, e, _, hb, hx⟩ := (H2.out.below hb0).at_ (by omega)
          simp only [Value.slice.injEq, true_and] at e
          obtain ⟨rfl, rfl⟩ := e
          have hok : (c.mo[m]).ok := HK.out.2.2.2.2.2 _ (List.getElem_mem hlt)
          have ET := Lib.hid (elems_take2 c hc m hlt hok)
          have EX := List.getElem?_eq_getElem hlt
          generalize c.mo[m] = v at *
          have c0 : wr.cell? ⟨b, o + m * 3, none⟩ = some (.int .i64 v.k) := hx m v EX 0 _ rfl
          have c1 : wr.cell? ⟨b, o + m * 3 + 1, none⟩ = some (.int .i64 v.n) := hx m v EX 1 _ rfl
          have c2 : wr.cell? ⟨b, o + m * 3 + 2, none⟩ = some (.string v.s) := hx m v EX 2 _ rfl
          obtain ⟨⟨b0, b1, b2, b3, b4, b5⟩, _⟩ := cells6 (hB.2.trans HB.out)
          have nl : Bn < wr.heap.size := Nat.lt_of_lt_of_le (Array.getElem?_eq_some_iff.1 HB.out).1 hsz
          have nb : Bn ≠ wr.heap.size := by omega
          have h0 : ¬ (m : Int) < 0 := by omega
          have hj' : J ((elems c hc).take (c.sl.length + m)) (wr.alloc (.cells #[.int .i64 v.k, .int .i64 v.n, .string v.s] 34)) := HJ.out _ _ _ none hj (World.grownBy_alloc _ _ none) (fun r e => by cases e)
          obtain ⟨fn, tmps, assign, body, hy, hR⟩ := HY.out _ ⟨(holdsB c.k m, v), hok⟩ _ hj' (by rw [elems_len, List.length_take, elems_len]; omega)
          have HR := Lib.hid hR
          change (Instr.yield l #[.bool (holdsB c.k m), .agg #[.int .i64 v.k, .int .i64 v.n, .string v.s]]).run Try.prog _ = _ at hy
          clear hx EX hj hj' hR hB hb0
          rcases holdsB_cases c.k m with ⟨h8, hb'⟩ | ⟨h8, h10, hb'⟩ | ⟨h8, h10, he, hb'⟩ | ⟨h8, h10, he, hb'⟩
          all_goals
            rw [hb'] at hy
            have HQ := Lib.hid hb'
            clear hb'
            gi_wp2
            refine HR.out.mono ?_
            rintro e W3 (⟨rfl, hJ3, hk3⟩ | ⟨rfl, hJx3⟩)
            · have J3 := Lib.hid (And.intro hJ3 (HBW.out.trans ((KpB.alloc (Nat.le_trans hn hsz) (Nat.lt_of_lt_of_le (Array.getElem?_eq_some_iff.1 HB.out).1 hsz) _).trans hk3)))
              clear hJ3 hk3
              gi_wp2
              go_roundw
              case rel => exact ⟨m + 1, by omega, by go_num, by have := J3.out.1; rw [← ET.out] at this; exact this, J3.out.2⟩
              case measure => simp [intOf]; omega
            · have J3 := Lib.hid hJx3
              clear hJx3
              gi_wp2
              refine bodyPost_ret (results_none rfl _ _ _) rfl ?_
              refine ⟨⟨_, rfl⟩, .inr ⟨_, ?_, J3.out⟩⟩
              rw [← ET.out]
              exact List.take_prefix _ _
        · have hml : m = c.mo.length := by omega
          have hle : ¬ (m : Int) < c.mo.length := by omega
          have JE := Lib.hid (And.intro hj hml)
          clear hj hml hB
          gi_wp2
          go_end0
          refine ⟨⟨_, rfl⟩, .inl ?_⟩
          try refine ⟨_, rfl, ?_⟩
          have := JE.out.1
          rwa [JE.out.2, List.take_of_length_le (by rw [elems_len]; omega)] at this
end Go.Proofs.Ytdikdkllbhanfaa
