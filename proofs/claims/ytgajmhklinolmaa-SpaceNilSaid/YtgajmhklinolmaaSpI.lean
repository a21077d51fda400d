/- Walks of the reference: Put, Set. -/
import Derived.Test.YtgajmhklinolmaaSpH
import Derived.Deep.RegionLaw
import Derived.Deep.RegionHeld3
namespace Go.Proofs.Ytgajmhklinolmaa
set_option linter.all false
open Go.RowKit Go.Sort Go.Deep

/-- append of a whole list of cells to an empty row of the call's own -/
theorem wpList_appC {w0 w : World} {ops : Array Oper} {rest : List Oper} {o : Oper} {a : Act} {Q : Exit → Act → World → Prop} (hgd : o.guard = none) (s x : Operand)
    (ho : o.op = .call { callee := .builtin .append, args := #[s, x], argTypes := #[29, 29] }) (g lo : Nat) (l : List CellD) {sv : Value}
    (hs : a.eval s = .slice (some ⟨g, 0, none⟩) 0 0) (hx : a.eval x = sv) (hg : w.heap[g]? = some (.cells #[] 38)) (hlo : lo ≤ g) (hsv : IsC w0 sv l) (hb : Below w0.heap.size w0 w) (hf : l.length ≤ 1048576)
    (hh : ∀ A cap w' rs, rs.length = l.length → (∀ (i : Nat) (r : CellR) (c : CellD), rs[i]? = some r → l[i]? = some c → Holds6 w0 r c) → w'.ownsRow lo 38 6 (.slice A l.length cap) l.length (flat CellR.cs rs) → w.grownBy w' (some g) →
      wpList Try.prog ops Q rest (a.put o.dst (.slice A l.length cap)) w') : wpList Try.prog ops Q (o :: rest) a w := by
  obtain ⟨rs, hsl, hl, hh6⟩ := hsv
  have h : ∀ v' w', w'.ownsRow lo 38 6 v' l.length (flat CellR.cs rs) → w.grownBy w' (some g) → wpList Try.prog ops Q rest (a.put o.dst v') w' := fun v' w' h1 h2 => by
    obtain ⟨A, cap, rfl⟩ := ownsRow_form h1
    exact hh A cap w' rs hl hh6 h1 h2
  obtain ⟨i, hi, hz, hsz, hby⟩ := cell_info
  have hown : w.ownsRow lo 38 6 (.slice (some ⟨g, 0, none⟩) 0 0) 0 [] := ⟨rfl, .inr ⟨g, 0, #[], rfl, hlo, hg, Nat.le_refl _, Nat.zero_le _, rfl, rfl⟩⟩
  have hlt : g < w.heap.size := (Array.getElem?_eq_some_iff.1 hg).1
  have hsl' : SlOf w 6 CellR.cs sv rs := hsl.below hb
  by_cases h0 : rs.length = 0
  · obtain rfl : rs = [] := List.eq_nil_of_length_eq_zero h0
    obtain rfl : l = [] := List.eq_nil_of_length_eq_zero (by simpa using hl.symm)
    obtain ⟨A, c, rfl, _⟩ := hsl.form
    cases A with
    | none =>
      refine wpList_plain hgd fun K hK => ?_
      have hrun : (Builtin.append_ #[29, 29] o.type #[.slice (some ⟨g, 0, none⟩) 0 0, .slice none 0 c]).run Try.prog w = .ok (.slice (some ⟨g, 0, none⟩) 0 0) w := by
        simp [Builtin.append_, run_underlying Try.underlying29, sizeOf, typeInfo, hi, Builtin.lenOf, Builtin.firstCells, storeCells]
      unfold Oper.wp
      simp [execOp, ho, resolve, invoke, builtin, hs, hx, hrun, Result.andThen]
      exact hK _ _ (h _ w hown ⟨rfl, rfl, rfl, Nat.le_refl _, fun _ _ _ => rfl⟩)
    | some ad =>
      refine wpList_append_own w hgd s x _ ho lo 38 i (.agg zcell) 6 80 Try.underlying29 hi hz hsz hby rfl (by omega) _ 0 [] hs hown ad 0 c [] hx rfl (by simp) (by simp) (by omega) (by omega) (by omega) fun v' w' h2 h3 _ => ?_
      exact h v' w' h2 h3
  · obtain ⟨ad, c, rfl, hsrc⟩ := hsl'.src crs_len (by omega)
    have hlen := flat_len crs_len rs
    refine wpList_append_own w hgd s x _ ho lo 38 i (.agg zcell) 6 80 Try.underlying29 hi hz hsz hby rfl (by omega) _ 0 [] hs hown ad rs.length c (flat CellR.cs rs) hx hlen hsrc (IsC.one hl hh6) (by unfold maxLen; omega) (by omega) (by omega) fun v' w' h2 h3 _ => ?_
    rw [Nat.zero_add, List.nil_append, hl] at h2
    exact h v' w' h2 h3

theorem cells2 {w : World} {b : Nat} {T : TypeId} {x y : Value} (h : w.heap[b]? = some (.cells #[x, y] T)) : w.cell? ⟨b, 0, none⟩ = some x ∧ w.cell? ⟨b, 1, none⟩ = some y ∧ w.frozen? ⟨b, 0, none⟩ = false ∧ w.frozen? ⟨b, 1, none⟩ = false :=
  ⟨by rw [cell_of_row w b _ _ _ _ h]; rfl, by rw [cell_of_row w b _ _ _ _ h]; rfl, frozen_of_row w b _ _ _ h, frozen_of_row w b _ _ _ h⟩

set_option maxRecDepth 100000 in
set_option maxHeartbeats 1000000 in
theorem rput_full (room : Int) (lv sv mv : Value) (k sh fl ag : Int) (l : List CellD) (w : World) (h : IsC w lv l) (hi : room ≤ l.length) :
    Calls Try.prog 25 #[spV room lv, cellV k sh fl ag sv mv] w fun e w' => e = .returned (.tuple #[spV room lv, .int .i64 0, .int .i64 5]) ∧ Below w.heap.size w w' := by
  obtain ⟨A, cap, rfl, _, hm⟩ := h.form
  clear h
  go_enter Try.func25, Try.ntmps25
  go_wp2
  refine bodyPost_ret (v := .tuple #[spV room (.slice A l.length cap), .int .i64 0, .int .i64 5]) (by simp [results, Try.results25, go_sem, gr_size]) rfl ⟨rfl, by (repeat (with_reducible first | exact Below.refl _ _ | (refine bl_set ?_ (by first | omega | (simp; done) | (simp; omega)) _) | refine bl_gr ?_ _ | refine bl_al ?_ _ | refine below_setRow ?_ (by first | omega | (simp; done) | (simp; omega)) _ | refine bl_drewN ?_ _ | refine Below.drew ?_ | (refine bl_tr ?_ (by assumption))))⟩

theorem app_3 {w w1 : World} {a b c d : Obj} (h : ((((w.alloc a).alloc b).alloc c).alloc d).grownBy w1 (some (w.heap.size + 1 + 1 + 1))) : w1.heap[w.heap.size]? = some a ∧ w1.heap[w.heap.size + 1]? = some b ∧ w1.heap[w.heap.size + 1 + 1]? = some c ∧ w.heap.size + 3 < w1.heap.size ∧ Below w.heap.size w w1 := by
  have hs : ((((w.alloc a).alloc b).alloc c).alloc d).heap.size = w.heap.size + 4 := by simp
  have h1 := h.size
  refine ⟨(h.block _ (by omega) (by simp only [ne_eq, Option.some.injEq]; omega)).trans (hp_0 _ _ _ _ _), (h.block _ (by omega) (by simp only [ne_eq, Option.some.injEq]; omega)).trans (hp_1 _ _ _ _ _), (h.block _ (by omega) (by simp only [ne_eq, Option.some.injEq]; omega)).trans (hp_2 _ _ _ _ _), by omega, ?_⟩
  have h0 : Below w.heap.size w ((((w.alloc a).alloc b).alloc c).alloc d) := bl_al (bl_al (bl_al (bl_al (Below.refl _ _) _) _) _) _
  exact h0.trans (grownBy_below h (by omega) (by omega))
theorem app_far {w w1 w2 : World} {o : Obj} {row : Option Nat} (h : (w1.drew.alloc o).grownBy w2 row) (hr : ∀ g, row = some g → w.heap.size + 1 + 1 + 1 ≤ g) (hs : w.heap.size + 3 ≤ w1.heap.size) : ∀ k, k < w.heap.size + 3 → w2.heap[k]? = w1.heap[k]? := fun k hk =>
  (h.block k (by simp; omega) (fun e => by have := hr k e.symm; omega)).trans (heap_alloc_old (w := w1.drew) _ (by show k < w1.heap.size; omega))
theorem hp_3' (w : World) (a b c d : Obj) : ((((w.alloc a).alloc b).alloc c).alloc d).heap[w.heap.size + 1 + 1 + 1]? = some d := hp_3 w a b c d

set_option maxRecDepth 100000 in
set_option maxHeartbeats 1000000 in
theorem rput_ok (room : Int) (lv : Value) (A B : Option Addr) (ca cb : Nat) (c : CellD) (l : List CellD) (w : World) (h : IsC w lv l) (hi : l.length < room) (hr : room ≤ 1048576) (h1 : IsV w (.slice A c.sl.length ca) c.sl) (h2 : IsV w (.slice B c.mo.length cb) c.mo) :
    Calls Try.prog 25 #[spV room lv, cellV c.k c.sh c.fl c.ag (.slice A c.sl.length ca) (.slice B c.mo.length cb)] w fun e w' => ∃ lv', e = .returned (.tuple #[spV room lv', .int .i64 l.length, .int .i64 0]) ∧ IsC w' lv' (l ++ [c]) ∧ Below w.heap.size w w' := by
  obtain ⟨D, cap, rfl, hca, hm⟩ := h.form
  have H := Lib.hid h
  have H1 := Lib.hid h1
  have H2 := Lib.hid h2
  have HR := Lib.hid (And.intro hi hr)
  have h0 : ¬ room ≤ l.length := by omega
  clear h h1 h2 hr hi
  go_enter Try.func25, Try.ntmps25
  go_upto_region 4 with (refine wpList_appC (w0 := w) rfl _ _ rfl (w.heap.size + 1 + 1 + 1) (w.heap.size + 1 + 1 + 1) l rfl rfl ?_ ?_ ?_ ?_ ?_ ?_; (next => exact hp_3' _ _ _ _ _); (next => omega); (next => exact H.out); (next => (repeat (with_reducible first | exact Below.refl _ _ | (refine bl_set ?_ (by first | omega | (simp; done) | (simp; omega)) _) | refine bl_gr ?_ _ | refine bl_al ?_ _ | refine below_setRow ?_ (by first | omega | (simp; done) | (simp; omega)) _ | refine bl_drewN ?_ _ | refine Below.drew ?_ | (refine bl_tr ?_ (by assumption))))); (next => have := HR.out; omega); intro A1 n1 w1 rs hl h6 o1 gr1; obtain ⟨q1, q2, q3, q4, q5⟩ := app_3 gr1; obtain ⟨⟨a0, a1, a2, a3, a4, a5⟩, _⟩ := cells6 q2; obtain ⟨b0, b1, _, _⟩ := cells2 q1; obtain ⟨d0, d1, d2, d3⟩ := cells2 q3; have O1 := Lib.hid o1; have L1 := Lib.hid (And.intro hl h6); have Q4 := Lib.hid q4; have Q5 := Lib.hid q5; clear o1 gr1 q1 q2 q3 hl h6 q4 q5)
  have m0 : w.heap.size < w1.heap.size := by have := Q4.out; omega
  have m1 : w.heap.size + 1 < w1.heap.size := by have := Q4.out; omega
  have m2 : w.heap.size + 1 + 1 < w1.heap.size := by have := Q4.out; omega
  have m3 : w.heap.size ≠ w1.heap.size := by omega
  have m4 : w.heap.size + 1 ≠ w1.heap.size := by omega
  have m5 : w.heap.size + 1 + 1 ≠ w1.heap.size := by omega
  obtain ⟨ci, hci, hz, hsz, hby⟩ := cell_info
  have CI := Lib.hid (And.intro hci (And.intro hz (And.intro hsz hby)))
  clear hci hz hsz hby
  go_region_held3 (fun w' : World => w'.cell? ⟨w.heap.size, 0, none⟩ = some (.int .i64 room) ∧ w'.cell? ⟨w.heap.size, 1, none⟩ = some (.slice D l.length cap) ∧ w'.cell? ⟨w.heap.size + 1, 0, none⟩ = some (.int .i64 c.k) ∧ w'.cell? ⟨w.heap.size + 1, 1, none⟩ = some (.int .i64 c.sh) ∧ w'.cell? ⟨w.heap.size + 1, 2, none⟩ = some (.int .i64 c.fl) ∧ w'.cell? ⟨w.heap.size + 1, 3, none⟩ = some (.int .i64 c.ag) ∧ w'.cell? ⟨w.heap.size + 1, 4, none⟩ = some (.slice A c.sl.length ca) ∧ w'.cell? ⟨w.heap.size + 1, 5, none⟩ = some (.slice B c.mo.length cb)) (first | (and_intros <;> assumption) | (and_intros <;> go_simp)) (first
    | (refine step_append_lies _ rfl (.tmp 21) (.tmp 23) 29 rfl 0 38 ci (.agg zcell) 6 80 Try.underlying29 CI.out.1 CI.out.2.1 CI.out.2.2.1 CI.out.2.2.2 rfl (by omega) (.slice A1 l.length n1) l.length (flat CellR.cs rs) (by simp [Act.eval, Act.put]) (ownsRow_low (World.ownsRow.alloc (w := w1.drew) O1.out _) (Nat.zero_le _)) ⟨w1.heap.size, 0, none⟩ 1 1 [.int .i64 c.k, .int .i64 c.sh, .int .i64 c.fl, .int .i64 c.ag, .slice A c.sl.length ca, .slice B c.mo.length cb] (by simp [Act.eval, Act.put]) rfl ?_ ?_ ?_ ?_ ?_ ?_ _ rfl ?_; (next => exact fun j u hu => World.news_of_block (heap_alloc_new w1.drew _) j u hu); (next => intro u hu; simp only [List.mem_cons, List.not_mem_nil, or_false] at hu; rcases hu with rfl | rfl | rfl | rfl | rfl | rfl <;> rfl); (next => omega); (next => have := HR.out; unfold maxLen; omega); (next => have := HR.out; omega); (next => exact Nat.zero_le _); intro g2 n2 w2 hown hgrow hat hlt; have hk := app_far hgrow (fun g hg => (O1.out.lt g hg).1) (by have := Q4.out; omega); have sb0 := (World.cell?_of_block (hk _ (by simp))).trans b0; have sb1 := (World.cell?_of_block (hk _ (by simp))).trans b1; have sa0 := (World.cell?_of_block (hk _ (by simp))).trans a0; have sa1 := (World.cell?_of_block (hk _ (by simp))).trans a1; have sa2 := (World.cell?_of_block (hk _ (by simp))).trans a2; have sa3 := (World.cell?_of_block (hk _ (by simp))).trans a3; have sa4 := (World.cell?_of_block (hk _ (by simp))).trans a4; have sa5 := (World.cell?_of_block (hk _ (by simp))).trans a5; have sd0 := (World.cell?_of_block (hk _ (by simp))).trans d0; have sd1 := (World.cell?_of_block (hk _ (by simp))).trans d1; have sd2 := (World.frozen?_of_block (hk _ (by simp))).trans d2; have sd3 := (World.frozen?_of_block (hk _ (by simp))).trans d3; have GW := Lib.hid hgrow; have OW := Lib.hid hown; have AT := Lib.hid hat; have LT := Lib.hid hlt; clear hown hgrow hat hlt hk))
  rename_i hHeld
  clear hHeld
  have hB : Below w.heap.size w w2 := Q5.out.trans ⟨GW.out.os, GW.out.tape, GW.out.output, by have := GW.out.size; simp at this; omega, fun k hk => app_far (w := w) (w1 := w1) GW.out (fun g hg => (O1.out.lt g hg).1) (by have := Q4.out; omega) k (by omega)⟩
  have hg2 : g2 ≠ w.heap.size + 1 + 1 := by
    have q := Q4.out
    rcases AT.out with h | h
    · have := (O1.out.lt _ h).1
      omega
    · rw [h]
      simp
      omega
  obtain ⟨w3, hw3⟩ : ∃ w3, w3 = (w2.setCell ⟨w.heap.size + 1 + 1, 0, none⟩ (.int .i64 room)).setCell ⟨w.heap.size + 1 + 1, 1, none⟩ (.slice (some ⟨g2, 0, none⟩) (l.length + 1) n2) := ⟨_, rfl⟩
  rw [← hw3]
  have jt : Touch (fun b => b = w.heap.size + 1 + 1) w2 w3 := by rw [hw3]; exact ((Touch.refl _ _).set1 _ _).set1 _ _
  have jb : Below w.heap.size w w3 := by rw [hw3]; exact bl_set (bl_set hB (by simp; omega) _) (by simp; omega) _
  have c0 : w3.cell? ⟨w.heap.size + 1 + 1, 0, none⟩ = some (.int .i64 room) := by rw [hw3]; simp [go_sem, *]
  have c1 : w3.cell? ⟨w.heap.size + 1 + 1, 1, none⟩ = some (.slice (some ⟨g2, 0, none⟩) (l.length + 1) n2) := by rw [hw3]; simp [go_sem, *]
  have jo := ownsRow_touch OW.out jt (fun g hg => by simp [Value.ownBlock] at hg; omega)
  have jc : IsC w3 (.slice (some ⟨g2, 0, none⟩) (l.length + 1) n2) (l ++ [c]) := by
    have hl := L1.out.1
    refine ⟨rs ++ [⟨c.k, c.sh, c.fl, c.ag, .slice A c.sl.length ca, .slice B c.mo.length cb⟩], ?_, by simp [hl], fun i r d hr hd => ?_⟩
    · refine ownsRow_slOf crs_len (base := 0) (e := 38) ?_
      have e1 : (rs ++ [(⟨c.k, c.sh, c.fl, c.ag, .slice A c.sl.length ca, .slice B c.mo.length cb⟩ : CellR)]).length = l.length + 1 := by simp [hl]
      rw [e1]
      simpa [flat] using jo
    · by_cases hi : i < l.length
      · rw [List.getElem?_append_left (by omega)] at hr hd
        exact (L1.out.2 i r d hr hd).below jb
      · have hi' : i = l.length := by
          have := (List.getElem?_eq_some_iff.1 hd).1
          simp at this
          omega
        subst hi'
        rw [List.getElem?_append_right (by omega)] at hr hd
        simp [hl] at hr hd
        subst hr hd
        exact ⟨rfl, rfl, rfl, rfl, H1.out.below jb, H2.out.below jb⟩
  have JC := Lib.hid jc
  have JB := Lib.hid jb
  clear hw3 jt jo jc jb hB hg2
  go_wp2
  refine bodyPost_ret (v := .tuple #[spV room (.slice (some ⟨g2, 0, none⟩) (l.length + 1) n2), .int .i64 l.length, .int .i64 0]) (by simp [results, Try.results25, go_sem, gr_size, c0, c1]) rfl ⟨_, rfl, JC.out, JB.out⟩
end Go.Proofs.Ytgajmhklinolmaa
