/- The reference's Put and Set, with what the new row lies in. -/
import Derived.Test.YtgajmhklinolmaaSpW
import Derived.Deep.RegionHeld3
namespace Go.Proofs.Ytgajmhklinolmaa
set_option linter.all false
open Go.RowKit Go.Sort Go.Deep

/-- what is known of a cell as it stands and of the cell that it is -/
abbrev KC := CellR → CellD → Prop
def KOne (K : KC) : Prop := ∀ r c, K r c → (∃ A n m, r.sv = .slice A n m) ∧ ∃ A n m, r.mv = .slice A n m
/-- a slice of cells of which K holds -/
def RowK (K : KC) (w : World) (v : Value) (l : List CellD) : Prop := ∃ rs : List CellR, SlOf w 6 CellR.cs v rs ∧ rs.length = l.length ∧ ∀ (i : Nat) (r : CellR) (c : CellD), rs[i]? = some r → l[i]? = some c → K r c
theorem RowK.below {K : KC} {w w' : World} {v : Value} {l : List CellD} (h : RowK K w v l) (hb : Below w.heap.size w w') : RowK K w' v l := by
  obtain ⟨rs, h1, h2, h3⟩ := h
  exact ⟨rs, h1.below hb, h2, h3⟩
theorem RowK.form {K : KC} {w : World} {v : Value} {l : List CellD} (h : RowK K w v l) : ∃ A cap, v = .slice A l.length cap ∧ l.length ≤ cap ∧ l.length ≤ maxLen := by
  obtain ⟨rs, hs, hl, _⟩ := h
  obtain ⟨A, cap, e, h1, h2⟩ := hs.form
  exact ⟨A, cap, by rw [e, hl], by omega, by omega⟩
theorem RowK.nil_ {K : KC} {w : World} : RowK K w (.slice none 0 0) [] := ⟨[], .nil_, rfl, by simp⟩
theorem RowK.isC {w0 w : World} {v : Value} {l : List CellD} (h : RowK (Holds6 w0) w v l) (hb : Below w0.heap.size w0 w) : IsC w v l := by
  obtain ⟨rs, h1, h2, h3⟩ := h
  exact ⟨rs, h1, h2, fun i r c hr hc => (h3 i r c hr hc).below hb⟩
theorem kone_holds (w : World) : KOne (Holds6 w) := fun r c h => by
  obtain ⟨_, _, _, _, e5, e6⟩ := h
  obtain ⟨A, n, e5, _⟩ := e5.form
  obtain ⟨B, m, e6, _⟩ := e6.form
  exact ⟨⟨_, _, _, e5⟩, ⟨_, _, _, e6⟩⟩
theorem one_K {K : KC} (hK : KOne K) {rs : List CellR} {l : List CellD} (hl : rs.length = l.length) (h : ∀ (i : Nat) (r : CellR) (c : CellD), rs[i]? = some r → l[i]? = some c → K r c) : ∀ u ∈ flat CellR.cs rs, u.oneCell' = true := by
  intro u hu
  obtain ⟨r, hr, h2⟩ := List.mem_flatMap.1 hu
  obtain ⟨i, hi, rfl⟩ := List.getElem_of_mem hr
  obtain ⟨⟨_, _, _, e5⟩, ⟨_, _, _, e6⟩⟩ := hK _ _ (h i _ _ (List.getElem?_eq_getElem hi) (List.getElem?_eq_getElem (by omega)))
  simp only [CellR.cs, List.mem_cons, List.not_mem_nil, or_false] at h2
  rcases h2 with rfl | rfl | rfl | rfl | rfl | rfl
  · rfl
  · rfl
  · rfl
  · rfl
  · rw [e5]; rfl
  · rw [e6]; rfl

/-- v is a row in blocks not below w's -/
def RowN (K : KC) (w w' : World) (v : Value) (l : List CellD) : Prop := ∃ rs, w'.ownsRow w.heap.size 38 6 v l.length (flat CellR.cs rs) ∧ rs.length = l.length ∧ ∀ (i : Nat) (r : CellR) (c : CellD), rs[i]? = some r → l[i]? = some c → K r c
theorem RowN.rowK {K : KC} {w w' : World} {v : Value} {l : List CellD} (h : RowN K w w' v l) : RowK K w' v l ∧ ∀ b, v.ownBlock = some b → w.heap.size ≤ b ∧ b < w'.heap.size := by
  obtain ⟨rs, h1, h2, h3⟩ := h
  exact ⟨⟨rs, ownsRow_slOf crs_len (by rw [h2]; exact h1), h2, h3⟩, fun b hb => h1.lt b hb⟩
theorem RowN.form {K : KC} {w w' : World} {v : Value} {l : List CellD} (h : RowN K w w' v l) : ∃ A cap, v = .slice A l.length cap := by
  obtain ⟨rs, h1, _, _⟩ := h
  exact ownsRow_form h1
theorem RowN.carry {K : KC} {w w1 X Y : World} {p : Regrown} {v : Value} {l : List CellD} (h : RowN K w (gr X p) v l) (hl : X.heap.size ≤ w.heap.size) (hs : Y.heap.size = X.heap.size) (h1 : w1.heap.size ≤ w.heap.size) : RowN K w1 (gr Y p) v l := by
  obtain ⟨rs, ha, h2, h3⟩ := h
  exact ⟨rs, ownsRow_low (ownsRow_gr ha hl hs) h1, h2, h3⟩
theorem RowN.belo {K : KC} {w w' w'' : World} {v : Value} {l : List CellD} (h : RowN K w w' v l) (hb : Below w'.heap.size w' w'') : RowN K w w'' v l := by
  obtain ⟨rs, ha, h2, h3⟩ := h
  exact ⟨rs, ownsRow_below ha hb, h2, h3⟩

/-- append of a whole list of cells to an empty row of the call's own -/
theorem wpList_appK {K : KC} (hK : KOne K) {w : World} {ops : Array Oper} {rest : List Oper} {o : Oper} {a : Act} {Q : Exit → Act → World → Prop} (hgd : o.guard = none) (s x : Operand)
    (ho : o.op = .call { callee := .builtin .append, args := #[s, x], argTypes := #[29, 29] }) (g lo : Nat) (l : List CellD) {sv : Value}
    (hs : a.eval s = .slice (some ⟨g, 0, none⟩) 0 0) (hx : a.eval x = sv) (hg : w.heap[g]? = some (.cells #[] 38)) (hlo : lo ≤ g) (hsv : RowK K w sv l) (hf : l.length ≤ 1048576)
    (hh : ∀ A cap w' rs, rs.length = l.length → (∀ (i : Nat) (r : CellR) (c : CellD), rs[i]? = some r → l[i]? = some c → K r c) → w'.ownsRow lo 38 6 (.slice A l.length cap) l.length (flat CellR.cs rs) → w.grownBy w' (some g) →
      wpList Try.prog ops Q rest (a.put o.dst (.slice A l.length cap)) w') : wpList Try.prog ops Q (o :: rest) a w := by
  obtain ⟨rs, hsl, hl, hh6⟩ := hsv
  have h : ∀ v' w', w'.ownsRow lo 38 6 v' l.length (flat CellR.cs rs) → w.grownBy w' (some g) → wpList Try.prog ops Q rest (a.put o.dst v') w' := fun v' w' h1 h2 => by
    obtain ⟨A, cap, rfl⟩ := ownsRow_form h1
    exact hh A cap w' rs hl hh6 h1 h2
  obtain ⟨i, hi, hz, hsz, hby⟩ := cell_info
  have hown : w.ownsRow lo 38 6 (.slice (some ⟨g, 0, none⟩) 0 0) 0 [] := ⟨rfl, .inr ⟨g, 0, #[], rfl, hlo, hg, Nat.le_refl _, Nat.zero_le _, rfl, rfl⟩⟩
  have hlt : g < w.heap.size := (Array.getElem?_eq_some_iff.1 hg).1
  have hsl' : SlOf w 6 CellR.cs sv rs := hsl
  by_cases h0 : rs.length = 0
  · obtain rfl : rs = [] := List.eq_nil_of_length_eq_zero h0
    obtain rfl : l = [] := List.eq_nil_of_length_eq_zero (by simpa using hl.symm)
    obtain ⟨A, c, rfl, _⟩ := hsl.form
    cases A with
    | none =>
      refine wpList_plain hgd fun K hK => ?_
      have hrun : (Builtin.append_ #[29, 29] o.type #[.slice (some ⟨g, 0, none⟩) 0 0, .slice none 0 c]).run Try.prog w = .ok (.slice (some ⟨g, 0, none⟩) 0 0) w := by
        simp [Builtin.append_, run_underlying Try.underlying29, sizeOf, typeInfo, hi, Builtin.lenOf, Builtin.firstCells, storeCells]
      unfold Oper.wp
      simp [execOp, ho, resolve, invoke, builtin, hs, hx, hrun, Result.andThen]
      exact hK _ _ (h _ w hown ⟨rfl, rfl, rfl, Nat.le_refl _, fun _ _ _ => rfl⟩)
    | some ad =>
      refine wpList_append_own w hgd s x _ ho lo 38 i (.agg zcell) 6 80 Try.underlying29 hi hz hsz hby rfl (by omega) _ 0 [] hs hown ad 0 c [] hx rfl (by simp) (by simp) (by omega) (by omega) (by omega) fun v' w' h2 h3 _ => ?_
      exact h v' w' h2 h3
  · obtain ⟨ad, c, rfl, hsrc⟩ := hsl'.src crs_len (by omega)
    have hlen := flat_len crs_len rs
    refine wpList_append_own w hgd s x _ ho lo 38 i (.agg zcell) 6 80 Try.underlying29 hi hz hsz hby rfl (by omega) _ 0 [] hs hown ad rs.length c (flat CellR.cs rs) hx hlen hsrc (one_K hK hl hh6) (by unfold maxLen; omega) (by omega) (by omega) fun v' w' h2 h3 _ => ?_
    rw [Nat.zero_add, List.nil_append, hl] at h2
    exact h v' w' h2 h3

set_option maxRecDepth 100000 in
set_option maxHeartbeats 1000000 in
theorem rput_new {K : KC} (hK : KOne K) (room : Int) (lv : Value) (A B : Option Addr) (ca cb : Nat) (c : CellD) (l : List CellD) (w : World) (h : RowK K w lv l) (hi : l.length < room) (hr : room ≤ 1048576) (h1 : K ⟨c.k, c.sh, c.fl, c.ag, .slice A c.sl.length ca, .slice B c.mo.length cb⟩ c) :
    Calls Try.prog 25 #[spV room lv, cellV c.k c.sh c.fl c.ag (.slice A c.sl.length ca) (.slice B c.mo.length cb)] w fun e w' => ∃ lv', e = .returned (.tuple #[spV room lv', .int .i64 l.length, .int .i64 0]) ∧ RowN K w w' lv' (l ++ [c]) ∧ Below w.heap.size w w' := by
  obtain ⟨D, cap, rfl, hca, hm⟩ := h.form
  have H := Lib.hid h
  have H1 := Lib.hid h1
  have HR := Lib.hid (And.intro hi hr)
  have h0 : ¬ room ≤ l.length := by omega
  clear h h1 hr hi
  go_enter Try.func25, Try.ntmps25
  go_upto_region 4 with (refine wpList_appK hK rfl _ _ rfl (w.heap.size + 1 + 1 + 1) (w.heap.size + 1 + 1 + 1) l rfl rfl ?_ ?_ ?_ ?_ ?_; (next => exact hp_3' _ _ _ _ _); (next => omega); (next => exact H.out.below (by (repeat (with_reducible first | exact Below.refl _ _ | (refine bl_set ?_ (by first | omega | (simp; done) | (simp; omega)) _) | refine bl_gr ?_ _ | refine bl_al ?_ _ | refine below_setRow ?_ (by first | omega | (simp; done) | (simp; omega)) _ | refine bl_drewN ?_ _ | refine Below.drew ?_ | (refine bl_tr ?_ (by assumption)))))); (next => have := HR.out; omega); intro A1 n1 w1 rs hl h6 o1 gr1; obtain ⟨q1, q2, q3, q4, q5⟩ := app_3 gr1; obtain ⟨⟨a0, a1, a2, a3, a4, a5⟩, _⟩ := cells6 q2; obtain ⟨b0, b1, _, _⟩ := cells2 q1; obtain ⟨d0, d1, d2, d3⟩ := cells2 q3; have O1 := Lib.hid o1; have L1 := Lib.hid (And.intro hl h6); have Q4 := Lib.hid q4; have Q5 := Lib.hid q5; clear o1 gr1 q1 q2 q3 hl h6 q4 q5)
  have m0 : w.heap.size < w1.heap.size := by have := Q4.out; omega
  have m1 : w.heap.size + 1 < w1.heap.size := by have := Q4.out; omega
  have m2 : w.heap.size + 1 + 1 < w1.heap.size := by have := Q4.out; omega
  have m3 : w.heap.size ≠ w1.heap.size := by omega
  have m4 : w.heap.size + 1 ≠ w1.heap.size := by omega
  have m5 : w.heap.size + 1 + 1 ≠ w1.heap.size := by omega
  obtain ⟨ci, hci, hz, hsz, hby⟩ := cell_info
  have CI := Lib.hid (And.intro hci (And.intro hz (And.intro hsz hby)))
  clear hci hz hsz hby
  go_region_held3 (fun w' : World => w'.cell? ⟨w.heap.size, 0, none⟩ = some (.int .i64 room) ∧ w'.cell? ⟨w.heap.size, 1, none⟩ = some (.slice D l.length cap) ∧ w'.cell? ⟨w.heap.size + 1, 0, none⟩ = some (.int .i64 c.k) ∧ w'.cell? ⟨w.heap.size + 1, 1, none⟩ = some (.int .i64 c.sh) ∧ w'.cell? ⟨w.heap.size + 1, 2, none⟩ = some (.int .i64 c.fl) ∧ w'.cell? ⟨w.heap.size + 1, 3, none⟩ = some (.int .i64 c.ag) ∧ w'.cell? ⟨w.heap.size + 1, 4, none⟩ = some (.slice A c.sl.length ca) ∧ w'.cell? ⟨w.heap.size + 1, 5, none⟩ = some (.slice B c.mo.length cb)) (first | (and_intros <;> assumption) | (and_intros <;> go_simp)) (first
    | (refine step_append_lies _ rfl (.tmp 21) (.tmp 23) 29 rfl w.heap.size 38 ci (.agg zcell) 6 80 Try.underlying29 CI.out.1 CI.out.2.1 CI.out.2.2.1 CI.out.2.2.2 rfl (by omega) (.slice A1 l.length n1) l.length (flat CellR.cs rs) (by simp [Act.eval, Act.put]) (ownsRow_low (World.ownsRow.alloc (w := w1.drew) O1.out _) (by omega)) ⟨w1.heap.size, 0, none⟩ 1 1 [.int .i64 c.k, .int .i64 c.sh, .int .i64 c.fl, .int .i64 c.ag, .slice A c.sl.length ca, .slice B c.mo.length cb] (by simp [Act.eval, Act.put]) rfl ?_ ?_ ?_ ?_ ?_ ?_ _ rfl ?_; (next => exact fun j u hu => World.news_of_block (heap_alloc_new w1.drew _) j u hu); (next => intro u hu; simp only [List.mem_cons, List.not_mem_nil, or_false] at hu; rcases hu with rfl | rfl | rfl | rfl | rfl | rfl <;> rfl); (next => omega); (next => have := HR.out; unfold maxLen; omega); (next => have := HR.out; omega); (next => have := Q4.out; simp; omega); intro g2 n2 w2 hown hgrow hat hlt; have hk := app_far hgrow (fun g hg => (O1.out.lt g hg).1) (by have := Q4.out; omega); have sb0 := (World.cell?_of_block (hk _ (by simp))).trans b0; have sb1 := (World.cell?_of_block (hk _ (by simp))).trans b1; have sa0 := (World.cell?_of_block (hk _ (by simp))).trans a0; have sa1 := (World.cell?_of_block (hk _ (by simp))).trans a1; have sa2 := (World.cell?_of_block (hk _ (by simp))).trans a2; have sa3 := (World.cell?_of_block (hk _ (by simp))).trans a3; have sa4 := (World.cell?_of_block (hk _ (by simp))).trans a4; have sa5 := (World.cell?_of_block (hk _ (by simp))).trans a5; have sd0 := (World.cell?_of_block (hk _ (by simp))).trans d0; have sd1 := (World.cell?_of_block (hk _ (by simp))).trans d1; have sd2 := (World.frozen?_of_block (hk _ (by simp))).trans d2; have sd3 := (World.frozen?_of_block (hk _ (by simp))).trans d3; have GW := Lib.hid hgrow; have OW := Lib.hid hown; have AT := Lib.hid hat; have LT := Lib.hid hlt; clear hown hgrow hat hlt hk))
  rename_i hHeld
  clear hHeld
  have hB : Below w.heap.size w w2 := Q5.out.trans ⟨GW.out.os, GW.out.tape, GW.out.output, by have := GW.out.size; simp at this; omega, fun k hk => app_far (w := w) (w1 := w1) GW.out (fun g hg => (O1.out.lt g hg).1) (by have := Q4.out; omega) k (by omega)⟩
  have hg2 : g2 ≠ w.heap.size + 1 + 1 := by
    have q := Q4.out
    rcases AT.out with h | h
    · have := (O1.out.lt _ h).1
      omega
    · rw [h]
      simp
      omega
  obtain ⟨w3, hw3⟩ : ∃ w3, w3 = (w2.setCell ⟨w.heap.size + 1 + 1, 0, none⟩ (.int .i64 room)).setCell ⟨w.heap.size + 1 + 1, 1, none⟩ (.slice (some ⟨g2, 0, none⟩) (l.length + 1) n2) := ⟨_, rfl⟩
  rw [← hw3]
  have jt : Touch (fun b => b = w.heap.size + 1 + 1) w2 w3 := by rw [hw3]; exact ((Touch.refl _ _).set1 _ _).set1 _ _
  have jb : Below w.heap.size w w3 := by rw [hw3]; exact bl_set (bl_set hB (by simp; omega) _) (by simp; omega) _
  have c0 : w3.cell? ⟨w.heap.size + 1 + 1, 0, none⟩ = some (.int .i64 room) := by rw [hw3]; simp [go_sem, *]
  have c1 : w3.cell? ⟨w.heap.size + 1 + 1, 1, none⟩ = some (.slice (some ⟨g2, 0, none⟩) (l.length + 1) n2) := by rw [hw3]; simp [go_sem, *]
  have jo := ownsRow_touch OW.out jt (fun g hg => by simp [Value.ownBlock] at hg; omega)
  have jc : RowN K w w3 (.slice (some ⟨g2, 0, none⟩) (l.length + 1) n2) (l ++ [c]) := by
    have hl := L1.out.1
    refine ⟨rs ++ [⟨c.k, c.sh, c.fl, c.ag, .slice A c.sl.length ca, .slice B c.mo.length cb⟩], ?_, by simp [hl], fun i r d hr hd => ?_⟩
    · have e1 : (l ++ [c]).length = l.length + 1 := by simp
      rw [e1]
      simpa [flat] using jo
    · by_cases hi : i < l.length
      · rw [List.getElem?_append_left (by omega)] at hr hd
        exact L1.out.2 i r d hr hd
      · have hi' : i = l.length := by
          have := (List.getElem?_eq_some_iff.1 hd).1
          simp at this
          omega
        subst hi'
        rw [List.getElem?_append_right (by omega)] at hr hd
        simp [hl] at hr hd
        subst hr hd
        exact H1.out
  have JC := Lib.hid jc
  have JB := Lib.hid jb
  clear hw3 jt jo jc jb hB hg2
  go_wp2
  refine bodyPost_ret (v := .tuple #[spV room (.slice (some ⟨g2, 0, none⟩) (l.length + 1) n2), .int .i64 l.length, .int .i64 0]) (by simp [results, Try.results25, go_sem, gr_size, c0, c1]) rfl ⟨_, rfl, JC.out, JB.out⟩
set_option maxRecDepth 100000 in
set_option maxHeartbeats 1000000 in
theorem rset_new {K : KC} (hK : KOne K) (room : Int) (lv : Value) (A B : Option Addr) (ca cb : Nat) (c : CellD) (i : Nat) (l : List CellD) (w : World) (h : RowK K w lv l) (hi : i < l.length) (hr : l.length ≤ 1048576) (h1 : K ⟨c.k, c.sh, c.fl, c.ag, .slice A c.sl.length ca, .slice B c.mo.length cb⟩ c) :
    Calls Try.prog 26 #[spV room lv, .int .i64 i, cellV c.k c.sh c.fl c.ag (.slice A c.sl.length ca) (.slice B c.mo.length cb)] w fun e w' => ∃ lv', e = .returned (.tuple #[spV room lv', .int .i64 0]) ∧ RowN K w w' lv' (l.set i c) ∧ Below w.heap.size w w' := by
  obtain ⟨D, cap, rfl, hca, hm⟩ := h.form
  have H := Lib.hid h
  have H1 := Lib.hid h1
  have h0 : ¬ (i : Int) < 0 := by omega
  have h3 : ¬ (l.length : Int) ≤ i := by omega
  clear h h1
  go_enter Try.func26, Try.ntmps26
  go_upto_region 4 with (refine wpList_appK hK rfl _ _ rfl (w.heap.size + 1 + 1 + 1) (w.heap.size + 1 + 1 + 1) l rfl rfl ?_ ?_ ?_ ?_ ?_; (next => exact hp_3' _ _ _ _ _); (next => omega); (next => exact H.out.below (by (repeat (with_reducible first | exact Below.refl _ _ | (refine bl_set ?_ (by first | omega | (simp; done) | (simp; omega)) _) | refine bl_gr ?_ _ | refine bl_al ?_ _ | refine below_setRow ?_ (by first | omega | (simp; done) | (simp; omega)) _ | refine bl_drewN ?_ _ | refine Below.drew ?_ | (refine bl_tr ?_ (by assumption)))))); (next => exact hr); intro A1 n1 w1 rs hl h6 o1 gr1; obtain ⟨q1, q2, q3, q4, q5⟩ := app_3 gr1; obtain ⟨⟨a0, a1, a2, a3, a4, a5⟩, _⟩ := cells6 q2; obtain ⟨b0, b1, _, _⟩ := cells2 q1; obtain ⟨d0, d1, d2, d3⟩ := cells2 q3; obtain ⟨g, o, rfl, ho, hg, hgl, hcs⟩ := rowc_at o1 (by omega); have O1 := Lib.hid o1; have L1 := Lib.hid (And.intro hl h6); have Q4 := Lib.hid q4; have Q5 := Lib.hid q5; have HO := Lib.hid (And.intro ho hgl); obtain ⟨⟨u0, e0⟩, f0⟩ := hcs i hi 0 (by omega); obtain ⟨⟨u1, e1⟩, f1⟩ := hcs i hi 1 (by omega); obtain ⟨⟨u2, e2⟩, f2⟩ := hcs i hi 2 (by omega); obtain ⟨⟨u3, e3⟩, f3⟩ := hcs i hi 3 (by omega); obtain ⟨⟨u4, e4⟩, f4⟩ := hcs i hi 4 (by omega); obtain ⟨⟨u5, e5⟩, f5⟩ := hcs i hi 5 (by omega); rw [Nat.add_zero] at e0 f0; clear o1 gr1 q1 q2 q3 hl h6 q4 q5 hcs hg hgl ho)
  go_upto_region 5 with fail
  obtain ⟨w2, hw2⟩ : ∃ w2, w2 = ((((((w1.setCell ⟨g, o + i * 6, none⟩ (.int .i64 c.k)).setCell ⟨g, o + i * 6 + 1, none⟩ (.int .i64 c.sh)).setCell ⟨g, o + i * 6 + 2, none⟩ (.int .i64 c.fl)).setCell ⟨g, o + i * 6 + 3, none⟩ (.int .i64 c.ag)).setCell ⟨g, o + i * 6 + 4, none⟩ (.slice A c.sl.length ca)).setCell ⟨g, o + i * 6 + 5, none⟩ (.slice B c.mo.length cb)) := ⟨_, rfl⟩
  rw [← hw2]
  have hg : w.heap.size + 1 + 1 < g := by have := HO.out.2; omega
  have jt : Touch (fun b => b = g) w1 w2 := by rw [hw2]; exact ((((((Touch.refl _ _).set1 _ _).set1 _ _).set1 _ _).set1 _ _).set1 _ _).set1 _ _
  have jb : Below w.heap.size w w2 := Q5.out.trans (jt.below (by have := Q4.out; omega) (fun k hk => by omega))
  have z0 := (jt.cell (b := w.heap.size) (o := 0) (by have := Q4.out; omega) (by omega)).trans b0
  have z1 := (jt.cell (b := w.heap.size + 1 + 1) (o := 0) (by have := Q4.out; omega) (by omega)).trans d0
  have z2 := (jt.cell (b := w.heap.size + 1 + 1) (o := 1) (by have := Q4.out; omega) (by omega)).trans d1
  have z3 := (jt.frozen (b := w.heap.size + 1 + 1) (o := 0) (by have := Q4.out; omega) (by omega)).trans d2
  have z4 := (jt.frozen (b := w.heap.size + 1 + 1) (o := 1) (by have := Q4.out; omega) (by omega)).trans d3
  have jo : w2.ownsRow (w.heap.size + 1 + 1 + 1) 38 6 (.slice (some ⟨g, o, none⟩) l.length n1) l.length (flat CellR.cs (rs.set i ⟨c.k, c.sh, c.fl, c.ag, .slice A c.sl.length ca, .slice B c.mo.length cb⟩)) := by
    obtain ⟨ho, _⟩ := HO.out
    subst ho
    rw [hw2, ← flat_set6 _ rs i (by have := L1.out.1; omega)]
    simp only [Nat.zero_add]
    exact ownsRow_set (ownsRow_set (ownsRow_set (ownsRow_set (ownsRow_set (ownsRow_set O1.out rfl (by omega) _) rfl (by omega) _) rfl (by omega) _) rfl (by omega) _) rfl (by omega) _) rfl (by omega) _
  have JO := Lib.hid jo
  have JB := Lib.hid jb
  have HG := Lib.hid hg
  clear hw2 jt jo jb a0 a1 a2 a3 a4 a5 b0 b1 d0 d1 d2 d3 e0 e1 e2 e3 e4 e5 f0 f1 f2 f3 f4 f5 hg
  go_wp2
  obtain ⟨w3, hw3⟩ : ∃ w3, w3 = (w2.setCell ⟨w.heap.size + 1 + 1, 0, none⟩ (.int .i64 room)).setCell ⟨w.heap.size + 1 + 1, 1, none⟩ (.slice (some ⟨g, o, none⟩) l.length n1) := ⟨_, rfl⟩
  rw [← hw3]
  have jt3 : Touch (fun b => b = w.heap.size + 1 + 1) w2 w3 := by rw [hw3]; exact ((Touch.refl _ _).set1 _ _).set1 _ _
  have jb3 : Below w.heap.size w w3 := by rw [hw3]; exact bl_set (bl_set JB.out (by simp; omega) _) (by simp; omega) _
  have c0 : w3.cell? ⟨w.heap.size + 1 + 1, 0, none⟩ = some (.int .i64 room) := by rw [hw3]; simp [go_sem, *]
  have c1 : w3.cell? ⟨w.heap.size + 1 + 1, 1, none⟩ = some (.slice (some ⟨g, o, none⟩) l.length n1) := by rw [hw3]; simp [go_sem, *]
  have jo3 := ownsRow_touch JO.out jt3 (fun b hb => by have := HG.out; simp [Value.ownBlock] at hb; omega)
  have jc : RowN K w w3 (.slice (some ⟨g, o, none⟩) l.length n1) (l.set i c) := by
    have hl := L1.out.1
    refine ⟨rs.set i ⟨c.k, c.sh, c.fl, c.ag, .slice A c.sl.length ca, .slice B c.mo.length cb⟩, ?_, by simp [hl], fun j r d hr hd => ?_⟩
    · rw [List.length_set]
      exact ownsRow_low jo3 (by omega)
    · by_cases hj : i = j
      · subst hj
        rw [List.getElem?_set_self (by omega)] at hr hd
        simp only [Option.some.injEq] at hr hd
        subst hr hd
        exact H1.out
      · rw [List.getElem?_set_ne hj] at hr hd
        exact L1.out.2 j r d hr hd
  have JC := Lib.hid jc
  clear jc jo3 jt3 hw3
  refine bodyPost_ret (v := .tuple #[spV room (.slice (some ⟨g, o, none⟩) l.length n1), .int .i64 0]) (by simp [results, Try.results26, go_sem, gr_size, c0, c1]) rfl ⟨_, rfl, JC.out, jb3⟩
set_option maxRecDepth 100000 in
set_option maxHeartbeats 1000000 in
theorem rput_fullK {K : KC} (room : Int) (lv sv mv : Value) (k sh fl ag : Int) (l : List CellD) (w : World) (h : RowK K w lv l) (hi : room ≤ l.length) :
    Calls Try.prog 25 #[spV room lv, cellV k sh fl ag sv mv] w fun e w' => e = .returned (.tuple #[spV room lv, .int .i64 0, .int .i64 5]) ∧ Below w.heap.size w w' := by
  obtain ⟨A, cap, rfl, _, hm⟩ := h.form
  clear h
  go_enter Try.func25, Try.ntmps25
  go_wp2
  refine bodyPost_ret (v := .tuple #[spV room (.slice A l.length cap), .int .i64 0, .int .i64 5]) (by simp [results, Try.results25, go_sem, gr_size]) rfl ⟨rfl, by (repeat (with_reducible first | exact Below.refl _ _ | (refine bl_set ?_ (by first | omega | (simp; done) | (simp; omega)) _) | refine bl_gr ?_ _ | refine bl_al ?_ _ | refine below_setRow ?_ (by first | omega | (simp; done) | (simp; omega)) _ | refine bl_drewN ?_ _ | refine Below.drew ?_ | (refine bl_tr ?_ (by assumption))))⟩

set_option maxRecDepth 100000 in
set_option maxHeartbeats 1000000 in
theorem rset_outK {K : KC} (room : Int) (lv sv mv : Value) (k sh fl ag i : Int) (l : List CellD) (w : World) (h : RowK K w lv l) (hi : i < 0 ∨ l.length ≤ i) :
    Calls Try.prog 26 #[spV room lv, .int .i64 i, cellV k sh fl ag sv mv] w fun e w' => e = .returned (.tuple #[spV room lv, .int .i64 3]) ∧ Below w.heap.size w w' := by
  obtain ⟨A, cap, rfl, _, hm⟩ := h.form
  clear h
  rcases hi with hi | hi
  · go_enter Try.func26, Try.ntmps26
    go_wp2
    refine bodyPost_ret (v := .tuple #[spV room (.slice A l.length cap), .int .i64 3]) (by simp [results, Try.results26, go_sem, gr_size]) rfl ⟨rfl, by (repeat (with_reducible first | exact Below.refl _ _ | (refine bl_set ?_ (by first | omega | (simp; done) | (simp; omega)) _) | refine bl_gr ?_ _ | refine bl_al ?_ _ | refine below_setRow ?_ (by first | omega | (simp; done) | (simp; omega)) _ | refine bl_drewN ?_ _ | refine Below.drew ?_ | (refine bl_tr ?_ (by assumption))))⟩
  · have h0 : ¬ i < 0 := by omega
    go_enter Try.func26, Try.ntmps26
    go_wp2
    refine bodyPost_ret (v := .tuple #[spV room (.slice A l.length cap), .int .i64 3]) (by simp [results, Try.results26, go_sem, gr_size]) rfl ⟨rfl, by (repeat (with_reducible first | exact Below.refl _ _ | (refine bl_set ?_ (by first | omega | (simp; done) | (simp; omega)) _) | refine bl_gr ?_ _ | refine bl_al ?_ _ | refine below_setRow ?_ (by first | omega | (simp; done) | (simp; omega)) _ | refine bl_drewN ?_ _ | refine Below.drew ?_ | (refine bl_tr ?_ (by assumption))))⟩
end Go.Proofs.Ytgajmhklinolmaa
