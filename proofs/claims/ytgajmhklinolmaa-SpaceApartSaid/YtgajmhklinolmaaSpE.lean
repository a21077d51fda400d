/- Walk of the law's own: a deep copy by append. -/
import Derived.Test.YtgajmhklinolmaaSpD
namespace Go.Proofs.Ytgajmhklinolmaa
set_option linter.all false
open Go.RowKit Go.Sort Go.Deep

theorem Touch.set1 {w w' : World} {b : Nat} (h : Touch (fun k => k = b) w w') (o : Nat) (v : Value) : Touch (fun k => k = b) w (w'.setCell ⟨b, o, none⟩ v) := Touch.set (p := ⟨b, o, none⟩) h (.inl rfl) v
theorem val_info : ∃ i, Try.prog.info? 66 = some i ∧ i.zero = some (.agg zval) ∧ i.size = 3 ∧ i.bytes = 32 := by
  obtain ⟨i, hi, hzz⟩ := Option.map_eq_some_iff.1 info_val
  simp only [Prod.mk.injEq] at hzz
  exact ⟨i, hi, hzz.1, hzz.2.1, hzz.2.2⟩
theorem ownsRow_form {w : World} {lo : Nat} {e : TypeId} {size : Nat} {v : Value} {n : Nat} {xs : List Value} (h : w.ownsRow lo e size v n xs) : ∃ A cap, v = .slice A n cap := by
  rcases h.2 with ⟨rfl, rfl⟩ | ⟨g, cap, _, rfl, _⟩
  · exact ⟨_, _, rfl⟩
  · exact ⟨_, _, rfl⟩
/-- append of a whole list to an empty row of the call's own -/
theorem wpList_appV {w : World} {ops : Array Oper} {rest : List Oper} {o : Oper} {a : Act} {Q : Exit → Act → World → Prop} (hgd : o.guard = none) (s x : Operand)
    (ho : o.op = .call { callee := .builtin .append, args := #[s, x], argTypes := #[36, 36] }) (g lo : Nat) (xs : List Val) {sv : Value}
    (hs : a.eval s = .slice (some ⟨g, 0, none⟩) 0 0) (hx : a.eval x = sv) (hg : w.heap[g]? = some (.cells #[] 66)) (hlo : lo ≤ g) (hsv : IsV w sv xs) (hf : fitV xs)
    (hh : ∀ A cap w', OwnV w' lo (.slice A xs.length cap) xs → w.grownBy w' (some g) → wpList Try.prog ops Q rest (a.put o.dst (.slice A xs.length cap)) w') : wpList Try.prog ops Q (o :: rest) a w := by
  have h : ∀ v' w', OwnV w' lo v' xs → w.grownBy w' (some g) → wpList Try.prog ops Q rest (a.put o.dst v') w' := fun v' w' h1 h2 => by
    obtain ⟨A, cap, rfl⟩ := ownsRow_form h1
    exact hh A cap w' h1 h2
  obtain ⟨i, hi, hz, hsz, hby⟩ := val_info
  have hown : w.ownsRow lo 66 3 (.slice (some ⟨g, 0, none⟩) 0 0) 0 [] := ⟨rfl, .inr ⟨g, 0, #[], rfl, hlo, hg, Nat.le_refl _, Nat.zero_le _, rfl, rfl⟩⟩
  have hlt : g < w.heap.size := (Array.getElem?_eq_some_iff.1 hg).1
  have hle := hf.le
  by_cases h0 : xs.length = 0
  · obtain rfl : xs = [] := List.eq_nil_of_length_eq_zero h0
    obtain ⟨A, c, rfl, _⟩ := hsv.form
    cases A with
    | none =>
      refine wpList_plain hgd fun K hK => ?_
      have hrun : (Builtin.append_ #[36, 36] o.type #[.slice (some ⟨g, 0, none⟩) 0 0, .slice none 0 c]).run Try.prog w = .ok (.slice (some ⟨g, 0, none⟩) 0 0) w := by
        simp [Builtin.append_, run_underlying Try.underlying36, sizeOf, typeInfo, hi, Builtin.lenOf, Builtin.firstCells, storeCells]
      unfold Oper.wp
      simp [execOp, ho, resolve, invoke, builtin, hs, hx, hrun, Result.andThen]
      exact hK _ _ (h _ w hown ⟨rfl, rfl, rfl, Nat.le_refl _, fun _ _ _ => rfl⟩)
    | some ad =>
      refine wpList_append_own w hgd s x _ ho lo 66 i (.agg zval) 3 32 Try.underlying36 hi hz hsz hby rfl (by omega) _ 0 [] hs hown ad 0 c [] hx rfl (by simp) (by simp) (by omega) (by omega) (by omega) fun v' w' h2 h3 _ => ?_
      exact h v' w' h2 h3
  · obtain ⟨ad, c, rfl, hsrc⟩ := hsv.src cs_len (by omega)
    have hlen := flat_len cs_len xs
    refine wpList_append_own w hgd s x _ ho lo 66 i (.agg zval) 3 32 Try.underlying36 hi hz hsz hby rfl (by omega) _ 0 [] hs hown ad xs.length c (flat Val.cs xs) hx hlen hsrc one_cs (by unfold maxLen; omega) (by rw [Nat.zero_add]; exact hf) (by omega) fun v' w' h2 h3 _ => ?_
    rw [Nat.zero_add, List.nil_append] at h2
    exact h v' w' h2 h3

theorem hq_0 (w : World) (a b c : Obj) : (((w.alloc a).alloc b).alloc c).heap[w.heap.size]? = some a :=
  (heap_alloc_old _ _ (by simp only [World.alloc, Array.size_push]; omega)).trans ((heap_alloc_old _ _ (by simp only [World.alloc, Array.size_push]; omega)).trans (heap_alloc_new _ _))
theorem hq_1 (w : World) (a b c : Obj) : (((w.alloc a).alloc b).alloc c).heap[w.heap.size + 1]? = some b := by
  have e : (w.alloc a).heap.size = w.heap.size + 1 := by simp
  rw [← e]
  exact (heap_alloc_old _ _ (by simp)).trans (heap_alloc_new _ _)
theorem hq_2 (w : World) (a b c : Obj) : (((w.alloc a).alloc b).alloc c).heap[w.heap.size + 1 + 1]? = some c := by
  have e : ((w.alloc a).alloc b).heap.size = w.heap.size + 1 + 1 := by simp
  rw [← e]
  exact heap_alloc_new _ _
theorem grownBy_below {w w' : World} {n g : Nat} (h : w.grownBy w' (some g)) (hn : n ≤ g) (hw : n ≤ w.heap.size) : Below n w w' :=
  ⟨h.os, h.tape, h.output, h.size, fun k hk => h.block k (by omega) (by simp; omega)⟩

theorem app_1 {w w1 : World} {a b c : Obj} (h : (((w.alloc a).alloc b).alloc c).grownBy w1 (some (w.heap.size + 1 + 1))) : w1.heap[w.heap.size]? = some a ∧ w1.heap[w.heap.size + 1]? = some b ∧ Below w.heap.size w w1 := by
  have hs : (((w.alloc a).alloc b).alloc c).heap.size = w.heap.size + 3 := by simp
  refine ⟨(h.block _ (by omega) (by simp only [ne_eq, Option.some.injEq]; omega)).trans (hq_0 _ _ _ _), (h.block _ (by omega) (by simp only [ne_eq, Option.some.injEq]; omega)).trans (hq_1 _ _ _ _), ?_⟩
  have h0 : Below w.heap.size w (((w.alloc a).alloc b).alloc c) := bl_al (bl_al (bl_al (Below.refl _ _) _) _) _
  exact h0.trans (grownBy_below h (by omega) (by omega))
theorem app_2 {w w1 : World} {c : Obj} {g : Nat} (hg : g = w.heap.size) (h : (w.alloc c).grownBy w1 (some g)) : Below w.heap.size w w1 :=
  (bl_al (Below.refl _ _) _).trans (grownBy_below h (by omega) (by simp))

set_option maxRecDepth 100000 in
set_option maxHeartbeats 4000000 in
theorem lown_any (sv mv : Value) (c : CellD) (w : World) (h1 : IsV w sv c.sl) (h2 : IsV w mv c.mo) (hf : c.fit) :
    Calls Try.prog 23 #[cellV c.k c.sh c.fl c.ag sv mv] w fun e w' => ∃ sv' mv', e = .returned (cellV c.k c.sh c.fl c.ag sv' mv') ∧ OwnV w' w.heap.size sv' c.sl ∧ OwnV w' w.heap.size mv' c.mo ∧ (∀ b, sv'.ownBlock = some b → mv'.ownBlock ≠ some b) ∧ Below w.heap.size w w' := by
  have H1 := Lib.hid h1
  have H2 := Lib.hid h2
  have F := Lib.hid hf
  clear h1 h2 hf
  go_enter Try.func23, Try.ntmps23
  go_upto_region 2 with (refine wpList_appV rfl _ _ rfl (w.heap.size + 1 + 1) (w.heap.size + 1 + 1) c.sl rfl rfl ?_ ?_ ?_ ?_ ?_; (next => exact hq_2 _ _ _ _); (next => omega); (next => exact H1.out.below (by (repeat (with_reducible first | exact Below.refl _ _ | (refine bl_set ?_ (by first | omega | (simp; done) | (simp; omega)) _) | refine bl_gr ?_ _ | refine bl_al ?_ _ | refine below_setRow ?_ (by first | omega | (simp; done) | (simp; omega)) _ | refine bl_drewN ?_ _ | refine Below.drew ?_ | (refine bl_tr ?_ (by assumption)))))); (next => exact F.out.1); intro A1 n1 w1 o1 gr1; obtain ⟨q1, q2, q3⟩ := app_1 gr1; obtain ⟨⟨a0, a1, a2, a3, a4, a5⟩, f0, f1, f2, f3, f4, f5⟩ := cells6 q1; have O1 := Lib.hid o1; have Q1 := Lib.hid q1; have Q2 := Lib.hid q2; have Q3 := Lib.hid q3; clear o1 gr1 q1 q2 q3)
  obtain ⟨w2, hw2⟩ : ∃ w2, w2 = w1.setCell ⟨w.heap.size, 4, none⟩ (.slice A1 c.sl.length n1) := ⟨_, rfl⟩
  rw [← hw2]
  have j0 : ∀ b, b ≠ w.heap.size → w2.heap[b]? = w1.heap[b]? := fun b hb => by rw [hw2]; exact heap_setCell_other _ _ _ _ hb
  have jt : Touch (fun b => b = w.heap.size) w1 w2 := by rw [hw2]; exact (Touch.refl (fun b => b = w.heap.size) w1).set (p := ⟨w.heap.size, 4, none⟩) (.inl rfl) _
  have j1 : w2.heap[w.heap.size]? = some (cellO c.k c.sh c.fl c.ag (.slice A1 c.sl.length n1) mv) := by rw [hw2]; exact heap_setCell_same _ _ _ _ _ _ Q1.out
  have o1 : OwnV w2 (w.heap.size + 1 + 1) (.slice A1 c.sl.length n1) c.sl := ownsRow_touch O1.out jt (fun g hg e => by have := (O1.out.lt _ hg).1; omega)
  have j2 : w2.heap[w.heap.size + 1]? = some (cellO 0 0 0 0 (.slice none 0 0) (.slice none 0 0)) := (j0 _ (by omega)).trans Q2.out
  have jb : Below w.heap.size w w2 := by rw [hw2]; exact bl_set Q3.out (Nat.le_refl _) _
  have O2 := Lib.hid o1
  have J1 := Lib.hid j1
  have J2 := Lib.hid j2
  have JB := Lib.hid jb
  obtain ⟨⟨a0, a1, a2, a3, a4, a5⟩, f0, f1, f2, f3, f4, f5⟩ := cells6 j1
  clear hw2 j0 jt j1 j2 jb o1 Q1 Q2 Q3 O1
  have l0 : w.heap.size < w2.heap.size := (Array.getElem?_eq_some_iff.1 J1.out).1
  have l1 : w.heap.size + 1 < w2.heap.size := (Array.getElem?_eq_some_iff.1 J2.out).1
  have m0 : w.heap.size ≠ w2.heap.size := Nat.ne_of_lt l0
  go_upto_region 3 with (refine wpList_appV rfl _ _ rfl w2.heap.size w2.heap.size c.mo rfl rfl ?_ ?_ ?_ ?_ ?_; (next => exact heap_alloc_new _ _); (next => omega); (next => exact H2.out.below (bl_al JB.out _)); (next => exact F.out.2); intro A2 n2 w3 o2 gr2; have qb := app_2 rfl gr2; obtain ⟨⟨d0, d1, d2, d3, d4, d5⟩, g0, g1, g2, g3, g4, g5⟩ := cells6 ((qb.block _ (Array.getElem?_eq_some_iff.1 J1.out).1).trans J1.out); have O3 := Lib.hid o2; have QB := Lib.hid qb; clear o2 gr2 qb)
  obtain ⟨w4, hw4⟩ : ∃ w4, w4 = w3.setCell ⟨w.heap.size, 5, none⟩ (.slice A2 c.mo.length n2) := ⟨_, rfl⟩
  rw [← hw4]
  have j0 : ∀ b, b ≠ w.heap.size → w4.heap[b]? = w3.heap[b]? := fun b hb => by rw [hw4]; exact heap_setCell_other _ _ _ _ hb
  have jt : Touch (fun b => b = w.heap.size) w3 w4 := by rw [hw4]; exact (Touch.refl (fun b => b = w.heap.size) w3).set (p := ⟨w.heap.size, 5, none⟩) (.inl rfl) _
  have j1 : w4.heap[w.heap.size]? = some (cellO c.k c.sh c.fl c.ag (.slice A1 c.sl.length n1) (.slice A2 c.mo.length n2)) := by rw [hw4]; exact heap_setCell_same _ _ _ _ _ _ ((QB.out.block _ l0).trans J1.out)
  have j2 : w4.heap[w.heap.size + 1]? = some (cellO 0 0 0 0 (.slice none 0 0) (.slice none 0 0)) := (j0 _ (by omega)).trans ((QB.out.block _ l1).trans J2.out)
  have o1 : OwnV w4 (w.heap.size + 1 + 1) (.slice A1 c.sl.length n1) c.sl := ownsRow_touch (ownsRow_below O2.out QB.out) jt (fun g hg e => by have := (O2.out.lt _ hg).1; omega)
  have o2 : OwnV w4 w2.heap.size (.slice A2 c.mo.length n2) c.mo := ownsRow_touch O3.out jt (fun g hg e => by have := (O3.out.lt _ hg).1; omega)
  have oo : ∀ b, Value.ownBlock (.slice A1 c.sl.length n1) = some b → Value.ownBlock (.slice A2 c.mo.length n2) ≠ some b := fun b h1 h2 => by
    have := (O2.out.lt _ h1).2
    have := (O3.out.lt _ h2).1
    omega
  have jb : Below w.heap.size w w4 := by rw [hw4]; exact bl_set (JB.out.trans (QB.out.mono (by omega))) (Nat.le_refl _) _
  clear hw4 j0 jt a0 a1 a2 a3 a4 a5 f0 f1 f2 f3 f4 f5 d0 d1 d2 d3 d4 d5 g0 g1 g2 g3 g4 g5 J1 J2 JB O2 O3 QB l0 m0
  obtain ⟨⟨a0, a1, a2, a3, a4, a5⟩, _⟩ := cells6 j1
  obtain ⟨⟨b0, b1, b2, b3, b4, b5⟩, e0, e1, e2, e3, e4, e5⟩ := cells6 j2
  have K1 := Lib.hid o1
  have K2 := Lib.hid o2
  have KO := Lib.hid oo
  have L1 := Lib.hid l1
  have K4 := Lib.hid j2
  have HB := Lib.hid jb
  clear o1 o2 oo j1 j2 jb l1
  go_wp2
  obtain ⟨w5, hw5⟩ : ∃ w5, w5 = ((((((w4.setCell ⟨w.heap.size + 1, 0, none⟩ (.int .i64 c.k)).setCell ⟨w.heap.size + 1, 1, none⟩ (.int .i64 c.sh)).setCell ⟨w.heap.size + 1, 2, none⟩ (.int .i64 c.fl)).setCell ⟨w.heap.size + 1, 3, none⟩ (.int .i64 c.ag)).setCell ⟨w.heap.size + 1, 4, none⟩ (.slice A1 c.sl.length n1)).setCell ⟨w.heap.size + 1, 5, none⟩ (.slice A2 c.mo.length n2)) := ⟨_, rfl⟩
  rw [← hw5]
  have jt : Touch (fun b => b = w.heap.size + 1) w4 w5 := by
    rw [hw5]
    exact (((((((Touch.refl _ _).set1 _ _).set1 _ _).set1 _ _).set1 _ _).set1 _ _).set1 _ _)
  have j1 : OwnV w5 (w.heap.size + 1 + 1) (.slice A1 c.sl.length n1) c.sl := ownsRow_touch K1.out jt (fun g hg e => by have := (K1.out.lt _ hg).1; omega)
  have j2 : OwnV w5 w2.heap.size (.slice A2 c.mo.length n2) c.mo := ownsRow_touch K2.out jt (fun g hg e => by have := (K2.out.lt _ hg).1; have := L1.out; omega)
  have j3 : w5.heap[w.heap.size + 1]? = some (cellO c.k c.sh c.fl c.ag (.slice A1 c.sl.length n1) (.slice A2 c.mo.length n2)) := by
    rw [hw5]
    exact heap_setCell_same _ _ _ _ _ _ (heap_setCell_same _ _ _ _ _ _ (heap_setCell_same _ _ _ _ _ _ (heap_setCell_same _ _ _ _ _ _ (heap_setCell_same _ _ _ _ _ _ (heap_setCell_same _ _ _ _ _ _ K4.out)))))
  have jb : Below w.heap.size w w5 := by
    rw [hw5]
    iterate 6 refine bl_set ?_ (Nat.le_succ _) _
    exact HB.out
  clear hw5 a0 a1 a2 a3 a4 a5 b0 b1 b2 b3 b4 b5 e0 e1 e2 e3 e4 e5 K1 K2 K4 HB jt
  obtain ⟨⟨a0, a1, a2, a3, a4, a5⟩, _⟩ := cells6 j3
  refine bodyPost_ret (v := cellV c.k c.sh c.fl c.ag (.slice A1 c.sl.length n1) (.slice A2 c.mo.length n2)) (by clear j1 j2 j3 jb; simp [results, Try.results23, go_sem, *]) rfl ⟨_, _, rfl, ownsRow_low j1 (by omega), ownsRow_low j2 (by have := L1.out; omega), KO.out, jb⟩
end Go.Proofs.Ytgajmhklinolmaa
