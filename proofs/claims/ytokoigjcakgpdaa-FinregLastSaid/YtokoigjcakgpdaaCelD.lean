/- Leads and Weakly: a cell's addresses. -/
import Derived.Test.YtokoigjcakgpdaaCelC
namespace Go.Proofs.Ytokoigjcakgpdaa
set_option linter.all false
open Go.RowKit Go.Sort Go.Deep Go.Shelf
attribute [local go_sem] Oper.semAt_some

set_option maxHeartbeats 1000000 in
theorem all_any (k sh fl ag : Int) (A B : Option Addr) (n ca m cb : Nat) (w : World) :
    Calls Try.prog 33 #[cellV k sh fl ag (.slice A n ca) (.slice B m cb)] w fun e w' => e = .returned (.func (.func 42) #[] #[.pointer (some ⟨w.heap.size, 0, none⟩)]) ∧ w' = w.alloc (cellO k sh fl ag (.slice A n ca) (.slice B m cb)) := by
  go_enter Try.func33, Try.ntmps33
  go_wp2
  go_ret
  exact ⟨rfl, rfl⟩
/-- the iterator's contract for a loop over it -/
theorem all_stops (c : CellD) (hc : c.ok) (sv mv : Value) (Bn : Nat) (w0 w : World) (h0 : Below w0.heap.size w0 w) (hB : w.heap[Bn]? = some (cellO c.k c.sh c.fl c.ag sv mv)) (h1 : IsV w0 sv c.sl) (h2 : IsV w0 mv c.mo) :
    SeqStopsK Fence.wide 8 Try.prog 42 #[.pointer (some ⟨Bn, 0, none⟩)] encEl (KpB w0.heap.size Bn) (fun ys => ys = elems c hc) (fun pre => pre <+: elems c hc) (elems c hc).length w := fun l J Jx W hW hJ hJx hY hh0 =>
  all1_in l Bn w0.heap.size c hc sv mv J Jx W.heap.size hJ hJx hY W ((hW.block Bn (Array.getElem?_eq_some_iff.1 hB).1).trans hB) (Nat.le_trans h0.size hW.size) w0 (Nat.le_refl _) (bl_tr h0 hW) h1 h2 hh0

/-- the addresses among these -/
def addrs (holding : Bool) (l : List El) : List Int := (l.filter fun x => x.1.1 == holding && leadsB x.1.2).map fun x => x.1.2.n
theorem addrs_snoc (holding : Bool) (l : List El) (x : El) : addrs holding (l ++ [x]) = addrs holding l ++ if x.1.1 == holding && leadsB x.1.2 then [x.1.2.n] else [] := by
  unfold addrs
  rw [List.filter_append, List.map_append]
  cases h : (x.1.1 == holding && leadsB x.1.2) <;> simp [List.filter_cons, h]
abbrev OwnI (w : World) (lo : Nat) (v : Value) (xs : List Int) : Prop := w.ownsRow lo 3 1 v xs.length (xs.map (Value.int .i64))

theorem addrs_len (holding : Bool) (l : List El) : (addrs holding l).length ≤ l.length := by
  unfold addrs
  rw [List.length_map]
  exact List.length_filter_le _ _
theorem int_info : (Try.prog.info? 3).map (fun i => (i.zero, i.size, i.bytes)) = some (some (.int .i64 0), 1, 8) := by kernel_rfl

set_option maxRecDepth 100000 in
set_option maxHeartbeats 4000000 in
theorem addresses_any (sv mv : Value) (c : CellD) (hc : c.ok) (holding : Bool) (w : World) (h1 : IsV w sv c.sl) (h2 : IsV w mv c.mo) (hlen : c.sl.length + c.mo.length ≤ 17592186044416) :
    Calls Try.prog 37 #[cellV c.k c.sh c.fl c.ag sv mv, .bool holding] w fun e w' => ∃ v, e = .returned v ∧ OwnI w' w.heap.size v (addrs holding (elems c hc)) ∧ Below w.heap.size w w' := by
  obtain ⟨A1, n1, rfl, _, hm1⟩ := h1.form
  obtain ⟨A2, n2, rfl, _, hm2⟩ := h2.form
  have H1 := Lib.hid h1
  have H2 := Lib.hid h2
  clear h1 h2
  refine callsIn_wide.1 (callsIn_of_wp_marks (n := 9) Try.func37 rfl trivial ?_ rfl)
  refine wpIn_wide.2 ?_
  simp only [Try.ntmps37, List.size_toArray, List.length_cons, List.length_nil, Nat.reduceAdd, Nat.reduceSub, Array.replicate_succ, Array.replicate_zero, List.push_toArray, List.append_toArray, List.nil_append, List.cons_append]
  go_wp2_with (go_at_call 33; refine (all_any _ _ _ _ _ _ _ _ _ _ _).mono ?_; rintro e w1 ⟨rfl, hw1⟩; have W1 := Lib.hid hw1; clear hw1)
  obtain ⟨hb0, hb1, hb2, hb3, hsz, hB0⟩ : w1.heap[w.heap.size]? = some (cellO c.k c.sh c.fl c.ag (.slice A1 c.sl.length n1) (.slice A2 c.mo.length n2)) ∧ w1.heap[w.heap.size + 1]? = some (.cells #[.bool holding] 4) ∧ w1.heap[w.heap.size + 1 + 1]? = some (.cells #[.slice none 0 0] 25) ∧
      w1.heap[w.heap.size + 1 + 1 + 1]? = some (cellO c.k c.sh c.fl c.ag (.slice A1 c.sl.length n1) (.slice A2 c.mo.length n2)) ∧ w1.heap.size = w.heap.size + 4 ∧ Below w.heap.size w w1 := by
    rw [W1.out]
    exact heap4 w _ _ _ _
  have hs1 := Nat.le_of_eq hsz
  have hs2 := Nat.le_of_eq hsz.symm
  clear W1 hsz
  have hlB : w.heap.size + 1 + 1 + 1 < w1.heap.size := by omega
  refine (wpIn_wide (n := 9)).1 ?_
  refine wpIn_rangeFunc_ownH rfl (by omega) (gf := 42) (lb := #[.pointer (some ⟨w.heap.size + 1 + 1 + 1, 0, none⟩)]) rfl trivial (enters_of Try.func42 (by kernel_rfl) rfl)
    (all_stops c hc _ _ _ w w1 hB0 hb3 H1.out H2.out) KpB.trans (KpB.put (by omega) hlB) (Below.refl _ _) (fun _ => rfl)
    (fun pre W => (∃ v, W.heap[w.heap.size + 1 + 1]? = some (.cells #[v] 25) ∧ OwnI W w1.heap.size v (addrs holding pre)) ∧ W.heap[w.heap.size + 1]? = some (.cells #[.bool holding] 4) ∧ Below w.heap.size w W ∧ w1.heap.size ≤ W.heap.size)
    (fun _ _ _ => False)
    (ownFrom_of fun s W W' ⟨⟨v, hb, ho⟩, hh, hB, hz⟩ hs => ⟨⟨v, hs.heap hb, hs.owns ho⟩, hs.heap hh, hs.below (by omega) hB (Nat.le_refl _), Nat.le_trans hz hs.size⟩)
    (fun _ => ownFrom_of fun _ _ _ h _ => h)
    ⟨⟨_, hb2, World.ownsRow_nil _ _ _ _⟩, hb1, hB0, Nat.le_refl _⟩
    (fun x a' W => ∃ Bx, w1.heap.size ≤ Bx ∧ W.heap[Bx]? = some (.cells #[.int .i64 x.1.2.k, .int .i64 x.1.2.n, .string x.1.2.s] 34) ∧
      a' = { tmps := #[cellV c.k c.sh c.fl c.ag (.slice A1 c.sl.length n1) (.slice A2 c.mo.length n2), .bool holding, .pointer (some ⟨w.heap.size, 0, none⟩), .pointer (some ⟨w.heap.size + 1, 0, none⟩), .slice none 0 0, .pointer (some ⟨w.heap.size + 1 + 1, 0, none⟩), .bool x.1.1, .pointer (some ⟨Bx, 0, none⟩),
        cellV c.k c.sh c.fl c.ag (.slice A1 c.sl.length n1) (.slice A2 c.mo.length n2), .func (.func 42) #[] #[.pointer (some ⟨w.heap.size + 1 + 1 + 1, 0, none⟩)], .bool x.1.1, x.1.2.agg, undef, undef, undef, undef, undef, undef, undef, undef, undef, undef, undef, undef, undef], defers := [] })
    (fun x a' => ownFrom_of fun _ W W' ⟨Bx, h1, h2, h3⟩ hs => ⟨Bx, h1, hs.heap h2, h3⟩) ?assign ?body ?done ?stop
  case assign =>
    rintro l pre x W K ⟨⟨v, hb, ho⟩, hh, hB, hz⟩ hK
    gi_wp2
    refine hK _ _ ((KeepsOthers.alloc _ _).from _) (KpB.alloc (by omega) (by omega) _) ⟨⟨v, (heap_alloc_old _ _ (Array.getElem?_eq_some_iff.1 hb).1).trans hb, ho.alloc _⟩, (heap_alloc_old _ _ (Array.getElem?_eq_some_iff.1 hh).1).trans hh, hB.alloc hB.size _, by simp; omega⟩ ⟨W.heap.size, hz, heap_alloc_new _ _, rfl⟩
  case body =>
    rintro l pre ⟨⟨b, u⟩, hok⟩ a' W hl hr ⟨⟨v, hb, ho⟩, hh, hB, hz⟩ ⟨Bx, hBx, hx, rfl⟩ hlt
    obtain ⟨A0, n0, rfl⟩ := ownsRow_form ho
    obtain ⟨x0, x1, x2⟩ := cells3 hx
    obtain ⟨y0, _⟩ := cells1 hh
    obtain ⟨z0, z1⟩ := cells1 hb
    have lx := (Array.getElem?_eq_some_iff.1 hx).1
    have nh : w.heap.size + 1 < W.heap.size := by omega
    have no : w.heap.size + 1 + 1 < W.heap.size := by omega
    have hln := addrs_len holding pre
    rw [elems_len] at hlt
    have INV := Lib.hid (And.intro hb (And.intro ho (And.intro hh (And.intro hB hz))))
    clear hb ho hh hB hx hr hl
    cases hbh : (b == holding)
    · have e9 := Lib.hid (show addrs holding (pre ++ [⟨(b, u), hok⟩]) = addrs holding pre by rw [addrs_snoc]; simp [hbh])
      gi_wp2_with (refine ⟨trivial, ?_⟩)
      exact ⟨KeepsFrom.refl _ _, KpB.refl _ _ _, ⟨_, INV.out.1, by rw [e9.out]; exact INV.out.2.1⟩, INV.out.2.2.1, INV.out.2.2.2.1, INV.out.2.2.2.2⟩
    · cases hle : leadsB u
      · have LA := Lib.hid (fun W1 => by have := leads_any u W1; rw [hle] at this; exact this : ∀ W1, Calls Try.prog 47 #[u.agg] W1 fun e w' => e = .returned (.bool false) ∧ Below W1.heap.size W1 w')
        have e9 := Lib.hid (show addrs holding (pre ++ [⟨(b, u), hok⟩]) = addrs holding pre by rw [addrs_snoc]; simp [hle])
        clear hle
        gi_wp2_with (refine ⟨trivial, ?_⟩; gi_at_call 47; refine (calls_wide l (callGr (LA.out _))).mono ?_; rintro e w' ⟨pp, rfl, rfl⟩)
        have tg : Touch (fun _ => False) W (gr W pp) := Touch.of_below (below_gr W pp)
        exact ⟨keeps_touch tg (fun _ h => h.elim), KpB.touch tg (by omega) (fun _ h => h.elim) (by omega), ⟨_, (tg.block _ no (fun h => h)).trans INV.out.1, by rw [e9.out]; exact ownsRow_below INV.out.2.1 (below_gr W pp)⟩, (tg.block _ nh (fun h => h)).trans INV.out.2.2.1, bl_gr' INV.out.2.2.2.1 pp, by rw [gr_size]; omega⟩
      · have LA := Lib.hid (fun W1 => by have := leads_any u W1; rw [hle] at this; exact this : ∀ W1, Calls Try.prog 47 #[u.agg] W1 fun e w' => e = .returned (.bool true) ∧ Below W1.heap.size W1 w')
        have e9 := Lib.hid (show addrs holding (pre ++ [⟨(b, u), hok⟩]) = addrs holding pre ++ [u.n] by rw [addrs_snoc]; simp [hbh, hle])
        clear hle
        obtain ⟨i0, hi, hz0, hz1, hz2⟩ := info_parts int_info
        have II := Lib.hid (And.intro hi (And.intro hz0 (And.intro hz1 hz2)))
        clear hi hz0 hz1 hz2
        gi_wp2_with (first
          | (refine ⟨trivial, ?_⟩; gi_at_call 47; refine (calls_wide l (callGr (LA.out _))).mono ?_; rintro e w' ⟨pp, rfl, rfl⟩)
          | (gi_at_builtin; refine wpListIn_append_own _ rfl _ _ 25 rfl w1.heap.size 3 i0 (.int .i64 0) 1 8 Try.underlying25 II.out.1 II.out.2.1 II.out.2.2.1 II.out.2.2.2 rfl (by decide) _ _ _ rfl ((ownsRow_below INV.out.2.1 (below_gr W pp)).alloc _) ⟨W.heap.size + pp.os.size, 0, none⟩ 1 1 [.int .i64 u.n] rfl rfl ?_ ?_ ?_ ?_ ?_ ?_; (next => exact news_gr rfl); (next => intro u hu; simp at hu; subst hu; rfl); (next => unfold maxLen; omega); (next => omega); (next => simp [gr_size]; omega); intro v' w5 hown hgrow _; obtain ⟨A5, n5, rfl⟩ := ownsRow_form hown; have tb := touch_grown hgrow; have GW := Lib.hid (And.intro hown tb); have q5 := (tb.block (w.heap.size + 1 + 1) (by simp [gr_size]; omega) (fun e => by have := (INV.out.2.1.lt _ e).1; omega)).trans ((heap_alloc_old _ _ (by rw [gr_size]; omega)).trans (((below_gr W pp).block _ no).trans INV.out.1)); obtain ⟨q6, q7⟩ := cells1 q5; have Q5 := Lib.hid q5; clear hown hgrow tb q5))
        have T1 : Touch (fun k => Value.ownBlock (.slice A0 (addrs holding pre).length n0) = some k ∨ k = w.heap.size + 1 + 1) W (w5.setCell ⟨w.heap.size + 1 + 1, 0, none⟩ (.slice A5 ((addrs holding pre).length + 1) n5)) :=
          Touch.set (p := ⟨w.heap.size + 1 + 1, 0, none⟩) ((((Touch.refl _ W).gr pp).alloc _).trans GW.out.2 (fun i _ h => .inl h)) (.inl (.inr rfl)) _
        refine ⟨keeps_touch T1 (fun k hk => ?_), KpB.touch T1 (by omega) (fun k hk => ?_) (by omega), ⟨_, heap_setCell_same _ _ _ _ _ _ Q5.out, ?_⟩, (T1.block _ nh (fun hk => ?_)).trans INV.out.2.2.1, INV.out.2.2.2.1.trans (T1.below (by omega) (fun k hk => ?_)), Nat.le_trans INV.out.2.2.2.2 T1.size⟩
        · rcases hk with hk | rfl
          · exact owns_cells INV.out.2.1 hk
          · exact ⟨_, _, INV.out.1⟩
        · rcases hk with hk | rfl
          · have := (INV.out.2.1.lt _ hk).1
            omega
          · omega
        · rw [e9.out]
          have := ownsRow_touch GW.out.1 ((Touch.refl (fun b => b = w.heap.size + 1 + 1) _).set1 0 (.slice A5 ((addrs holding pre).length + 1) n5)) (fun g hg e => by have := (GW.out.1.lt g hg).1; omega)
          simpa [OwnI] using this
        · rcases hk with hk | hk
          · have := (INV.out.2.1.lt _ hk).1
            omega
          · omega
        · rcases hk with hk | rfl
          · have := (INV.out.2.1.lt _ hk).1
            omega
          · omega
  case done =>
    rintro D ys W hD rfl ⟨⟨v, hb, ho⟩, hh, hB, hz⟩ hK
    obtain ⟨A0, n0, rfl⟩ := ownsRow_form ho
    obtain ⟨z0, z1⟩ := cells1 hb
    have INV := Lib.hid (And.intro ho hB)
    have HD := Lib.hid (And.intro hD hK)
    clear hb ho hh hB hD hK
    go_wp2
    refine marks_ret1 HD.out.2 (results_tmp rfl _ _ _) rfl ⟨_, rfl, ?_, ?_⟩
    · exact ownsRow_low (ownsRow_touch (F := fun b => b = D) INV.out.1 (Touch.put _ _ _) (fun g hg e => by obtain ⟨cs, t, h⟩ := owns_cells INV.out.1 hg; rw [e, HD.out.2] at h; cases h)) (by omega)
    · exact below_put INV.out.2 (by have := HD.out.1; omega) _
  case stop =>
    rintro D c pre W _ _ h _
    exact h.elim
end Go.Proofs.Ytokoigjcakgpdaa
