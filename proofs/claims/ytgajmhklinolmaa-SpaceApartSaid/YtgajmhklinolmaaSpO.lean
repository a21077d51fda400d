/- Walk of the arena Put with room. -/
import Derived.Test.YtgajmhklinolmaaSpN
import Derived.Deep.RegionLaw
namespace Go.Proofs.Ytgajmhklinolmaa
set_option linter.all false
open Go.RowKit Go.Sort Go.Deep

theorem put_far {w w2 : World} {row : Option Nat} {o o2 : Obj} {p : Regrown} (g : ((gr (w.alloc o) p).alloc o2).grownBy w2 row) (hv : ∀ b, row = some b → b < w.heap.size) : w2.heap[w.heap.size]? = some o := by
  have h1 : (gr (w.alloc o) p).heap[w.heap.size]? = some o := ((below_gr (w.alloc o) p).block _ (by simp)).trans (heap_alloc_new w o)
  have hs : w.heap.size < (gr (w.alloc o) p).heap.size := by rw [gr_size]; simp; omega
  refine ((g.block _ (by simp; omega) fun e => ?_).trans (heap_alloc_old _ _ hs)).trans h1
  have := hv _ e.symm
  omega
theorem put_near {w w2 : World} {row : Option Nat} {o o2 : Obj} {p : Regrown} (g : ((gr (w.alloc o) p).alloc o2).grownBy w2 row) {s : Nat} (hs : s < w.heap.size) (hv : row ≠ some s) : w2.heap[s]? = w.heap[s]? := by
  have h1 : (gr (w.alloc o) p).heap[s]? = w.heap[s]? := ((below_gr (w.alloc o) p).block _ (by simp; omega)).trans (heap_alloc_old _ _ hs)
  have hs : s < (gr (w.alloc o) p).heap.size := by rw [gr_size]; simp; omega
  exact ((g.block _ (by simp; omega) fun e => hv e.symm).trans (heap_alloc_old _ _ hs)).trans h1

/-- A call of a Go function, as one step of a region that draws. -/
theorem step_call {P : Program} {ops : Array Oper} {o : Oper} {a : Act} {w : World} {K : Act → World → Prop} {Q : Exit → Act → World → Prop} {E : Prop}
    (hg : o.guard = none) (f : FuncId) (args : Array Operand) (ts : Array TypeId) (hop : o.op = Op.call { callee := .value (.func f), args := args, argTypes := ts }) (vs : Array Value) (hv : args.map a.eval = vs) (hc : Sem.run P (callFunc f vs) w = .ok (.enter f vs) w)
    (h : Calls P f vs w fun e w' => ∃ v, e = .returned v ∧ K (a.put o.dst v) w') : if Region.wanted o (yielded ops a.tmps) = true then Oper.wp P o a w K Q else E := by
  have hw : Region.wanted o (yielded ops a.tmps) = true := by simp [Region.wanted, hg]
  rw [if_pos hw]
  subst hv
  unfold Oper.wp
  simp [execOp, hop, resolve, invoke, Act.eval, Deferred.ofValue, hc, Oper.upon_enter]
  refine h.mono ?_
  rintro e w' ⟨v, rfl, hk⟩
  exact hk

set_option maxRecDepth 100000 in
set_option maxHeartbeats 2000000 in
theorem put_ok (F : Nat → Prop) (s : Nat) (room : Int) (l : List CellD) (c : CellD) (A B : Option Addr) (ca cb : Nat) (w : World) (h : Arena w F s room l) (hl : l.length < room) (hr : room ≤ 1048576) (h1 : IsV w (.slice A c.sl.length ca) c.sl) (h2 : IsV w (.slice B c.mo.length cb) c.mo) (hf : c.fit) :
    Calls Try.prog 14 #[.pointer (some ⟨s, 0, none⟩), cellV c.k c.sh c.fl c.ag (.slice A c.sl.length ca) (.slice B c.mo.length cb)] w fun e w' => e = .returned (.tuple #[.int .i64 l.length, .int .i64 0]) ∧ (∃ F', Arena w' F' s room (l ++ [c]) ∧ ∀ b, F' b → F b ∨ w.heap.size ≤ b) ∧ Touch F w w' := by
  have hs : s < w.heap.size := by obtain ⟨rs, v, h⟩ := h; exact h.low s h.ins
  obtain ⟨rs, D, cap, hA⟩ := h.rowed
  obtain ⟨r0, r1, _, z1⟩ := cells2 hA.st
  have n0 : s ≠ w.heap.size := by omega
  have HA := Lib.hid hA
  have HV := Lib.hid (And.intro h1 (And.intro h2 hf))
  have HR := Lib.hid hr
  have h0 : ¬ room ≤ (l.length : Int) := by omega
  have x1 : ∀ n, (s = w.heap.size + 1 + n) = False := fun n => eq_false (by omega)
  have x2 : ∀ n, (s < w.heap.size + 1 + n) = True := fun n => eq_true (by omega)
  obtain ⟨ci, hci, hz, hsz, hby⟩ := cell_info
  have CI := Lib.hid (And.intro hci (And.intro hz (And.intro hsz hby)))
  clear hci hz hsz hby h h1 h2 hf hr hA
  go_enter Try.func14, Try.ntmps14
  go_upto_region 3 with fail
  ((first | (with_reducible refine wp_quiet_gr Try.mixed ?_ ?_) | (with_reducible refine wp_quiet_any Try.mixed ?_ ?_)); (next => kernel_rfl); (repeat (quiet_step (fail))); refine wpQuiet_nil ?_; intro pq)
  go_upto_region 5 with fail
  go_region_law (first
    | (refine step_call rfl 29 _ _ rfl #[cellV c.k c.sh c.fl c.ag (.slice A c.sl.length ca) (.slice B c.mo.length cb)] (by simp [Act.eval, Act.put]) (by go_simp) ((own_any _ _ c _ (HV.out.1.below (by (repeat (with_reducible first | exact Below.refl _ _ | (refine bl_set ?_ (by first | omega | (simp; done) | (simp; omega)) _) | refine bl_gr ?_ _ | refine bl_al ?_ _ | refine below_setRow ?_ (by first | omega | (simp; done) | (simp; omega)) _ | refine bl_drewN ?_ _ | refine Below.drew ?_ | (refine bl_tr ?_ (by assumption)))))) (HV.out.2.1.below (by (repeat (with_reducible first | exact Below.refl _ _ | (refine bl_set ?_ (by first | omega | (simp; done) | (simp; omega)) _) | refine bl_gr ?_ _ | refine bl_al ?_ _ | refine below_setRow ?_ (by first | omega | (simp; done) | (simp; omega)) _ | refine bl_drewN ?_ _ | refine Below.drew ?_ | (refine bl_tr ?_ (by assumption)))))) HV.out.2.2).mono ?_); rintro e w' ⟨sv, mv, rfl, o1, o2, od, hb⟩; refine ⟨_, rfl, ?_⟩; obtain ⟨A1, n1, rfl⟩ := o1.form; obtain ⟨A2, n2, rfl⟩ := o2.form; obtain ⟨pp, rfl⟩ := gr_of_below hb; have O := Lib.hid (And.intro o1 (And.intro o2 od)); clear o1 o2 od hb)
    | (refine step_append_lies _ rfl (.tmp 22) (.tmp 25) 29 rfl 0 38 ci (.agg zcell) 6 80 Try.underlying29 CI.out.1 CI.out.2.1 CI.out.2.2.1 CI.out.2.2.2 rfl (by omega) (.slice D l.length cap) l.length (flat CellR.cs rs) (by simp [Act.eval, Act.put]) (ownsRow_below HA.out.row (by (repeat (with_reducible first | exact Below.refl _ _ | (refine bl_set ?_ (by first | omega | (simp; done) | (simp; omega)) _) | refine bl_gr ?_ _ | refine bl_al ?_ _ | refine below_setRow ?_ (by first | omega | (simp; done) | (simp; omega)) _ | refine bl_drewN ?_ _ | refine Below.drew ?_ | (refine bl_tr ?_ (by assumption)))))) _ 1 1 [.int .i64 c.k, .int .i64 c.sh, .int .i64 c.fl, .int .i64 c.ag, .slice A1 c.sl.length n1, .slice A2 c.mo.length n2] rfl rfl ?_ ?_ ?_ ?_ ?_ ?_ _ rfl ?_; (next => exact news_gr (by simp)); (next => intro u hu; simp only [List.mem_cons, List.not_mem_nil, or_false] at hu; rcases hu with rfl | rfl | rfl | rfl | rfl | rfl <;> rfl); (next => omega); (next => have := HR.out; unfold maxLen; omega); (next => have := HR.out; omega); (next => exact Nat.zero_le _); intro g2 n2 w2 hown hgrow hat hlt; have RR := Lib.hid (HA.out.put (by (repeat (with_reducible first | exact Below.refl _ _ | (refine bl_set ?_ (by first | omega | (simp; done) | (simp; omega)) _) | refine bl_gr ?_ _ | refine bl_al ?_ _ | refine below_setRow ?_ (by first | omega | (simp; done) | (simp; omega)) _ | refine bl_drewN ?_ _ | refine Below.drew ?_ | (refine bl_tr ?_ (by assumption))))) (ownsRow_low (ownsRow_below O.out.1 (by rw [← gr_gr]; (repeat (with_reducible first | exact Below.refl _ _ | (refine bl_set ?_ (by first | omega | (simp; done) | (simp; omega)) _) | refine bl_gr ?_ _ | refine bl_al ?_ _ | refine below_setRow ?_ (by first | omega | (simp; done) | (simp; omega)) _ | refine bl_drewN ?_ _ | refine Below.drew ?_ | (refine bl_tr ?_ (by assumption)))))) (by (first | omega | (rw [gr_size]; simp; omega) | (simp [gr_size]; omega)))) (ownsRow_low (ownsRow_below O.out.2.1 (by rw [← gr_gr]; (repeat (with_reducible first | exact Below.refl _ _ | (refine bl_set ?_ (by first | omega | (simp; done) | (simp; omega)) _) | refine bl_gr ?_ _ | refine bl_al ?_ _ | refine below_setRow ?_ (by first | omega | (simp; done) | (simp; omega)) _ | refine bl_drewN ?_ _ | refine Below.drew ?_ | (refine bl_tr ?_ (by assumption)))))) (by (first | omega | (rw [gr_size]; simp; omega) | (simp [gr_size]; omega)))) HV.out.2.2 hown hgrow hat hlt); have hk := put_near hgrow hs (fun e => (HA.out.blk s e).2 rfl); have s2 := (World.cell?_of_block (a := ⟨s, 1, none⟩) hk).trans r1; have s3 := (World.frozen?_of_block (a := ⟨s, 1, none⟩) hk).trans z1; clear hk; have hk := put_far hgrow (fun b e => HA.out.low b (HA.out.blk b e).1); obtain ⟨⟨a0, a1, a2, a3, a4, a5⟩, _⟩ := cells6 hk; clear hk; clear hown hgrow hat hlt))
  all_goals go_wp2
  all_goals have hw : wrap64 (l.length : Int) = (l.length : Int) := by (have := HR.out; simp only [wrap64]; omega)
  all_goals rw [hw]
  all_goals go_ret2
  all_goals exact ⟨rfl, RR.out.1, RR.out.2⟩
end Go.Proofs.Ytgajmhklinolmaa
