/- The reference's ins. -/
import Derived.Test.YtcmpgohpncnagaaChC
namespace Go.Proofs.Ytcmpgohpncnagaa
set_option linter.all false
open Go.ChangeShapes Go.WideShapes Go.ChangeAt Go.RowKit Go.Sort Go.Deep Go.Shelf

theorem yield_name (op : Int) : ((nameM op).toList == [121, 105, 101, 108, 100]) = (op == 46) ∧ ((nameM op).toList == [100, 101, 108, 101, 103, 97, 116, 101]) = (op == 47) := by
  by_cases h : 0 ≤ op ∧ op < 55
  · obtain ⟨n, rfl⟩ : ∃ n : Nat, op = (n : Int) := ⟨op.toNat, by omega⟩
    have hn : n < 55 := by omega
    have : ∀ i : Fin 55, ((nameM (i.val : Int)).toList == [121, 105, 101, 108, 100]) = ((i.val : Int) == 46) ∧ ((nameM (i.val : Int)).toList == [100, 101, 108, 101, 103, 97, 116, 101]) = ((i.val : Int) == 47) := by decide +kernel
    exact this ⟨n, hn⟩
  · rw [show nameM op = ⟨#[]⟩ by unfold nameM; rw [if_neg h], ByteArray.toList_eq]
    have h1 : (op == 46) = false := by simp; omega
    have h2 : (op == 47) = false := by simp; omega
    rw [h1, h2]
    exact ⟨rfl, rfl⟩
/-- what ins has boxed -/
structure InsI (w : World) (As : Option Addr) (N cs b off : Nat) (A2 A3 A4 : Option Addr) (c1 c2 c3 c4 : Nat) (c : CodeD) (x : InsD) (X : World) : Prop where
  im : X.heap[w.heap.size]? = some (.cells #[.slice As N cs] 39)
  co : X.heap[w.heap.size + 1]? = some (codeO c.nm c.kd c.ln c.rg (.slice (some ⟨b, off, none⟩) c.ins.length c1) (.slice A2 c.pl.length c2) (.slice A3 c.ks.length c3) (.slice A4 c.gs.length c4))
  io : X.heap[w.heap.size + 2]? = some (InO x)
  lo : Below w.heap.size w X
theorem InsI.grow {w : World} {As : Option Addr} {N cs b off : Nat} {A2 A3 A4 : Option Addr} {c1 c2 c3 c4 : Nat} {c : CodeD} {x : InsD} {X Y : World} (h : InsI w As N cs b off A2 A3 A4 c1 c2 c3 c4 c x X) (hb : Below X.heap.size X Y) : InsI w As N cs b off A2 A3 A4 c1 c2 c3 c4 c x Y :=
  ⟨(hb.block _ (Array.getElem?_eq_some_iff.1 h.im).1).trans h.im, (hb.block _ (Array.getElem?_eq_some_iff.1 h.co).1).trans h.co, (hb.block _ (Array.getElem?_eq_some_iff.1 h.io).1).trans h.io, bl_tr h.lo hb⟩
theorem InsI.start (w : World) (As : Option Addr) (N cs b off : Nat) (A2 A3 A4 : Option Addr) (c1 c2 c3 c4 : Nat) (c : CodeD) (x : InsD) : InsI w As N cs b off A2 A3 A4 c1 c2 c3 c4 c x (((w.alloc (.cells #[.slice As N cs] 39)).alloc (codeO c.nm c.kd c.ln c.rg (.slice (some ⟨b, off, none⟩) c.ins.length c1) (.slice A2 c.pl.length c2) (.slice A3 c.ks.length c3) (.slice A4 c.gs.length c4))).alloc (InO x)) :=
  ⟨hq_0 _ _ _ _, hq_1 _ _ _ _, hq_2 _ _ _ _, bl_al (bl_al (bl_al (Below.refl _ _) _) _) _⟩
theorem InsI.cells {w : World} {As : Option Addr} {N cs b off : Nat} {A2 A3 A4 : Option Addr} {c1 c2 c3 c4 : Nat} {c : CodeD} {x : InsD} {X : World} (h : InsI w As N cs b off A2 A3 A4 c1 c2 c3 c4 c x X) :
    X.cell? ⟨w.heap.size + 1, 0, none⟩ = some (.string c.nm) ∧ X.cell? ⟨w.heap.size + 1, 1, none⟩ = some (.int .i64 c.kd) ∧ X.cell? ⟨w.heap.size + 1, 2, none⟩ = some (.int .i64 c.ln) ∧ X.cell? ⟨w.heap.size + 1, 3, none⟩ = some (.int .i64 c.rg) ∧ X.cell? ⟨w.heap.size + 1, 4, none⟩ = some (.slice (some ⟨b, off, none⟩) c.ins.length c1) ∧ X.cell? ⟨w.heap.size + 1, 5, none⟩ = some (.slice A2 c.pl.length c2) ∧ X.cell? ⟨w.heap.size + 1, 6, none⟩ = some (.slice A3 c.ks.length c3) ∧ X.cell? ⟨w.heap.size + 1, 7, none⟩ = some (.slice A4 c.gs.length c4) ∧
    X.cell? ⟨w.heap.size + 2, 0, none⟩ = some (.int .i64 x.op) ∧ X.cell? ⟨w.heap.size + 2, 1, none⟩ = some (.int .i64 x.a) ∧ X.cell? ⟨w.heap.size + 2, 2, none⟩ = some (.int .i64 x.b) ∧ X.cell? ⟨w.heap.size + 2, 3, none⟩ = some (.int .i64 x.c) ∧ X.cell? ⟨w.heap.size, 0, none⟩ = some (.slice As N cs) ∧ w.heap.size < X.heap.size ∧ w.heap.size + 1 < X.heap.size ∧ w.heap.size + 2 < X.heap.size := by
  obtain ⟨⟨a0, a1, a2, a3, a4, a5, a6, a7⟩, -⟩ := cells8 h.co
  obtain ⟨⟨f0, f1, f2, f3⟩, -⟩ := cells_In h.io
  exact ⟨a0, a1, a2, a3, a4, a5, a6, a7, f0, f1, f2, f3, by rw [cell_of_row X _ _ _ _ _ h.im]; rfl, (Array.getElem?_eq_some_iff.1 h.im).1, (Array.getElem?_eq_some_iff.1 h.co).1, (Array.getElem?_eq_some_iff.1 h.io).1⟩
set_option maxRecDepth 100000 in
set_option maxHeartbeats 16000000 in
theorem rine_any (As : Option Addr) (N cs : Nat) (c : CodeD) (i p k g : Value) (at_ : Nat) (x : InsD) (hx : c.ins[at_]? = some x) (ho : x.ok) (hk : 0 ≤ c.kd ∧ c.kd ≤ 255) (hN : 1 ≤ N ∧ N ≤ 4096) (hr : 0 ≤ c.rg ∧ c.rg ≤ 4096) (w : World) (h : Cd4 w i p k g c) :
    Calls Try.prog 58 #[imA As N cs, codeV c.nm c.kd c.ln c.rg i p k g, .int .i64 (at_ : Int)] w fun e w' => e = .returned (.int .i64 (insE (N : Int) c at_ x)) ∧ Below w.heap.size w w' := by
  obtain ⟨A1, c1, A2, c2, A3, c3, A4, c4, rfl, rfl, rfl, rfl⟩ := h.forms
  have hlt := (List.getElem?_eq_some_iff.1 hx).1
  obtain ⟨b, off, cap', e1, lb, h0, h1, h2, h3⟩ := at_In h.i hx
  simp only [Value.slice.injEq] at e1
  obtain ⟨rfl, _, rfl⟩ := e1
  have q0 : (at_ : Int) < (c.ins.length : Int) := by omega
  have q1 : ¬ (at_ : Int) < 0 := by omega
  have PT := Lib.hid (rparts_any x.op)
  have RN := Lib.hid (rname_any x.op)
  obtain ⟨y6, y7⟩ := yield_name x.op
  have lbn : ∀ u, b < w.heap.size + u := fun u => Nat.lt_of_lt_of_le lb (Nat.le_add_right _ _)
  have H := Lib.hid h
  by_cases hop : 0 ≤ x.op ∧ x.op < 55
  · obtain ⟨b0, b1, b2, hp, s0, s1, s2, k0, k1, k2⟩ := part_three x.op hop
    rw [hp] at PT
    have hne : ((⟨#[b0, b1, b2]⟩ : ByteArray).toList == []) = false := by rw [ByteArray.toList_eq]; rfl
    have P0 := Lib.hid (fun W h => rpe_any As N cs c (.slice (some ⟨b, off, none⟩) c.ins.length c1) (.slice A2 c.pl.length c2) (.slice A3 c.ks.length c3) (.slice A4 c.gs.length c4) at_ b0.toNat k0 x.a hN hr ho.2.1 W h)
    have P1 := Lib.hid (fun W h => rpe_any As N cs c (.slice (some ⟨b, off, none⟩) c.ins.length c1) (.slice A2 c.pl.length c2) (.slice A3 c.ks.length c3) (.slice A4 c.gs.length c4) at_ b1.toNat k1 x.b hN hr ho.2.2.1 W h)
    have P2 := Lib.hid (fun W h => rpe_any As N cs c (.slice (some ⟨b, off, none⟩) c.ins.length c1) (.slice A2 c.pl.length c2) (.slice A3 c.ks.length c3) (.slice A4 c.gs.length c4) at_ b2.toNat k2 x.c hN hr ho.2.2.2 W h)
    have IE := Lib.hid (show ¬ ((x.op = 46 ∨ x.op = 47) ∧ c.kd / 4 % 2 = 0) → insE (N : Int) c at_ x = if prtE (N : Int) c at_ b0.toNat x.a ≠ 0 then prtE (N : Int) c at_ b0.toNat x.a else if prtE (N : Int) c at_ b1.toNat x.b ≠ 0 then prtE (N : Int) c at_ b1.toNat x.b else prtE (N : Int) c at_ b2.toNat x.c from fun hno => by
      unfold insE
      rw [if_neg (by rintro (h | h); exact h hop; exact hno h), s0, s1, s2])
    have IF := Lib.hid (show ((x.op = 46 ∨ x.op = 47) ∧ c.kd / 4 % 2 = 0) → insE (N : Int) c at_ x = 40 from fun hy => by
      unfold insE
      rw [if_pos (.inr hy)])
    generalize prtE (N : Int) c at_ b0.toNat x.a = r0 at *
    generalize prtE (N : Int) c at_ b1.toNat x.b = r1 at *
    generalize prtE (N : Int) c at_ b2.toNat x.c = r2 at *
    rw [show b0.toNat = ((⟨#[b0, b1, b2]⟩ : ByteArray)[0]'(show 0 < 3 by decide)).toNat from rfl] at P0
    rw [show b1.toNat = ((⟨#[b0, b1, b2]⟩ : ByteArray)[1]'(show 1 < 3 by decide)).toNat from rfl] at P1
    rw [show b2.toNat = ((⟨#[b0, b1, b2]⟩ : ByteArray)[2]'(show 2 < 3 by decide)).toNat from rfl] at P2
    have t0 : 0 ≤ c.kd := hk.1
    have t1 : wrap64 (c.kd.tdiv 4) = c.kd / 4 := by rw [Int.tdiv_eq_ediv_of_nonneg t0]; unfold wrap64; omega
    have t2 : 0 ≤ c.kd / 4 := Int.ediv_nonneg t0 (by decide)
    have ways : (((x.op == 46) = false ∧ (x.op == 47) = false) ∧ ∃ bt, (c.kd / 4 % 2 == 0) = bt) ∨ (((x.op == 46) = true ∨ ((x.op == 46) = false ∧ (x.op == 47) = true)) ∧ (c.kd / 4 % 2 == 0) = true) ∨ (((x.op == 46) = true ∨ ((x.op == 46) = false ∧ (x.op == 47) = true)) ∧ (c.kd / 4 % 2 == 0) = false) := by
      cases (c.kd / 4 % 2 == 0) <;> cases (x.op == 46) <;> cases (x.op == 47) <;> simp
    have X46 := Lib.hid (fun (h : (x.op == 46) = true) => (by simpa using h : x.op = 46))
    have X47 := Lib.hid (fun (h : (x.op == 47) = true) => (by simpa using h : x.op = 47))
    have N46 := Lib.hid (fun (h : (x.op == 46) = false) => (by simpa using h : ¬ x.op = 46))
    have N47 := Lib.hid (fun (h : (x.op == 47) = false) => (by simpa using h : ¬ x.op = 47))
    have KB := Lib.hid (fun (h : (c.kd / 4 % 2 == 0) = true) => (by simpa using h : c.kd / 4 % 2 = 0))
    have KN := Lib.hid (fun (h : (c.kd / 4 % 2 == 0) = false) => (by simpa using h : ¬ c.kd / 4 % 2 = 0))
    rw [← y6, ← y7] at ways
    clear h hx hlt ho hp s0 s1 s2 k0 k1 k2 hop hr hN hk
    have WY := Lib.hid (And.intro y6 y7)
    clear y6 y7
    generalize nameM x.op = nm at *
    rcases ways with ⟨⟨o6, o7⟩, bt, _⟩ | ⟨o, bt⟩ | ⟨o, bt⟩
    · have IE := Lib.hid (IE.out (by rintro ⟨h | h, _⟩; exact N46.out (by rw [← WY.out.1]; exact o6) h; exact N47.out (by rw [← WY.out.2]; exact o7) h))
      by_cases z0 : r0 = 0
      · by_cases z1 : r1 = 0
        · have RS := Lib.hid (show insE (N : Int) c at_ x = r2 by rw [IE.out, if_neg (by rw [z0]; simp), if_neg (by rw [z1]; simp)])
          rw [z0] at P0
          rw [z1] at P1
          clear z0 z1 IE
          go_enter Try.func58, Try.ntmps58
          go_upto_region 2 with fail
          refine wpc_world (InsI w As N cs b off A2 A3 A4 c1 c2 c3 c4 c x) (by first | exact InsI.start _ _ _ _ _ _ _ _ _ _ _ _ _ _ _ | exact InsI.start w As N cs b off A2 A3 A4 c1 c2 c3 c4 c x) ?_
          intro X hX
          have IX := Lib.hid hX
          have BX := Lib.hid (H.out.below hX.lo)
          obtain ⟨a0, a1, a2, a3, a4, a5, a6, a7, f0, f1, f2, f3, g0, l0, l1, l2⟩ := hX.cells
          clear hX
          go_upto_region 6 with (first | (go_at_call 51; refine (callGr (PT.out _)).mono ?_; rintro e w' ⟨pp, rfl, rfl⟩) | (go_at_call 73; refine (callGr (RN.out _)).mono ?_; rintro e w' ⟨pp, rfl, rfl⟩))
          refine wpc_world (InsI w As N cs b off A2 A3 A4 c1 c2 c3 c4 c x) (by have := IX.out; exact this.grow (by (repeat (with_reducible first | exact Below.refl _ _ | (refine bl_set ?_ (by first | omega | (simp; done) | (simp; omega)) _) | refine bl_gr ?_ _ | refine bl_al ?_ _ | refine below_setRow ?_ (by first | omega | (simp; done) | (simp; omega)) _ | refine bl_drewN ?_ _ | refine Below.drew ?_ | (refine bl_tr ?_ (by assumption)))))) ?_
          intro X hX
          have IX := Lib.hid hX
          have BX := Lib.hid (H.out.below hX.lo)
          obtain ⟨a0, a1, a2, a3, a4, a5, a6, a7, f0, f1, f2, f3, g0, l0, l1, l2⟩ := hX.cells
          clear hX
          ((first | (with_reducible refine wp_quiet_gr Try.mixed ?_ ?_) | (with_reducible refine wp_quiet_any Try.mixed ?_ ?_)); (next => kernel_rfl); (repeat (with_reducible refine wpQuiet_step (fun K hK => ?_); go_simp; first | (refine hK _ ?_; clear hK K) | (apply Exists.intro; refine ⟨fun _ => ?_, hK _ ?_⟩; ((go_at_call 75; exact callQ (P0.out _ (BX.out.below (below_gr _ _))))); clear hK K))); refine wpQuiet_nil ?_; intro pq)
          go_simp
          go_upto_region 8 with fail
          refine wpc_world (InsI w As N cs b off A2 A3 A4 c1 c2 c3 c4 c x) (by have := IX.out; exact this.grow (below_gr _ _)) ?_
          intro X hX
          have IX := Lib.hid hX
          have BX := Lib.hid (H.out.below hX.lo)
          obtain ⟨a0, a1, a2, a3, a4, a5, a6, a7, f0, f1, f2, f3, g0, l0, l1, l2⟩ := hX.cells
          clear hX
          ((first | (with_reducible refine wp_quiet_gr Try.mixed ?_ ?_) | (with_reducible refine wp_quiet_any Try.mixed ?_ ?_)); (next => kernel_rfl); (repeat (with_reducible refine wpQuiet_step (fun K hK => ?_); go_simp; first | (refine hK _ ?_; clear hK K) | (apply Exists.intro; refine ⟨fun _ => ?_, hK _ ?_⟩; ((go_at_call 75; exact callQ (P1.out _ (BX.out.below (below_gr _ _))))); clear hK K))); refine wpQuiet_nil ?_; intro pq)
          go_simp
          go_upto_region 10 with fail
          refine wpc_world (InsI w As N cs b off A2 A3 A4 c1 c2 c3 c4 c x) (by have := IX.out; exact this.grow (below_gr _ _)) ?_
          intro X hX
          have IX := Lib.hid hX
          have BX := Lib.hid (H.out.below hX.lo)
          obtain ⟨a0, a1, a2, a3, a4, a5, a6, a7, f0, f1, f2, f3, g0, l0, l1, l2⟩ := hX.cells
          clear hX
          ((first | (with_reducible refine wp_quiet_gr Try.mixed ?_ ?_) | (with_reducible refine wp_quiet_any Try.mixed ?_ ?_)); (next => kernel_rfl); (repeat (with_reducible refine wpQuiet_step (fun K hK => ?_); go_simp; first | (refine hK _ ?_; clear hK K) | (apply Exists.intro; refine ⟨fun _ => ?_, hK _ ?_⟩; ((go_at_call 75; exact callQ (P2.out _ (BX.out.below (below_gr _ _))))); clear hK K))); refine wpQuiet_nil ?_; intro pq)
          go_simp
          go_wp2
          go_ret
          exact ⟨ret_int RS.out.symm, bl_tr IX.out.lo (by (repeat (with_reducible first | exact Below.refl _ _ | (refine bl_set ?_ (by first | omega | (simp; done) | (simp; omega)) _) | refine bl_gr ?_ _ | refine bl_al ?_ _ | refine below_setRow ?_ (by first | omega | (simp; done) | (simp; omega)) _ | refine bl_drewN ?_ _ | refine Below.drew ?_ | (refine bl_tr ?_ (by assumption)))))⟩
        · have RS := Lib.hid (show insE (N : Int) c at_ x = r1 by rw [IE.out, if_neg (by rw [z0]; simp), if_pos (by exact z1)])
          have e9 : (r1 == 0) = false := by simpa using z1
          rw [z0] at P0
          clear z0 z1 IE
          go_enter Try.func58, Try.ntmps58
          go_upto_region 2 with fail
          refine wpc_world (InsI w As N cs b off A2 A3 A4 c1 c2 c3 c4 c x) (by first | exact InsI.start _ _ _ _ _ _ _ _ _ _ _ _ _ _ _ | exact InsI.start w As N cs b off A2 A3 A4 c1 c2 c3 c4 c x) ?_
          intro X hX
          have IX := Lib.hid hX
          have BX := Lib.hid (H.out.below hX.lo)
          obtain ⟨a0, a1, a2, a3, a4, a5, a6, a7, f0, f1, f2, f3, g0, l0, l1, l2⟩ := hX.cells
          clear hX
          go_upto_region 6 with (first | (go_at_call 51; refine (callGr (PT.out _)).mono ?_; rintro e w' ⟨pp, rfl, rfl⟩) | (go_at_call 73; refine (callGr (RN.out _)).mono ?_; rintro e w' ⟨pp, rfl, rfl⟩))
          refine wpc_world (InsI w As N cs b off A2 A3 A4 c1 c2 c3 c4 c x) (by have := IX.out; exact this.grow (by (repeat (with_reducible first | exact Below.refl _ _ | (refine bl_set ?_ (by first | omega | (simp; done) | (simp; omega)) _) | refine bl_gr ?_ _ | refine bl_al ?_ _ | refine below_setRow ?_ (by first | omega | (simp; done) | (simp; omega)) _ | refine bl_drewN ?_ _ | refine Below.drew ?_ | (refine bl_tr ?_ (by assumption)))))) ?_
          intro X hX
          have IX := Lib.hid hX
          have BX := Lib.hid (H.out.below hX.lo)
          obtain ⟨a0, a1, a2, a3, a4, a5, a6, a7, f0, f1, f2, f3, g0, l0, l1, l2⟩ := hX.cells
          clear hX
          ((first | (with_reducible refine wp_quiet_gr Try.mixed ?_ ?_) | (with_reducible refine wp_quiet_any Try.mixed ?_ ?_)); (next => kernel_rfl); (repeat (with_reducible refine wpQuiet_step (fun K hK => ?_); go_simp; first | (refine hK _ ?_; clear hK K) | (apply Exists.intro; refine ⟨fun _ => ?_, hK _ ?_⟩; ((go_at_call 75; exact callQ (P0.out _ (BX.out.below (below_gr _ _))))); clear hK K))); refine wpQuiet_nil ?_; intro pq)
          go_simp
          go_upto_region 8 with fail
          refine wpc_world (InsI w As N cs b off A2 A3 A4 c1 c2 c3 c4 c x) (by have := IX.out; exact this.grow (below_gr _ _)) ?_
          intro X hX
          have IX := Lib.hid hX
          have BX := Lib.hid (H.out.below hX.lo)
          obtain ⟨a0, a1, a2, a3, a4, a5, a6, a7, f0, f1, f2, f3, g0, l0, l1, l2⟩ := hX.cells
          clear hX
          ((first | (with_reducible refine wp_quiet_gr Try.mixed ?_ ?_) | (with_reducible refine wp_quiet_any Try.mixed ?_ ?_)); (next => kernel_rfl); (repeat (with_reducible refine wpQuiet_step (fun K hK => ?_); go_simp; first | (refine hK _ ?_; clear hK K) | (apply Exists.intro; refine ⟨fun _ => ?_, hK _ ?_⟩; ((go_at_call 75; exact callQ (P1.out _ (BX.out.below (below_gr _ _))))); clear hK K))); refine wpQuiet_nil ?_; intro pq)
          go_simp
          go_wp2
          go_ret
          exact ⟨ret_int RS.out.symm, bl_tr IX.out.lo (by (repeat (with_reducible first | exact Below.refl _ _ | (refine bl_set ?_ (by first | omega | (simp; done) | (simp; omega)) _) | refine bl_gr ?_ _ | refine bl_al ?_ _ | refine below_setRow ?_ (by first | omega | (simp; done) | (simp; omega)) _ | refine bl_drewN ?_ _ | refine Below.drew ?_ | (refine bl_tr ?_ (by assumption)))))⟩
      · have RS := Lib.hid (show insE (N : Int) c at_ x = r0 by rw [IE.out, if_pos (by exact z0)])
        have e9 : (r0 == 0) = false := by simpa using z0
        clear z0 IE
        go_enter Try.func58, Try.ntmps58
        go_upto_region 2 with fail
        refine wpc_world (InsI w As N cs b off A2 A3 A4 c1 c2 c3 c4 c x) (by first | exact InsI.start _ _ _ _ _ _ _ _ _ _ _ _ _ _ _ | exact InsI.start w As N cs b off A2 A3 A4 c1 c2 c3 c4 c x) ?_
        intro X hX
        have IX := Lib.hid hX
        have BX := Lib.hid (H.out.below hX.lo)
        obtain ⟨a0, a1, a2, a3, a4, a5, a6, a7, f0, f1, f2, f3, g0, l0, l1, l2⟩ := hX.cells
        clear hX
        go_upto_region 6 with (first | (go_at_call 51; refine (callGr (PT.out _)).mono ?_; rintro e w' ⟨pp, rfl, rfl⟩) | (go_at_call 73; refine (callGr (RN.out _)).mono ?_; rintro e w' ⟨pp, rfl, rfl⟩))
        refine wpc_world (InsI w As N cs b off A2 A3 A4 c1 c2 c3 c4 c x) (by have := IX.out; exact this.grow (by (repeat (with_reducible first | exact Below.refl _ _ | (refine bl_set ?_ (by first | omega | (simp; done) | (simp; omega)) _) | refine bl_gr ?_ _ | refine bl_al ?_ _ | refine below_setRow ?_ (by first | omega | (simp; done) | (simp; omega)) _ | refine bl_drewN ?_ _ | refine Below.drew ?_ | (refine bl_tr ?_ (by assumption)))))) ?_
        intro X hX
        have IX := Lib.hid hX
        have BX := Lib.hid (H.out.below hX.lo)
        obtain ⟨a0, a1, a2, a3, a4, a5, a6, a7, f0, f1, f2, f3, g0, l0, l1, l2⟩ := hX.cells
        clear hX
        ((first | (with_reducible refine wp_quiet_gr Try.mixed ?_ ?_) | (with_reducible refine wp_quiet_any Try.mixed ?_ ?_)); (next => kernel_rfl); (repeat (with_reducible refine wpQuiet_step (fun K hK => ?_); go_simp; first | (refine hK _ ?_; clear hK K) | (apply Exists.intro; refine ⟨fun _ => ?_, hK _ ?_⟩; ((go_at_call 75; exact callQ (P0.out _ (BX.out.below (below_gr _ _))))); clear hK K))); refine wpQuiet_nil ?_; intro pq)
        go_simp
        go_wp2
        go_ret
        exact ⟨ret_int RS.out.symm, bl_tr IX.out.lo (by (repeat (with_reducible first | exact Below.refl _ _ | (refine bl_set ?_ (by first | omega | (simp; done) | (simp; omega)) _) | refine bl_gr ?_ _ | refine bl_al ?_ _ | refine below_setRow ?_ (by first | omega | (simp; done) | (simp; omega)) _ | refine bl_drewN ?_ _ | refine Below.drew ?_ | (refine bl_tr ?_ (by assumption)))))⟩
    · have RS := Lib.hid (show insE (N : Int) c at_ x = 40 from IF.out ⟨by rcases o with o | ⟨_, o⟩; exact .inl (X46.out (by rw [← WY.out.1]; exact o)); exact .inr (X47.out (by rw [← WY.out.2]; exact o)), KB.out bt⟩)
      rw [RS.out]
      rcases o with o6 | ⟨o6, o7⟩
      all_goals
        go_enter Try.func58, Try.ntmps58
        go_wp2_with (first | (go_at_call 51; refine (callGr (PT.out _)).mono ?_; rintro e w' ⟨pp, rfl, rfl⟩) | (go_at_call 73; refine (callGr (RN.out _)).mono ?_; rintro e w' ⟨pp, rfl, rfl⟩))
        all_goals go_ret
        all_goals exact ⟨rfl, by (repeat (with_reducible first | exact Below.refl _ _ | (refine bl_set ?_ (by first | omega | (simp; done) | (simp; omega)) _) | refine bl_gr ?_ _ | refine bl_al ?_ _ | refine below_setRow ?_ (by first | omega | (simp; done) | (simp; omega)) _ | refine bl_drewN ?_ _ | refine Below.drew ?_ | (refine bl_tr ?_ (by assumption))))⟩
    · have IE := Lib.hid (IE.out (fun h => KN.out bt h.2))
      rcases o with o6 | ⟨o6, o7⟩
      all_goals
        by_cases z0 : r0 = 0
        · by_cases z1 : r1 = 0
          · have RS := Lib.hid (show insE (N : Int) c at_ x = r2 by rw [IE.out, if_neg (by rw [z0]; simp), if_neg (by rw [z1]; simp)])
            rw [z0] at P0
            rw [z1] at P1
            clear z0 z1 IE
            go_enter Try.func58, Try.ntmps58
            go_upto_region 2 with fail
            refine wpc_world (InsI w As N cs b off A2 A3 A4 c1 c2 c3 c4 c x) (by first | exact InsI.start _ _ _ _ _ _ _ _ _ _ _ _ _ _ _ | exact InsI.start w As N cs b off A2 A3 A4 c1 c2 c3 c4 c x) ?_
            intro X hX
            have IX := Lib.hid hX
            have BX := Lib.hid (H.out.below hX.lo)
            obtain ⟨a0, a1, a2, a3, a4, a5, a6, a7, f0, f1, f2, f3, g0, l0, l1, l2⟩ := hX.cells
            clear hX
            go_upto_region 6 with (first | (go_at_call 51; refine (callGr (PT.out _)).mono ?_; rintro e w' ⟨pp, rfl, rfl⟩) | (go_at_call 73; refine (callGr (RN.out _)).mono ?_; rintro e w' ⟨pp, rfl, rfl⟩))
            refine wpc_world (InsI w As N cs b off A2 A3 A4 c1 c2 c3 c4 c x) (by have := IX.out; exact this.grow (by (repeat (with_reducible first | exact Below.refl _ _ | (refine bl_set ?_ (by first | omega | (simp; done) | (simp; omega)) _) | refine bl_gr ?_ _ | refine bl_al ?_ _ | refine below_setRow ?_ (by first | omega | (simp; done) | (simp; omega)) _ | refine bl_drewN ?_ _ | refine Below.drew ?_ | (refine bl_tr ?_ (by assumption)))))) ?_
            intro X hX
            have IX := Lib.hid hX
            have BX := Lib.hid (H.out.below hX.lo)
            obtain ⟨a0, a1, a2, a3, a4, a5, a6, a7, f0, f1, f2, f3, g0, l0, l1, l2⟩ := hX.cells
            clear hX
            ((first | (with_reducible refine wp_quiet_gr Try.mixed ?_ ?_) | (with_reducible refine wp_quiet_any Try.mixed ?_ ?_)); (next => kernel_rfl); (repeat (with_reducible refine wpQuiet_step (fun K hK => ?_); go_simp; first | (refine hK _ ?_; clear hK K) | (apply Exists.intro; refine ⟨fun _ => ?_, hK _ ?_⟩; ((go_at_call 75; exact callQ (P0.out _ (BX.out.below (below_gr _ _))))); clear hK K))); refine wpQuiet_nil ?_; intro pq)
            go_simp
            go_upto_region 8 with fail
            refine wpc_world (InsI w As N cs b off A2 A3 A4 c1 c2 c3 c4 c x) (by have := IX.out; exact this.grow (below_gr _ _)) ?_
            intro X hX
            have IX := Lib.hid hX
            have BX := Lib.hid (H.out.below hX.lo)
            obtain ⟨a0, a1, a2, a3, a4, a5, a6, a7, f0, f1, f2, f3, g0, l0, l1, l2⟩ := hX.cells
            clear hX
            ((first | (with_reducible refine wp_quiet_gr Try.mixed ?_ ?_) | (with_reducible refine wp_quiet_any Try.mixed ?_ ?_)); (next => kernel_rfl); (repeat (with_reducible refine wpQuiet_step (fun K hK => ?_); go_simp; first | (refine hK _ ?_; clear hK K) | (apply Exists.intro; refine ⟨fun _ => ?_, hK _ ?_⟩; ((go_at_call 75; exact callQ (P1.out _ (BX.out.below (below_gr _ _))))); clear hK K))); refine wpQuiet_nil ?_; intro pq)
            go_simp
            go_upto_region 10 with fail
            refine wpc_world (InsI w As N cs b off A2 A3 A4 c1 c2 c3 c4 c x) (by have := IX.out; exact this.grow (below_gr _ _)) ?_
            intro X hX
            have IX := Lib.hid hX
            have BX := Lib.hid (H.out.below hX.lo)
            obtain ⟨a0, a1, a2, a3, a4, a5, a6, a7, f0, f1, f2, f3, g0, l0, l1, l2⟩ := hX.cells
            clear hX
            ((first | (with_reducible refine wp_quiet_gr Try.mixed ?_ ?_) | (with_reducible refine wp_quiet_any Try.mixed ?_ ?_)); (next => kernel_rfl); (repeat (with_reducible refine wpQuiet_step (fun K hK => ?_); go_simp; first | (refine hK _ ?_; clear hK K) | (apply Exists.intro; refine ⟨fun _ => ?_, hK _ ?_⟩; ((go_at_call 75; exact callQ (P2.out _ (BX.out.below (below_gr _ _))))); clear hK K))); refine wpQuiet_nil ?_; intro pq)
            go_simp
            go_wp2
            go_ret
            exact ⟨ret_int RS.out.symm, bl_tr IX.out.lo (by (repeat (with_reducible first | exact Below.refl _ _ | (refine bl_set ?_ (by first | omega | (simp; done) | (simp; omega)) _) | refine bl_gr ?_ _ | refine bl_al ?_ _ | refine below_setRow ?_ (by first | omega | (simp; done) | (simp; omega)) _ | refine bl_drewN ?_ _ | refine Below.drew ?_ | (refine bl_tr ?_ (by assumption)))))⟩
          · have RS := Lib.hid (show insE (N : Int) c at_ x = r1 by rw [IE.out, if_neg (by rw [z0]; simp), if_pos (by exact z1)])
            have e9 : (r1 == 0) = false := by simpa using z1
            rw [z0] at P0
            clear z0 z1 IE
            go_enter Try.func58, Try.ntmps58
            go_upto_region 2 with fail
            refine wpc_world (InsI w As N cs b off A2 A3 A4 c1 c2 c3 c4 c x) (by first | exact InsI.start _ _ _ _ _ _ _ _ _ _ _ _ _ _ _ | exact InsI.start w As N cs b off A2 A3 A4 c1 c2 c3 c4 c x) ?_
            intro X hX
            have IX := Lib.hid hX
            have BX := Lib.hid (H.out.below hX.lo)
            obtain ⟨a0, a1, a2, a3, a4, a5, a6, a7, f0, f1, f2, f3, g0, l0, l1, l2⟩ := hX.cells
            clear hX
            go_upto_region 6 with (first | (go_at_call 51; refine (callGr (PT.out _)).mono ?_; rintro e w' ⟨pp, rfl, rfl⟩) | (go_at_call 73; refine (callGr (RN.out _)).mono ?_; rintro e w' ⟨pp, rfl, rfl⟩))
            refine wpc_world (InsI w As N cs b off A2 A3 A4 c1 c2 c3 c4 c x) (by have := IX.out; exact this.grow (by (repeat (with_reducible first | exact Below.refl _ _ | (refine bl_set ?_ (by first | omega | (simp; done) | (simp; omega)) _) | refine bl_gr ?_ _ | refine bl_al ?_ _ | refine below_setRow ?_ (by first | omega | (simp; done) | (simp; omega)) _ | refine bl_drewN ?_ _ | refine Below.drew ?_ | (refine bl_tr ?_ (by assumption)))))) ?_
            intro X hX
            have IX := Lib.hid hX
            have BX := Lib.hid (H.out.below hX.lo)
            obtain ⟨a0, a1, a2, a3, a4, a5, a6, a7, f0, f1, f2, f3, g0, l0, l1, l2⟩ := hX.cells
            clear hX
            ((first | (with_reducible refine wp_quiet_gr Try.mixed ?_ ?_) | (with_reducible refine wp_quiet_any Try.mixed ?_ ?_)); (next => kernel_rfl); (repeat (with_reducible refine wpQuiet_step (fun K hK => ?_); go_simp; first | (refine hK _ ?_; clear hK K) | (apply Exists.intro; refine ⟨fun _ => ?_, hK _ ?_⟩; ((go_at_call 75; exact callQ (P0.out _ (BX.out.below (below_gr _ _))))); clear hK K))); refine wpQuiet_nil ?_; intro pq)
            go_simp
            go_upto_region 8 with fail
            refine wpc_world (InsI w As N cs b off A2 A3 A4 c1 c2 c3 c4 c x) (by have := IX.out; exact this.grow (below_gr _ _)) ?_
            intro X hX
            have IX := Lib.hid hX
            have BX := Lib.hid (H.out.below hX.lo)
            obtain ⟨a0, a1, a2, a3, a4, a5, a6, a7, f0, f1, f2, f3, g0, l0, l1, l2⟩ := hX.cells
            clear hX
            ((first | (with_reducible refine wp_quiet_gr Try.mixed ?_ ?_) | (with_reducible refine wp_quiet_any Try.mixed ?_ ?_)); (next => kernel_rfl); (repeat (with_reducible refine wpQuiet_step (fun K hK => ?_); go_simp; first | (refine hK _ ?_; clear hK K) | (apply Exists.intro; refine ⟨fun _ => ?_, hK _ ?_⟩; ((go_at_call 75; exact callQ (P1.out _ (BX.out.below (below_gr _ _))))); clear hK K))); refine wpQuiet_nil ?_; intro pq)
            go_simp
            go_wp2
            go_ret
            exact ⟨ret_int RS.out.symm, bl_tr IX.out.lo (by (repeat (with_reducible first | exact Below.refl _ _ | (refine bl_set ?_ (by first | omega | (simp; done) | (simp; omega)) _) | refine bl_gr ?_ _ | refine bl_al ?_ _ | refine below_setRow ?_ (by first | omega | (simp; done) | (simp; omega)) _ | refine bl_drewN ?_ _ | refine Below.drew ?_ | (refine bl_tr ?_ (by assumption)))))⟩
        · have RS := Lib.hid (show insE (N : Int) c at_ x = r0 by rw [IE.out, if_pos (by exact z0)])
          have e9 : (r0 == 0) = false := by simpa using z0
          clear z0 IE
          go_enter Try.func58, Try.ntmps58
          go_upto_region 2 with fail
          refine wpc_world (InsI w As N cs b off A2 A3 A4 c1 c2 c3 c4 c x) (by first | exact InsI.start _ _ _ _ _ _ _ _ _ _ _ _ _ _ _ | exact InsI.start w As N cs b off A2 A3 A4 c1 c2 c3 c4 c x) ?_
          intro X hX
          have IX := Lib.hid hX
          have BX := Lib.hid (H.out.below hX.lo)
          obtain ⟨a0, a1, a2, a3, a4, a5, a6, a7, f0, f1, f2, f3, g0, l0, l1, l2⟩ := hX.cells
          clear hX
          go_upto_region 6 with (first | (go_at_call 51; refine (callGr (PT.out _)).mono ?_; rintro e w' ⟨pp, rfl, rfl⟩) | (go_at_call 73; refine (callGr (RN.out _)).mono ?_; rintro e w' ⟨pp, rfl, rfl⟩))
          refine wpc_world (InsI w As N cs b off A2 A3 A4 c1 c2 c3 c4 c x) (by have := IX.out; exact this.grow (by (repeat (with_reducible first | exact Below.refl _ _ | (refine bl_set ?_ (by first | omega | (simp; done) | (simp; omega)) _) | refine bl_gr ?_ _ | refine bl_al ?_ _ | refine below_setRow ?_ (by first | omega | (simp; done) | (simp; omega)) _ | refine bl_drewN ?_ _ | refine Below.drew ?_ | (refine bl_tr ?_ (by assumption)))))) ?_
          intro X hX
          have IX := Lib.hid hX
          have BX := Lib.hid (H.out.below hX.lo)
          obtain ⟨a0, a1, a2, a3, a4, a5, a6, a7, f0, f1, f2, f3, g0, l0, l1, l2⟩ := hX.cells
          clear hX
          ((first | (with_reducible refine wp_quiet_gr Try.mixed ?_ ?_) | (with_reducible refine wp_quiet_any Try.mixed ?_ ?_)); (next => kernel_rfl); (repeat (with_reducible refine wpQuiet_step (fun K hK => ?_); go_simp; first | (refine hK _ ?_; clear hK K) | (apply Exists.intro; refine ⟨fun _ => ?_, hK _ ?_⟩; ((go_at_call 75; exact callQ (P0.out _ (BX.out.below (below_gr _ _))))); clear hK K))); refine wpQuiet_nil ?_; intro pq)
          go_simp
          go_wp2
          go_ret
          exact ⟨ret_int RS.out.symm, bl_tr IX.out.lo (by (repeat (with_reducible first | exact Below.refl _ _ | (refine bl_set ?_ (by first | omega | (simp; done) | (simp; omega)) _) | refine bl_gr ?_ _ | refine bl_al ?_ _ | refine below_setRow ?_ (by first | omega | (simp; done) | (simp; omega)) _ | refine bl_drewN ?_ _ | refine Below.drew ?_ | (refine bl_tr ?_ (by assumption)))))⟩
  · have RS := Lib.hid (show insE (N : Int) c at_ x = 40 by unfold insE; rw [if_pos (.inl hop)])
    rw [RS.out]
    rw [show partM x.op = ⟨#[]⟩ by unfold partM; rw [if_neg hop]] at PT
    have hne : ((⟨#[]⟩ : ByteArray).toList == []) = true := by rw [ByteArray.toList_eq]; rfl
    clear h hop hx hlt ho y6 y7
    generalize nameM x.op = nm at *
    go_enter Try.func58, Try.ntmps58
    go_wp2_with (first | (go_at_call 51; refine (callGr (PT.out _)).mono ?_; rintro e w' ⟨pp, rfl, rfl⟩) | (go_at_call 73; refine (callGr (RN.out _)).mono ?_; rintro e w' ⟨pp, rfl, rfl⟩))
    all_goals go_ret
    all_goals exact ⟨rfl, by (repeat (with_reducible first | exact Below.refl _ _ | (refine bl_set ?_ (by first | omega | (simp; done) | (simp; omega)) _) | refine bl_gr ?_ _ | refine bl_al ?_ _ | refine below_setRow ?_ (by first | omega | (simp; done) | (simp; omega)) _ | refine bl_drewN ?_ _ | refine Below.drew ?_ | (refine bl_tr ?_ (by assumption))))⟩
end Go.Proofs.Ytcmpgohpncnagaa
