/- The law VerifyGuards, walked. -/
import Derived.Test.YtcmpgohpncnagaaVfB
import Derived.Test.YtcmpgohpncnagaaVfD
import Derived.Test.YtcmpgohpncnagaaVfH
namespace Go.Proofs.Ytcmpgohpncnagaa
set_option linter.all false
open Go.ChangeShapes Go.WideShapes Go.ChangeAt Go.RowKit Go.Sort Go.Deep Go.Shelf

theorem modn (a : Int) (n : Nat) (hn : 0 < n ∧ n ≤ 65536) : ∃ (u : Int) (f : Nat), wrap64 (a.tmod n + n) = u ∧ IntKind.i64.wrap (a.tmod n + n) = u ∧ u.tmod n = (f : Int) ∧ f < n := by
  have h1 : a.tmod n < n := Int.tmod_lt_of_pos a (by omega)
  have h2 : -(n : Int) < a.tmod n := Int.lt_tmod_of_pos a (by omega)
  refine ⟨a.tmod n + n, ((a.tmod n + n) % n).toNat, ?_, IntWalk.i64_in _ (by omega), ?_, ?_⟩
  · unfold wrap64
    omega
  · rw [Int.tmod_eq_emod_of_nonneg (by omega)]
    have := Int.emod_nonneg (a.tmod n + n) (show (n : Int) ≠ 0 by omega)
    omega
  · have h3 := Int.emod_lt_of_pos (a.tmod n + n) (show (0 : Int) < n by omega)
    have := Int.emod_nonneg (a.tmod n + n) (show (n : Int) ≠ 0 by omega)
    omega
theorem w64s {f n : Nat} (hf : f < n) (hn : n ≤ 65536) : wrap64 ((f : Int) + 1) = (f : Int) + 1 := by unfold wrap64; omega
theorem grdW_ok {f t n : Nat} {e : Int} (he : e = (f : Int) + 1) (hf : f < n) (ht : t < n) (hn : n ≤ 65536) : (⟨(f : Int), e, (t : Int), 0⟩ : GrdD).ok := by
  refine ⟨?_, ?_, ?_, i64_0⟩
  · show i64ok (f : Int)
    unfold i64ok; omega
  · show i64ok e
    unfold i64ok; omega
  · show i64ok (t : Int)
    unfold i64ok; omega
/-- two code objects in boxes -/
def TwoC (w : World) (bd : Nat) (o : Obj) (d : Obj) (X : World) : Prop := X.heap[w.heap.size]? = some o ∧ X.heap[bd]? = some d ∧ Below w.heap.size w X
theorem TwoC.step {w X Y : World} {bd : Nat} {o d : Obj} (h : TwoC w bd o d X) (hb : Below X.heap.size X Y) : TwoC w bd o d Y :=
  ⟨(hb.block _ (Array.getElem?_eq_some_iff.1 h.1).1).trans h.1, (hb.block _ (Array.getElem?_eq_some_iff.1 h.2.1).1).trans h.2.1, bl_tr h.2.2 hb⟩
theorem TwoC.lt {w X : World} {bd : Nat} {o d : Obj} (h : TwoC w bd o d X) : w.heap.size < X.heap.size ∧ bd < X.heap.size := ⟨(Array.getElem?_eq_some_iff.1 h.1).1, (Array.getElem?_eq_some_iff.1 h.2.1).1⟩
theorem TwoC.start {w Y : World} {o d : Obj} (h : OneB w Y o) : TwoC w Y.heap.size o d (Y.alloc d) := ⟨(heap_alloc_old _ _ h.lt).trans h.1, heap_alloc_new _ _, bl_al h.2 _⟩
/-- an append as one operation, the new length a letter -/
theorem wpList_appM {α : Type} {en : α → List Value} {T E : TypeId} {size bytes : Nat} {z : Value} (el : ElemOf α en T E size bytes z) {w : World} {ops : Array Oper} {rest : List Oper} {o : Oper} {a : Act} {Q : Exit → Act → World → Prop} (hgd : o.guard = none) (s x : Operand)
    (ho : o.op = .call { callee := .builtin .append, args := #[s, x], argTypes := #[T, T] }) (lo : Nat) (ys xs : List α) {yv sv : Value}
    (hs : a.eval s = yv) (hx : a.eval x = sv) (hown : w.ownsRow lo E size yv ys.length (flat en ys)) (hlo : lo ≤ w.heap.size) (hsv : SlOf w size en sv xs) (h1 : ∀ x ∈ xs, ∀ u ∈ en x, u.oneCell' = true) (hm : (ys ++ xs).length ≤ 100000 ∧ bytes ≤ 1000)
    (hh : ∀ A m n w', m = (ys ++ xs).length → w'.ownsRow lo E size (.slice A m n) (ys ++ xs).length (flat en (ys ++ xs)) → w.grownBy w' yv.ownBlock → wpList Try.prog ops Q rest (a.put o.dst (.slice A m n)) w') : wpList Try.prog ops Q (o :: rest) a w :=
  wpList_appG el hgd s x ho lo ys xs hs hx hown hlo hsv h1 (Nat.le_trans (Nat.mul_le_mul hm.1 hm.2) (by decide)) (by omega) fun A n w' h2 h3 => hh A _ n w' rfl h2 h3
theorem cd4_g {w : World} {i p k g g' : Value} {c : CodeD} {l : List GrdD} (h : Cd4 w i p k g c) (hg : IsG4 w g' l) : Cd4 w i p k g' { c with gs := l } := ⟨h.i, h.p, h.k, hg⟩
theorem TwoC.put7 {w X : World} {bd lo m n : Nat} {o : Obj} {nm : ByteArray} {kd ln rg : Int} {i p k g : Value} {A : Option Addr} {L : List GrdD} (h : TwoC w bd o (codeO nm kd ln rg i p k g) X) (hb : w.heap.size < bd) (ho : X.ownsRow lo 48 4 (.slice A m n) L.length (flat GrdD.cs L)) (hm : m = L.length) :
    TwoC w bd o (codeO nm kd ln rg i p k (.slice A m n)) (X.setCell ⟨bd, 7, none⟩ (.slice A m n)) ∧ IsG4 (X.setCell ⟨bd, 7, none⟩ (.slice A m n)) (.slice A m n) L := by
  refine ⟨⟨(heap_setCell_other X _ _ _ (by dsimp only; omega)).trans h.1, heap_setCell_same X _ _ _ _ _ h.2.1, bl_set h.2.2 (by dsimp only; omega) _⟩, ?_⟩
  subst hm
  exact ownsRow_slOf grd_len (ownsRow_touch ho ((Touch.refl _ _).set1 _ _) (own_ne ho h.2.1 (by decide)))
set_option maxRecDepth 100000 in
set_option maxHeartbeats 8000000 in
/-- the code object is not taken -/
theorem guards_no (c : CodeD) (A1 A2 A3 A4 : Option Addr) (c1 c2 c3 c4 : Nat) (fr tn : Int) (hc : c.ok) (w : World) (h : Cd4 w (.slice A1 c.ins.length c1) (.slice A2 c.pl.length c2) (.slice A3 c.ks.length c3) (.slice A4 c.gs.length c4) c) (hno : rightC c = false ∨ c.ins.length = 0 ∨ c.rg = 0) :
    Calls Try.prog 7 #[codeV c.nm c.kd c.ln c.rg (.slice A1 c.ins.length c1) (.slice A2 c.pl.length c2) (.slice A3 c.ks.length c3) (.slice A4 c.gs.length c4), .int .i64 fr, .int .i64 tn] w fun e w' => e = .returned (.bool true) ∧ Below w.heap.size w w' := by
  have LV := Lib.hid (fun W => livesc_any W)
  have SM := Lib.hid (fun W (hW : Below w.heap.size w W) => smallc_any c _ _ _ _ hc W (h.below hW))
  have CR := Lib.hid (fun W (hW : Below w.heap.size w W) => rightC_any c _ _ _ _ hc W (h.below hW))
  generalize rightC c = rt at *
  clear h hc
  have Q : rt = false ∨ rt = true ∧ (((c.ins.length : Int) == 0) = true) ∨ rt = true ∧ (((c.ins.length : Int) == 0) = false) ∧ (c.rg == 0) = true := by
    cases rt
    · exact .inl rfl
    · by_cases hz : c.ins.length = 0
      · exact .inr (.inl ⟨rfl, by rw [hz]; rfl⟩)
      · rcases hno with h | h | h
        · cases h
        · exact absurd h hz
        · exact .inr (.inr ⟨rfl, by rw [beq_eq_false_iff_ne]; omega, by rw [h]; rfl⟩)
  clear hno
  rcases Q with rfl | ⟨rfl, q1⟩ | ⟨rfl, q1, q2⟩
  · go_enter Try.func7, Try.ntmps7
    go_wp2_with (first
      | (go_at_call 8; go_loud (refine (SM.out _ (by (repeat (with_reducible first | exact Below.refl _ _ | (refine bl_set ?_ (by first | omega | (simp; done) | (simp; omega)) _) | refine bl_gr ?_ _ | refine bl_al ?_ _ | refine below_setRow ?_ (by first | omega | (simp; done) | (simp; omega)) _ | refine bl_drewN ?_ _ | refine Below.drew ?_ | (refine bl_tr ?_ (by assumption)))))).mono ?_; rintro e w3 ⟨v, rfl, ⟨r, rfl, -⟩, hb⟩; obtain ⟨p9, rfl⟩ := gr_of_below hb; clear hb; cases r))
      | (go_at_call 18; refine (callGr (CR.out _ (by (repeat (with_reducible first | exact Below.refl _ _ | (refine bl_set ?_ (by first | omega | (simp; done) | (simp; omega)) _) | refine bl_gr ?_ _ | refine bl_al ?_ _ | refine below_setRow ?_ (by first | omega | (simp; done) | (simp; omega)) _ | refine bl_drewN ?_ _ | refine Below.drew ?_ | (refine bl_tr ?_ (by assumption))))))).mono ?_; rintro e w' ⟨pp, rfl, rfl⟩)
      | (go_at_call 9; refine (callGr (LV.out _)).mono ?_; rintro e w' ⟨pp, rfl, rfl⟩))
    all_goals go_ret
    all_goals exact ⟨rfl, by (repeat (with_reducible first | exact Below.refl _ _ | (refine bl_set ?_ (by first | omega | (simp; done) | (simp; omega)) _) | refine bl_gr ?_ _ | refine bl_al ?_ _ | refine below_setRow ?_ (by first | omega | (simp; done) | (simp; omega)) _ | refine bl_drewN ?_ _ | refine Below.drew ?_ | (refine bl_tr ?_ (by assumption))))⟩
  · go_enter Try.func7, Try.ntmps7
    go_wp2_with (first
      | (go_at_call 8; go_loud (refine (SM.out _ (by (repeat (with_reducible first | exact Below.refl _ _ | (refine bl_set ?_ (by first | omega | (simp; done) | (simp; omega)) _) | refine bl_gr ?_ _ | refine bl_al ?_ _ | refine below_setRow ?_ (by first | omega | (simp; done) | (simp; omega)) _ | refine bl_drewN ?_ _ | refine Below.drew ?_ | (refine bl_tr ?_ (by assumption)))))).mono ?_; rintro e w3 ⟨v, rfl, ⟨r, rfl, -⟩, hb⟩; obtain ⟨p9, rfl⟩ := gr_of_below hb; clear hb; cases r))
      | (go_at_call 18; refine (callGr (CR.out _ (by (repeat (with_reducible first | exact Below.refl _ _ | (refine bl_set ?_ (by first | omega | (simp; done) | (simp; omega)) _) | refine bl_gr ?_ _ | refine bl_al ?_ _ | refine below_setRow ?_ (by first | omega | (simp; done) | (simp; omega)) _ | refine bl_drewN ?_ _ | refine Below.drew ?_ | (refine bl_tr ?_ (by assumption))))))).mono ?_; rintro e w' ⟨pp, rfl, rfl⟩)
      | (go_at_call 9; refine (callGr (LV.out _)).mono ?_; rintro e w' ⟨pp, rfl, rfl⟩))
    all_goals go_ret
    all_goals exact ⟨rfl, by (repeat (with_reducible first | exact Below.refl _ _ | (refine bl_set ?_ (by first | omega | (simp; done) | (simp; omega)) _) | refine bl_gr ?_ _ | refine bl_al ?_ _ | refine below_setRow ?_ (by first | omega | (simp; done) | (simp; omega)) _ | refine bl_drewN ?_ _ | refine Below.drew ?_ | (refine bl_tr ?_ (by assumption))))⟩
  · go_enter Try.func7, Try.ntmps7
    go_wp2_with (first
      | (go_at_call 8; go_loud (refine (SM.out _ (by (repeat (with_reducible first | exact Below.refl _ _ | (refine bl_set ?_ (by first | omega | (simp; done) | (simp; omega)) _) | refine bl_gr ?_ _ | refine bl_al ?_ _ | refine below_setRow ?_ (by first | omega | (simp; done) | (simp; omega)) _ | refine bl_drewN ?_ _ | refine Below.drew ?_ | (refine bl_tr ?_ (by assumption)))))).mono ?_; rintro e w3 ⟨v, rfl, ⟨r, rfl, -⟩, hb⟩; obtain ⟨p9, rfl⟩ := gr_of_below hb; clear hb; cases r))
      | (go_at_call 18; refine (callGr (CR.out _ (by (repeat (with_reducible first | exact Below.refl _ _ | (refine bl_set ?_ (by first | omega | (simp; done) | (simp; omega)) _) | refine bl_gr ?_ _ | refine bl_al ?_ _ | refine below_setRow ?_ (by first | omega | (simp; done) | (simp; omega)) _ | refine bl_drewN ?_ _ | refine Below.drew ?_ | (refine bl_tr ?_ (by assumption))))))).mono ?_; rintro e w' ⟨pp, rfl, rfl⟩)
      | (go_at_call 9; refine (callGr (LV.out _)).mono ?_; rintro e w' ⟨pp, rfl, rfl⟩))
    all_goals go_ret
    all_goals exact ⟨rfl, by (repeat (with_reducible first | exact Below.refl _ _ | (refine bl_set ?_ (by first | omega | (simp; done) | (simp; omega)) _) | refine bl_gr ?_ _ | refine bl_al ?_ _ | refine below_setRow ?_ (by first | omega | (simp; done) | (simp; omega)) _ | refine bl_drewN ?_ _ | refine Below.drew ?_ | (refine bl_tr ?_ (by assumption))))⟩
set_option maxRecDepth 100000 in
set_option maxHeartbeats 16000000 in
theorem guards_yes (c : CodeD) (A1 A2 A3 A4 : Option Addr) (c1 c2 c3 c4 : Nat) (fr tn : Int) (hc : c.ok) (w : World) (h : Cd4 w (.slice A1 c.ins.length c1) (.slice A2 c.pl.length c2) (.slice A3 c.ks.length c3) (.slice A4 c.gs.length c4) c) (hr : rightC c = true) (hz : c.ins.length ≠ 0) (hg : c.rg ≠ 0) :
    Calls Try.prog 7 #[codeV c.nm c.kd c.ln c.rg (.slice A1 c.ins.length c1) (.slice A2 c.pl.length c2) (.slice A3 c.ks.length c3) (.slice A4 c.gs.length c4), .int .i64 fr, .int .i64 tn] w fun e w' => e = .returned (.bool true) ∧ Below w.heap.size w w' := by
  have hn : 0 < c.ins.length ∧ c.ins.length ≤ 65536 := ⟨by omega, (rightC_len hr).1⟩
  have q1 : ((c.ins.length : Int) == 0) = false := by rw [beq_eq_false_iff_ne]; omega
  have q2 : (c.rg == 0) = false := by rw [beq_eq_false_iff_ne]; exact hg
  have q3 : ¬ (c.ins.length : Int) = 0 := by omega
  have q4 : ¬ c.ins = [] := fun e => hz (by rw [e]; rfl)
  obtain ⟨u1, f, x1, x2, x3, hf⟩ := modn fr c.ins.length hn
  obtain ⟨u2, t, y1, y2, y3, ht⟩ := modn tn c.ins.length hn
  obtain ⟨e, he⟩ : ∃ e : Int, e = (f : Int) + 1 := ⟨_, rfl⟩
  have ee : wrap64 ((f : Int) + 1) = e := he ▸ w64s hf hn.2
  have H := Lib.hid h
  have LV := Lib.hid (fun W => livesc_any W)
  have SM := Lib.hid (fun W (hW : Below w.heap.size w W) => smallc_any c _ _ _ _ hc W (h.below hW))
  have CR := Lib.hid (fun W (hW : Below w.heap.size w W) => rightC_any c _ _ _ _ hc W (h.below hW))
  have RA := Lib.hid (fun W (hW : Below w.heap.size w W) => reaches_any c _ _ _ _ hc W (h.below hW))
  have GK : (⟨(f : Int), e, (t : Int), 0⟩ : GrdD).ok := grdW_ok he hf ht hn.2
  have WK : (codeW c ⟨(f : Int), e, (t : Int), 0⟩).ok := ⟨hc.1, hc.2.1, hc.2.2.1, hc.2.2.2.1, hc.2.2.2.2.1, hc.2.2.2.2.2.1, hc.2.2.2.2.2.2.1, fun y hy => by
    rcases List.mem_append.1 hy with hy | hy
    · exact hc.2.2.2.2.2.2.2 y hy
    · rw [List.mem_singleton.1 hy]; exact GK⟩
  have RB := Lib.hid (fun W i p k g (h : Cd4 W i p k g (codeW c ⟨(f : Int), e, (t : Int), 0⟩)) => reaches_any (codeW c ⟨(f : Int), e, (t : Int), 0⟩) i p k g WK W h)
  have RW := Lib.hid (fun (hl : c.gs.length ≤ 60) => right_W hr (g := ⟨(f : Int), e, (t : Int), 0⟩) (Nat.lt_of_le_of_lt hl (by decide)) (by rw [he]; exact gdM_new hr hg hf ht))
  have LA := Lib.hid (reach_len hr)
  have LB := Lib.hid (fun (hw : rightC (codeW c ⟨(f : Int), e, (t : Int), 0⟩) = true) => (reach_len hw : (reachC (codeW c ⟨(f : Int), e, (t : Int), 0⟩)).length = c.ins.length))
  have MN := Lib.hid (fun (hw : rightC (codeW c ⟨(f : Int), e, (t : Int), 0⟩) = true) (k : Nat) (hk : (reachC c)[k]? = some true) => reach_W hr hw hk)
  have NW := Lib.hid (fun (hw : rightC (codeW c ⟨(f : Int), e, (t : Int), 0⟩) = true) (hk : (reachC (codeW c ⟨(f : Int), e, (t : Int), 0⟩))[f]? = some true) => reach_new hw hf ht hk)
  unfold RetB at RA RB
  generalize reachC c = L at *
  generalize reachC (codeW c ⟨(f : Int), e, (t : Int), 0⟩) = L2 at *
  have HN := Lib.hid hn
  have HF := Lib.hid (And.intro hf ht)
  rw [hr] at CR
  clear h hc GK WK he hr hz hg hn hf ht
  go_enter Try.func7, Try.ntmps7
  go_upto_region 3 with (first
    | (go_at_call 8; go_loud (refine (SM.out _ (by (repeat (with_reducible first | exact Below.refl _ _ | (refine bl_set ?_ (by first | omega | (simp; done) | (simp; omega)) _) | refine bl_gr ?_ _ | refine bl_al ?_ _ | refine below_setRow ?_ (by first | omega | (simp; done) | (simp; omega)) _ | refine bl_drewN ?_ _ | refine Below.drew ?_ | (refine bl_tr ?_ (by assumption)))))).mono ?_; rintro e w3 ⟨v, rfl, ⟨r, rfl, hr⟩, hb⟩; have FE := Lib.hid hr; obtain ⟨p9, rfl⟩ := gr_of_below hb; clear hb hr; cases r))
    | (go_at_call 18; refine (callGr (CR.out _ (by (repeat (with_reducible first | exact Below.refl _ _ | (refine bl_set ?_ (by first | omega | (simp; done) | (simp; omega)) _) | refine bl_gr ?_ _ | refine bl_al ?_ _ | refine below_setRow ?_ (by first | omega | (simp; done) | (simp; omega)) _ | refine bl_drewN ?_ _ | refine Below.drew ?_ | (refine bl_tr ?_ (by assumption))))))).mono ?_; rintro e w' ⟨pp, rfl, rfl⟩)
    | (go_at_call 9; refine (callGr (LV.out _)).mono ?_; rintro e w' ⟨pp, rfl, rfl⟩))
  · go_ret
    exact ⟨rfl, by (repeat (with_reducible first | exact Below.refl _ _ | (refine bl_set ?_ (by first | omega | (simp; done) | (simp; omega)) _) | refine bl_gr ?_ _ | refine bl_al ?_ _ | refine below_setRow ?_ (by first | omega | (simp; done) | (simp; omega)) _ | refine bl_drewN ?_ _ | refine Below.drew ?_ | (refine bl_tr ?_ (by assumption))))⟩
  have HW := Lib.hid (RW.out (FE.out trivial).2)
  have LB := Lib.hid (LB.out HW.out)
  have MN := Lib.hid (MN.out HW.out)
  have NW := Lib.hid (NW.out HW.out)
  have GL := Lib.hid (FE.out trivial).2
  clear FE RW
  refine wpc_world (fun X => OneB w X (codeO c.nm c.kd c.ln c.rg (.slice A1 c.ins.length c1) (.slice A2 c.pl.length c2) (.slice A3 c.ks.length c3) (.slice A4 c.gs.length c4))) ((OneB.start w _).step (by (repeat (with_reducible first | exact Below.refl _ _ | (refine bl_set ?_ (by first | omega | (simp; done) | (simp; omega)) _) | refine bl_gr ?_ _ | refine bl_al ?_ _ | refine below_setRow ?_ (by first | omega | (simp; done) | (simp; omega)) _ | refine bl_drewN ?_ _ | refine Below.drew ?_ | (refine bl_tr ?_ (by assumption)))))) ?_
  intro X hX
  have BX := Lib.hid hX
  obtain ⟨⟨a0, a1, a2, a3, a4, a5, a6, a7⟩, _⟩ := cells8 hX.1
  have l0 := hX.lt
  clear hX
  ((first | (with_reducible refine wp_quiet_gr Try.mixed ?_ ?_) | (with_reducible refine wp_quiet_any Try.mixed ?_ ?_)); (next => kernel_rfl); (repeat (with_reducible refine wpQuiet_step (fun K hK => ?_); go_simp; first | (refine hK _ ?_; clear hK K) | (apply Exists.intro; refine ⟨fun _ => ?_, hK _ ?_⟩; (fail); clear hK K))); refine wpQuiet_nil ?_; intro pq)
  go_simp
  go_upto_region 4 with fail
  ((first | (with_reducible refine wp_quiet_gr Try.mixed ?_ ?_) | (with_reducible refine wp_quiet_any Try.mixed ?_ ?_)); (next => kernel_rfl); (repeat (with_reducible refine wpQuiet_step (fun K hK => ?_); go_simp; first | (refine hK _ ?_; clear hK K) | (apply Exists.intro; refine ⟨fun _ => ?_, hK _ ?_⟩; (fail); clear hK K))); refine wpQuiet_nil ?_; intro pq)
  go_simp
  go_upto_region 5 with fail
  refine wpc_world (fun Y => OneB w Y (codeO c.nm c.kd c.ln c.rg (.slice A1 c.ins.length c1) (.slice A2 c.pl.length c2) (.slice A3 c.ks.length c3) (.slice A4 c.gs.length c4))) (BX.out.step (by (repeat (with_reducible first | exact Below.refl _ _ | (refine bl_set ?_ (by first | omega | (simp; done) | (simp; omega)) _) | refine bl_gr ?_ _ | refine bl_al ?_ _ | refine below_setRow ?_ (by first | omega | (simp; done) | (simp; omega)) _ | refine bl_drewN ?_ _ | refine Below.drew ?_ | (refine bl_tr ?_ (by assumption)))))) ?_
  intro Y hY
  have BY := Lib.hid hY
  clear a0 a1 a2 a3 a4 a5 a6 a7 l0 BX x1 x2 x3 y1 y2 y3
  obtain ⟨⟨a0, a1, a2, a3, a4, a5, a6, a7⟩, _⟩ := cells8 hY.1
  have l0 := hY.lt
  clear hY
  go_upto_region 6 with fail
  refine wpc_world (fun X => TwoC w Y.heap.size (codeO c.nm c.kd c.ln c.rg (.slice A1 c.ins.length c1) (.slice A2 c.pl.length c2) (.slice A3 c.ks.length c3) (.slice A4 c.gs.length c4)) (codeO c.nm c.kd c.ln c.rg (.slice A1 c.ins.length c1) (.slice A2 c.pl.length c2) (.slice A3 c.ks.length c3) (.slice A4 c.gs.length c4)) X) (TwoC.start BY.out) ?_
  intro X hX
  have CX := Lib.hid hX
  have HX := Lib.hid (H.out.below hX.2.2)
  have NB := Lib.hid (show w.heap.size < Y.heap.size from BY.out.lt)
  clear a0 a1 a2 a3 a4 a5 a6 a7 l0
  generalize Y.heap.size = bd at *
  clear BY
  obtain ⟨⟨a0, a1, a2, a3, a4, a5, a6, a7⟩, _⟩ := cells8 hX.1
  have l0 := hX.lt.1
  clear hX
  go_upto_region 7 with (first
    | (at_builtin; refine wpList_appM elem_grd rfl _ _ rfl X.heap.size [] c.gs (yv := .slice (some ⟨X.heap.size, 0, none⟩) 0 0) (sv := .slice A4 c.gs.length c4) rfl rfl (own_empty (heap_alloc_new _ _) (Nat.le_refl _)) (by simp) (HX.out.g.below (by (repeat (with_reducible first | exact Below.refl _ _ | (refine bl_set ?_ (by first | omega | (simp; done) | (simp; omega)) _) | refine bl_gr ?_ _ | refine bl_al ?_ _ | refine below_setRow ?_ (by first | omega | (simp; done) | (simp; omega)) _ | refine bl_drewN ?_ _ | refine Below.drew ?_ | (refine bl_tr ?_ (by assumption)))))) (fun x _ => one_grd x) (by have := GL.out; simp; omega) ?_; intro A5 m5 n5 w5 e5 o5 g5; (simp only [List.nil_append] at o5); have O5 := Lib.hid o5; have G5 := Lib.hid (show Below X.heap.size X w5 from grown_lo (by (repeat (with_reducible first | exact Below.refl _ _ | (refine bl_set ?_ (by first | omega | (simp; done) | (simp; omega)) _) | refine bl_gr ?_ _ | refine bl_al ?_ _ | refine below_setRow ?_ (by first | omega | (simp; done) | (simp; omega)) _ | refine bl_drewN ?_ _ | refine Below.drew ?_ | (refine bl_tr ?_ (by assumption))))) g5 (by intro g hg; simp [Value.ownBlock] at hg; omega)); clear e5 o5 g5)
    | (at_builtin; go_loud (refine wpList_appM elem_grd rfl _ _ rfl X.heap.size c.gs [⟨(f : Int), e, (t : Int), 0⟩] (yv := .slice A5 m5 n5) (sv := .slice (some ⟨w5.heap.size, 0, none⟩) 1 1) rfl rfl (ownsRow_below O5.out (by (repeat (with_reducible first | exact Below.refl _ _ | (refine bl_set ?_ (by first | omega | (simp; done) | (simp; omega)) _) | refine bl_gr ?_ _ | refine bl_al ?_ _ | refine below_setRow ?_ (by first | omega | (simp; done) | (simp; omega)) _ | refine bl_drewN ?_ _ | refine Below.drew ?_ | (refine bl_tr ?_ (by assumption)))))) (by have := G5.out.size; simp; omega) (sl_oneE (heap_alloc_new _ _) rfl) (fun x _ => one_grd x) (by have := GL.out; simp; omega) ?_; intro A6 m6 n6 w6 e6 o6 g6; have O6 := Lib.hid o6; have E6 := Lib.hid e6; have G6 := Lib.hid (show Below X.heap.size X w6 from grown_lo (bl_tr G5.out (by (repeat (with_reducible first | exact Below.refl _ _ | (refine bl_set ?_ (by first | omega | (simp; done) | (simp; omega)) _) | refine bl_gr ?_ _ | refine bl_al ?_ _ | refine below_setRow ?_ (by first | omega | (simp; done) | (simp; omega)) _ | refine bl_drewN ?_ _ | refine Below.drew ?_ | (refine bl_tr ?_ (by assumption)))))) g6 (own_lo O5.out)); clear e6 o6 g6; obtain ⟨⟨b0, b1, b2, b3, b4, b5, b6, b7⟩, bf⟩ := cells8 (CX.out.step G6.out).2.1; have l6 := (CX.out.step G6.out).lt.2)))
  refine wpc_world (fun V => TwoC w bd (codeO c.nm c.kd c.ln c.rg (.slice A1 c.ins.length c1) (.slice A2 c.pl.length c2) (.slice A3 c.ks.length c3) (.slice A4 c.gs.length c4)) (codeO c.nm c.kd c.ln c.rg (.slice A1 c.ins.length c1) (.slice A2 c.pl.length c2) (.slice A3 c.ks.length c3) (.slice A6 m6 n6)) V ∧ IsG4 V (.slice A6 m6 n6) (c.gs ++ [⟨(f : Int), e, (t : Int), 0⟩])) (TwoC.put7 (CX.out.step G6.out) NB.out O6.out E6.out) ?_
  rintro V ⟨hV, hG⟩
  have CV := Lib.hid hV
  have HG := Lib.hid hG
  clear hV hG b0 b1 b2 b3 b4 b5 b6 b7 bf l6 a0 a1 a2 a3 a4 a5 a6 a7 l0 G5 G6 O5 O6 CX HX
  (refine wp_region_held_drew (S := (fun Z : World => Below V.heap.size V Z)) Try.mixed (by (repeat (with_reducible first | exact Below.refl _ _ | (refine bl_set ?_ (by first | omega | (simp; done) | (simp; omega)) _) | refine bl_gr ?_ _ | refine bl_al ?_ _ | refine below_setRow ?_ (by first | omega | (simp; done) | (simp; omega)) _ | refine bl_drewN ?_ _ | refine Below.drew ?_ | (refine bl_tr ?_ (by assumption))))) (fun hS => ?_); (refine wpAnyH_take (i := 0) (v := ?_) rfl (by kernel_rfl) (by kernel_rfl) (by kernel_rfl) (fun _ _ _ h => h) ?_ (by assumption) ?_; rotate_left; (next => (refine Or.inl ⟨by kernel_rfl, ?_⟩; ((intro w hSw; (try dsimp only at hSw); (obtain ⟨⟨a0, a1, a2, a3, a4, a5, a6, a7⟩, _⟩ := cells8 (CV.out.step hSw).1; obtain ⟨⟨b0, b1, b2, b3, b4, b5, b6, b7⟩, _⟩ := cells8 (CV.out.step hSw).2.1); go_simp) <;> with_reducible rfl))); (try simp only [Act.put, List.getElem_toArray, List.getElem_cons_zero, List.getElem_cons_succ, List.setIfInBounds_toArray, List.set_cons_zero, List.set_cons_succ])); (refine wpAnyH_take (i := 2) (v := ?_) rfl (by kernel_rfl) (by kernel_rfl) (by kernel_rfl) (fun _ _ _ h => h) ?_ (by assumption) ?_; rotate_left; (next => (refine Or.inl ⟨by kernel_rfl, ?_⟩; ((intro w hSw; (try dsimp only at hSw); (obtain ⟨⟨a0, a1, a2, a3, a4, a5, a6, a7⟩, _⟩ := cells8 (CV.out.step hSw).1; obtain ⟨⟨b0, b1, b2, b3, b4, b5, b6, b7⟩, _⟩ := cells8 (CV.out.step hSw).2.1); go_simp) <;> with_reducible rfl))); (try simp only [Act.put, List.getElem_toArray, List.getElem_cons_zero, List.getElem_cons_succ, List.setIfInBounds_toArray, List.set_cons_zero, List.set_cons_succ])); refine wpAnyH_ready (rs := [1]) (by kernel_rfl) (by simp) ?_; refine AllReadyH.cons rfl (fun K hK => ?_) AllReadyH.nil; go_simp; (((try simp only [gr_gr, gr_drew, drew_gr] at hS); first | (go_at_call_of 10 (Value.slice A4 c.gs.length c4); refine (RA.out _ (bl_tr CV.out.2.2 hS)).mono ?_; rintro e w7 ⟨v7, rfl, hv, hb⟩; obtain ⟨A7, c7, rfl, -⟩ := hv.form; have V7 := Lib.hid hv; have B7 := Lib.hid (bl_tr hS hb); clear hv hb) | (go_at_call_of 10 (Value.slice A6 m6 n6); refine (RB.out _ _ _ _ _ (cd4_g (H.out.below (bl_tr CV.out.2.2 hS)) (HG.out.below hS))).mono ?_; rintro e w8 ⟨v8, rfl, hv, hb⟩; obtain ⟨A8, c8, rfl, -⟩ := hv.form; have V8 := Lib.hid hv; have B78 := Lib.hid (show Below w7.heap.size w7 w8 from bl_tr (by (repeat (with_reducible first | exact Below.refl _ _ | (refine bl_set ?_ (by first | omega | (simp; done) | (simp; omega)) _) | refine bl_gr ?_ _ | refine bl_al ?_ _ | refine below_setRow ?_ (by first | omega | (simp; done) | (simp; omega)) _ | refine bl_drewN ?_ _ | refine Below.drew ?_ | (refine bl_tr ?_ (by assumption))))) hb); have B8 := Lib.hid (bl_tr hS hb); clear hv hb))); refine hK.out _ _ (by exact B7.out) (fun hS => ?_); clear hK K; (try simp only [Act.put, List.getElem_toArray, List.getElem_cons_zero, List.getElem_cons_succ, List.setIfInBounds_toArray, List.set_cons_zero, List.set_cons_succ]); refine wpAnyH_ready (rs := [3]) (by kernel_rfl) (by simp) ?_; refine AllReadyH.cons rfl (fun K hK => ?_) AllReadyH.nil; go_simp; (((try simp only [gr_gr, gr_drew, drew_gr] at hS); first | (go_at_call_of 10 (Value.slice A4 c.gs.length c4); refine (RA.out _ (bl_tr CV.out.2.2 hS)).mono ?_; rintro e w7 ⟨v7, rfl, hv, hb⟩; obtain ⟨A7, c7, rfl, -⟩ := hv.form; have V7 := Lib.hid hv; have B7 := Lib.hid (bl_tr hS hb); clear hv hb) | (go_at_call_of 10 (Value.slice A6 m6 n6); refine (RB.out _ _ _ _ _ (cd4_g (H.out.below (bl_tr CV.out.2.2 hS)) (HG.out.below hS))).mono ?_; rintro e w8 ⟨v8, rfl, hv, hb⟩; obtain ⟨A8, c8, rfl, -⟩ := hv.form; have V8 := Lib.hid hv; have B78 := Lib.hid (show Below w7.heap.size w7 w8 from bl_tr (by (repeat (with_reducible first | exact Below.refl _ _ | (refine bl_set ?_ (by first | omega | (simp; done) | (simp; omega)) _) | refine bl_gr ?_ _ | refine bl_al ?_ _ | refine below_setRow ?_ (by first | omega | (simp; done) | (simp; omega)) _ | refine bl_drewN ?_ _ | refine Below.drew ?_ | (refine bl_tr ?_ (by assumption))))) hb); have B8 := Lib.hid (bl_tr hS hb); clear hv hb))); refine hK.out _ _ (by exact B8.out) (fun hS => ?_); clear hK K; (try simp only [Act.put, List.getElem_toArray, List.getElem_cons_zero, List.getElem_cons_succ, List.setIfInBounds_toArray, List.set_cons_zero, List.set_cons_succ]); (refine wpAnyH_take (i := 4) (v := ?_) rfl (by kernel_rfl) (by kernel_rfl) (by kernel_rfl) (fun _ _ _ h => h) ?_ (by assumption) ?_; rotate_left; (next => (refine Or.inl ⟨by kernel_rfl, ?_⟩; ((intro w hSw; (try dsimp only at hSw); go_simp) <;> with_reducible rfl))); (try simp only [Act.put, List.getElem_toArray, List.getElem_cons_zero, List.getElem_cons_succ, List.setIfInBounds_toArray, List.set_cons_zero, List.set_cons_succ])); (refine wpAnyH_take (i := 5) (v := ?_) rfl (by kernel_rfl) (by kernel_rfl) (by kernel_rfl) (fun _ _ _ h => h) ?_ (by assumption) ?_; rotate_left; (next => (refine Or.inl ⟨by kernel_rfl, ?_⟩; ((intro w hSw; (try dsimp only at hSw); go_simp) <;> with_reducible rfl))); (try simp only [Act.put, List.getElem_toArray, List.getElem_cons_zero, List.getElem_cons_succ, List.setIfInBounds_toArray, List.set_cons_zero, List.set_cons_succ])); refine wpAnyH_done (by kernel_rfl) ?_ _)
  go_simp
  go_upto_region 8 with fail
  refine wpc_world (fun U => Below w8.heap.size w8 U) (by (repeat (with_reducible first | exact Below.refl _ _ | (refine bl_set ?_ (by first | omega | (simp; done) | (simp; omega)) _) | refine bl_gr ?_ _ | refine bl_al ?_ _ | refine below_setRow ?_ (by first | omega | (simp; done) | (simp; omega)) _ | refine bl_drewN ?_ _ | refine Below.drew ?_ | (refine bl_tr ?_ (by assumption))))) ?_
  intro U hU
  have VA := Lib.hid (V7.out.below (bl_tr B78.out hU))
  have VB := Lib.hid (V8.out.below hU)
  have CU := Lib.hid (CV.out.step (bl_tr B8.out hU))
  clear hU V7 V8 B7 B8 B78 CV HG
  obtain ⟨⟨a0, a1, a2, a3, a4, a5, a6, a7⟩, _⟩ := cells8 CU.out.1
  have l0 := CU.out.lt.1
  have eA : ((L.length : Int) != (c.ins.length : Int)) = false := by rw [LA.out]; exact bne_self_eq_false _
  have eB : ((L2.length : Int) != (c.ins.length : Int)) = false := by rw [LB.out]; exact bne_self_eq_false _
  go_wp2
  clear a0 a1 a2 a3 a4 a5 a6 a7 l0 eA eB
  go_loopw [10] (fun i Z => ∃ q : Nat, i = .int .i64 q ∧ Hid (q ≤ L.length) ∧ Below U.heap.size U Z) (fun i _ => L.length - (intOf i).toNat)
  case atStart => exact ⟨0, rfl, Lib.hid (Nat.zero_le _), by (repeat (with_reducible first | exact Below.refl _ _ | (refine bl_set ?_ (by first | omega | (simp; done) | (simp; omega)) _) | refine bl_gr ?_ _ | refine bl_al ?_ _ | refine below_setRow ?_ (by first | omega | (simp; done) | (simp; omega)) _ | refine bl_drewN ?_ _ | refine Below.drew ?_ | (refine bl_tr ?_ (by assumption))))⟩
  case round =>
    obtain ⟨q, rfl, HQ, jb⟩ := hrel
    have JB := Lib.hid jb
    by_cases hlt : q < L.length
    · have q5 : (q : Int) < (L.length : Int) := by omega
      have q6 : (q : Int) < (L2.length : Int) := by rw [LB.out, ← LA.out]; omega
      have q7 : ¬ (q : Int) < 0 := by omega
      obtain ⟨s1, h1⟩ : ∃ x, L[q]? = some x := ⟨_, List.getElem?_eq_getElem hlt⟩
      obtain ⟨s2, h2⟩ : ∃ x, L2[q]? = some x := ⟨_, List.getElem?_eq_getElem (by omega)⟩
      obtain ⟨b1, o1, _, e1, lb1, hc1⟩ := at_B (VA.out.below jb) h1
      obtain ⟨b2, o2, _, e2, lb2, hc2⟩ := at_B (VB.out.below jb) h2
      simp only [Value.slice.injEq] at e1 e2
      obtain ⟨rfl, _, rfl⟩ := e1
      obtain ⟨rfl, _, rfl⟩ := e2
      have IM := Lib.hid (fun (e : s1 = true) => (by subst e; have := MN.out q h1; rw [h2] at this; exact Option.some.inj this : s2 = true))
      have LQ := Lib.hid hlt
      obtain ⟨kp, hkp, ek1⟩ : ∃ kp : Nat, kp = q + 1 ∧ wrap64 ((q : Int) + 1) = (kp : Int) := ⟨q + 1, rfl, w64c rfl (by have h3 := HN.out; have h4 := LA.out; omega)⟩
      have KP := Lib.hid hkp
      clear hkp hlt h1 h2 jb
      cases s1
      · go_wp2
        go_roundw
        case rel => exact ⟨kp, by first | with_reducible rfl | (rw [ek1]; done), Lib.hid (by rw [KP.out]; exact LQ.out), bl_tr JB.out (by (repeat (with_reducible first | exact Below.refl _ _ | (refine bl_set ?_ (by first | omega | (simp; done) | (simp; omega)) _) | refine bl_gr ?_ _ | refine bl_al ?_ _ | refine below_setRow ?_ (by first | omega | (simp; done) | (simp; omega)) _ | refine bl_drewN ?_ _ | refine Below.drew ?_ | (refine bl_tr ?_ (by assumption)))))⟩
        case measure => (first | ((try rw [ek1]); exact meas_c KP.out LQ.out) | (clear ek1; have := LQ.out; simp only [intOf]; omega))
      · obtain rfl := IM.out rfl
        go_wp2
        go_roundw
        case rel => exact ⟨kp, by first | with_reducible rfl | (rw [ek1]; done), Lib.hid (by rw [KP.out]; exact LQ.out), bl_tr JB.out (by (repeat (with_reducible first | exact Below.refl _ _ | (refine bl_set ?_ (by first | omega | (simp; done) | (simp; omega)) _) | refine bl_gr ?_ _ | refine bl_al ?_ _ | refine below_setRow ?_ (by first | omega | (simp; done) | (simp; omega)) _ | refine bl_drewN ?_ _ | refine Below.drew ?_ | (refine bl_tr ?_ (by assumption)))))⟩
        case measure => (first | ((try rw [ek1]); exact meas_c KP.out LQ.out) | (clear ek1; have := LQ.out; simp only [intOf]; omega))
    · have q5 : ¬ (q : Int) < (L.length : Int) := by omega
      have hf := HF.out
      have q6 : (f : Int) < (L2.length : Int) := by rw [LB.out]; omega
      have q7 : ¬ (f : Int) < 0 := by omega
      have q8 : (t : Int) < (L2.length : Int) := by rw [LB.out]; omega
      have q9 : ¬ (t : Int) < 0 := by omega
      obtain ⟨s1, h1⟩ : ∃ x, L2[f]? = some x := ⟨_, List.getElem?_eq_getElem (by omega)⟩
      obtain ⟨s2, h2⟩ : ∃ x, L2[t]? = some x := ⟨_, List.getElem?_eq_getElem (by omega)⟩
      obtain ⟨b1, o1, _, e1, lb1, hc1⟩ := at_B (VB.out.below jb) h1
      obtain ⟨b2, o2, _, e2, lb2, hc2⟩ := at_B (VB.out.below jb) h2
      simp only [Value.slice.injEq] at e1
      obtain ⟨rfl, _, rfl⟩ := e1
      simp only [Value.slice.injEq, Option.some.injEq, Addr.mk.injEq] at e2
      obtain ⟨⟨rfl, rfl, _⟩, _, rfl⟩ := e2
      have IM := Lib.hid (fun (e : s1 = true) => (by subst e; have := NW.out h1; rw [h2] at this; exact Option.some.inj this : s2 = true))
      clear hlt h1 h2 jb hf
      cases s1
      · go_wp2_with (go_at_call 9; refine (callGr (LV.out _)).mono ?_; rintro e w' ⟨pp, rfl, rfl⟩)
        go_ret
        exact ⟨by simp, bl_tr CU.out.2.2 (bl_tr JB.out (by (repeat (with_reducible first | exact Below.refl _ _ | (refine bl_set ?_ (by first | omega | (simp; done) | (simp; omega)) _) | refine bl_gr ?_ _ | refine bl_al ?_ _ | refine below_setRow ?_ (by first | omega | (simp; done) | (simp; omega)) _ | refine bl_drewN ?_ _ | refine Below.drew ?_ | (refine bl_tr ?_ (by assumption))))))⟩
      · obtain rfl := IM.out rfl
        go_wp2_with (go_at_call 9; refine (callGr (LV.out _)).mono ?_; rintro e w' ⟨pp, rfl, rfl⟩)
        go_ret
        exact ⟨by simp, bl_tr CU.out.2.2 (bl_tr JB.out (by (repeat (with_reducible first | exact Below.refl _ _ | (refine bl_set ?_ (by first | omega | (simp; done) | (simp; omega)) _) | refine bl_gr ?_ _ | refine bl_al ?_ _ | refine below_setRow ?_ (by first | omega | (simp; done) | (simp; omega)) _ | refine bl_drewN ?_ _ | refine Below.drew ?_ | (refine bl_tr ?_ (by assumption))))))⟩
set_option maxRecDepth 100000 in
theorem guards_w (c : CodeD) (i p k g : Value) (fr tn : Int) (hc : c.ok) (w : World) (h : Cd4 w i p k g c) :
    Calls Try.prog 7 #[codeV c.nm c.kd c.ln c.rg i p k g, .int .i64 fr, .int .i64 tn] w fun e w' => e = .returned (.bool true) ∧ Below w.heap.size w w' := by
  obtain ⟨A1, c1, A2, c2, A3, c3, A4, c4, rfl, rfl, rfl, rfl⟩ := h.forms
  cases hr : rightC c
  · exact guards_no c A1 A2 A3 A4 c1 c2 c3 c4 fr tn hc w h (.inl hr)
  · by_cases hz : c.ins.length = 0
    · exact guards_no c A1 A2 A3 A4 c1 c2 c3 c4 fr tn hc w h (.inr (.inl hz))
    · by_cases hg : c.rg = 0
      · exact guards_no c A1 A2 A3 A4 c1 c2 c3 c4 fr tn hc w h (.inr (.inr hg))
      · exact guards_yes c A1 A2 A3 A4 c1 c2 c3 c4 fr tn hc w h hr hz hg
end Go.Proofs.Ytcmpgohpncnagaa
