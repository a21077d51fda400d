/- The reference's array, walked. -/
import Derived.Test.YtiagegecnopfgaaDoorPcD
import Derived.Test.YtiagegecnopfgaaDoorPlA
namespace Go.Proofs.YtiagegecnopfgaaDoor
set_option linter.all false
open Go.ChangeShapes Go.WideShapes Go.ChangeAt Go.RowKit Go.Sort Go.Deep
variable {E : Nat → Prop}

/-- an append of several elements as one operation; where the new row lies -/
theorem wpList_appL {α : Type} {en : α → List Value} {T F : TypeId} {size bytes : Nat} {z : Value} (el : ElemOf α en T F size bytes z) {w : World} {ops : Array Oper} {rest : List Oper} {o : Oper} {a : Act} {Q : Exit → Act → World → Prop} (hg : o.guard = none) (s x : Operand)
    (hop : o.op = Op.call { callee := Callee.builtin Builtin.append, args := #[s, x], argTypes := #[T, T] }) (lo : Nat)
    (ys xs : List α) {q k : Nat} (hq : ys.length = q) (hk : xs.length = k) (hk0 : 0 < k) (hk1 : k ≤ 10) {yv : Value} {b : Nat} (hs : a.eval s = yv) (hx : a.eval x = .slice (some ⟨b, 0, none⟩) k k) (hown : w.ownsRow lo F size yv q (flat en ys)) (hlo : lo ≤ w.heap.size) {B : TypeId} (hb : w.heap[b]? = some (.cells (flat en xs).toArray B)) (h1 : ∀ x ∈ xs, ∀ u ∈ en x, u.oneCell' = true) (hm : q ≤ 1000000) (hbb : bytes ≤ 1000)
    (hK : ∀ g m n w', m = q + k → w'.ownsRow lo F size (.slice (some ⟨g, 0, none⟩) (q + k) n) (q + k) (flat en (ys ++ xs)) → w.grownBy w' yv.ownBlock → (yv.ownBlock = some g ∨ g = w.heap.size) → g < w'.heap.size → wpList Tryd.prog ops Q rest (a.put o.dst (.slice (some ⟨g, 0, none⟩) m n)) w') : wpList Tryd.prog ops Q (o :: rest) a w := by
  subst hq
  obtain ⟨i, hi, hz, hsz, hby⟩ := el.info
  refine wpList_append_lies w hg s x T hop lo F i z size bytes el.sl hi hz hsz hby el.zs el.pos yv ys.length (flat en ys) hs hown ⟨b, 0, none⟩ k k (flat en xs) hx (by rw [flat_len el.len, hk]) (fun j u hu => ?_) (fun u hu => ?_) hk0 (by unfold maxLen; omega) (Nat.le_trans (Nat.mul_le_mul (show ys.length + k ≤ 1000010 by omega) hbb) (by decide)) hlo w.heap.size rfl ?_
  · rw [add_off, cell_of_row w b _ _ _ _ hb]
    simpa using hu
  · obtain ⟨x, hx, h⟩ := List.mem_flatMap.1 hu
    exact h1 x hx u h
  · intro g cap w' h1 h2 h3 h4
    refine hK g _ cap w' rfl ?_ h2 h3 h4
    have e : flat en (ys ++ xs) = flat en ys ++ flat en xs := by unfold flat; rw [List.flatMap_append]
    rw [e]
    exact h1
theorem ReS.appL {lo n k g c : Nat} {v : Value} {rs xs : List StepR} {V Z : World} (h : ReS E lo v n rs V) (hk : xs.length = k) (hr : ∀ r ∈ xs, HoldR E lo V r) (o : Z.ownsRow lo 55 11 (.slice (some ⟨g, 0, none⟩) (n + k) c) (n + k) (flat StepR.cs (rs ++ xs))) (hg : V.grownBy Z v.ownBlock) :
    ReS E lo (.slice (some ⟨g, 0, none⟩) (n + k) c) (n + k) (rs ++ xs) Z := by
  have T := touch_grownE hg
  refine ⟨Nat.le_trans h.1 T.size, fun b e => Nat.lt_of_lt_of_le (h.2.1 b e) T.size, by simp [h.2.2.1, hk], o, fun x hx => ?_⟩
  rcases List.mem_append.1 hx with hx | hx
  · exact (h.2.2.2.2 x hx).touch T fun b hb hl => h.2.2.own b hb hl
  · exact (hr x hx).touch T fun b hb hl => h.2.2.own b hb hl
theorem plR_hold {lo : Nat} {X : World} {k r f : Int} {s : ByteArray} : HoldR E lo X (plR k r f s) := ⟨.nil, IsKs.nil⟩
/-- a change of new blocks of nodes -/
theorem Rel.new {v v' : Value} {X V W : World} (h : Rel v X V v') {kb : Nat} (hkb : X.heap.size ≤ kb) (k : Touch (fun b => b = kb) V W) : Rel v X W v' := ⟨Touch.trans h.1 k fun b hb e => by omega, h.2⟩
theorem ReS.node {lo n kb : Nat} {v : Value} {rs : List StepR} {V W : World} (h : ReS E lo v n rs V) {cs : Array Value} (hb : V.heap[kb]? = some (Obj.cells cs 24)) (hl : lo ≤ kb) (k : Touch (fun b => b = kb) V W) : ReS E lo v n rs W := by
  refine ⟨Nat.le_trans h.1 k.size, fun b e => Nat.lt_of_lt_of_le (h.2.1 b e) k.size, h.2.2.touch k (fun b e _ => ⟨by omega, fun ⟨cs', hc⟩ => ?_⟩) fun g hg e => ?_⟩
  · rw [e, hb] at hc
    simp at hc
  · rw [e] at hg
    exact h.2.2.typ hb (by decide) hg
theorem st6_box {W : World} {b : Nat} {t t' : Tree} {k k' : Value} (h : W.heap[b]? = some (nodeO t k)) : (st6 W b 0 t' k').heap[b]? = some (nodeO t' k') := by
  have s0 := heap_setCell_same W b 0 _ _ (.int .i64 t'.op) h
  have s1 := heap_setCell_same _ b (0 + 1) _ _ (.int .i64 t'.at_) s0
  have s2 := heap_setCell_same _ b (0 + 2) _ _ (.int .i64 t'.n) s1
  have s3 := heap_setCell_same _ b (0 + 3) _ _ (.int .i64 t'.m) s2
  have s4 := heap_setCell_same _ b (0 + 4) _ _ (.string t'.s) s3
  have s5 := heap_setCell_same _ b (0 + 5) _ _ k' s4
  exact s5
theorem rarT_skip {d : Tree} {l : List Tree} {it g : Int} {rs : List StepR} (h : d.op = 40) : arT (d :: l) it (mkR rs g) = arT l it ((mkR rs g).lay ⟨6, 0, it, bs0, Tree.z, []⟩) := by
  rw [arT, if_neg (by simp [mkR]), if_pos h]
theorem rarT_bad {d : Tree} {l : List Tree} {it g : Int} {rs : List StepR} (h : d.op = 64) (hn : ¬ (l = [] ∧ d.kids.length = 1)) : (arT (d :: l) it (mkR rs g)).b = true := by
  rw [arT, if_neg (by simp [mkR]), if_neg (by omega), if_pos h]
  have e : (l.isEmpty && d.kids.length == 1) = false := by
    cases l with
    | nil => simp only [List.isEmpty_nil, Bool.true_and, beq_eq_false_iff_ne]; exact fun e => hn ⟨rfl, e⟩
    | cons a l => rfl
  simp only [e, Bool.false_eq_true, if_false]
  rw [if_pos (show (mkR rs g).bad.b = true from rfl)]
  exact bad_all.2.2.2.2 _ _ _ rfl
theorem rarT_rest {d d0 : Tree} {it g : Int} {rs : List StepR} (h : d.op = 64) (hk : d.kids = [d0]) : arT [d] it (mkR rs g) = arT [] it (apT d0 g ((mkR rs (g + 1)).lay ⟨7, g, it, bs0, Tree.z, []⟩)) := by
  have key : ∀ z, z = arT [] it (apT d0 g ((mkR rs (g + 1)).lay ⟨7, g, it, bs0, Tree.z, []⟩)) → arT [d] it (mkR rs g) = z := by
    intro z hz
    have e : (([] : List Tree).isEmpty && d.kids.length == 1) = true := by rw [hk]; rfl
    rw [arT, if_neg (by simp [mkR]), if_neg (by omega), if_pos h]
    simp only [e, if_true]
    rw [if_neg (by simp [mkR]), apR_eq, hk, apA, hz]
    rfl
  exact key _ rfl
theorem rarT_take {d : Tree} {l : List Tree} {it g : Int} {rs : List StepR} (h : ¬ d.op = 40) (h2 : ¬ d.op = 64) : arT (d :: l) it (mkR rs g) = arT l it (apT d g ((mkR rs (g + 1)).lay ⟨5, g, it, bs0, Tree.z, []⟩)) := by
  rw [arT, if_neg (by simp [mkR]), if_neg h, if_neg h2]
  rfl
def Br (y : Mk) (l : List Tree) : Prop := 0 ≤ y.g ∧ y.g + 2 * (sizeK l : Nat) ≤ 499999 ∧ y.l.length + 4 * sizeK l ≤ 499998
theorem w64n {x : Int} (h : -1000000 ≤ x ∧ x ≤ 1000000) : wrap64 x = x := by unfold wrap64; omega
theorem mkR_eq {y : Mk} {rs : List StepR} (h : rs.map (·.d) = y.l) (hb : y.b = false) : mkR rs y.g = y := by
  obtain ⟨l, g, b⟩ := y
  simp only at h hb
  subst h hb
  rfl
/-- the loop's state -/
def ArI (E : Nat → Prop) (lo : Nat) (v : Value) (X : World) (o : Obj) (v' : Value) (n : Nat) (rs : List StepR) (V : World) : Prop := ReS E lo v' n rs V ∧ Rel v X V v' ∧ V.heap[X.heap.size]? = some o
theorem ArI.below {lo n : Nat} {v v' : Value} {X V W : World} {cs : Array Value} {rs : List StepR} (h : ArI E lo v X (.cells cs 24) v' n rs V) (hb : Below V.heap.size V W) : ArI E lo v X (.cells cs 24) v' n rs W :=
  ⟨h.1.below hb, h.2.1.trans (Rel.below hb), (hb.block _ (Array.getElem?_eq_some_iff.1 h.2.2).1).trans h.2.2⟩
theorem ArI.lt {lo n : Nat} {v v' : Value} {X V : World} {o : Obj} {rs : List StepR} (h : ArI E lo v X o v' n rs V) : X.heap.size < V.heap.size := (Array.getElem?_eq_some_iff.1 h.2.2).1
theorem ArI.app {lo n k g c : Nat} {v v' : Value} {X V Z : World} {cs : Array Value} {rs xs : List StepR} (h : ArI E lo v X (.cells cs 24) v' n rs V) (hk : xs.length = k) (hr : ∀ r ∈ xs, HoldR E lo V r) (o : Z.ownsRow lo 55 11 (.slice (some ⟨g, 0, none⟩) (n + k) c) (n + k) (flat StepR.cs (rs ++ xs))) (hg : V.grownBy Z v'.ownBlock) (hw : v'.ownBlock = some g ∨ g = V.heap.size) :
    ArI E lo v X (.cells cs 24) (.slice (some ⟨g, 0, none⟩) (n + k) c) (n + k) (rs ++ xs) Z := ⟨h.1.appL hk hr o hg, h.2.1.trans (Rel.app hg hw), (Rel.app (n := 0) (c := 0) hg hw).box h.1.2.2 h.2.2 (by decide)⟩
theorem ArI.call {lo n n8 : Nat} {v v' v8 : Value} {X V Y : World} {cs : Array Value} {rs rs8 : List StepR} (h : ArI E lo v X (.cells cs 24) v' n rs V) (h8 : RowR E lo v8 n8 rs8 Y) (r8 : Rel v' V Y v8) : ArI E lo v X (.cells cs 24) v8 n8 rs8 Y :=
  ⟨⟨Nat.le_trans h.1.1 r8.size, fun b e => Nat.lt_of_lt_of_le (h.1.2.1 b e) r8.size, h8⟩, h.2.1.trans r8, r8.box h.1.2.2 h.2.2 (by decide)⟩
theorem ArI.node {lo n kb : Nat} {v v' : Value} {X V W : World} {cs cs' : Array Value} {rs : List StepR} (h : ArI E lo v X (.cells cs 24) v' n rs V) (hl : lo ≤ X.heap.size) (hb : V.heap[kb]? = some (Obj.cells cs' 24)) (hk : X.heap.size < kb) (k : Touch (fun b => b = kb) V W) : ArI E lo v X (.cells cs 24) v' n rs W :=
  ⟨h.1.node hb (by omega) k, h.2.1.new (by omega) k, (k.block _ h.lt (by omega)).trans h.2.2⟩
theorem ArI.low {lo n : Nat} {v v' : Value} {X V : World} {o : Obj} {rs rs0 : List StepR} {n0 : Nat} (h : ArI E lo v X o v' n rs V) (h0 : ReS E lo v n0 rs0 X) : ∀ b, b < lo → V.heap[b]? = X.heap[b]? := h.2.1.low h0.2.2 h0.1
set_option maxRecDepth 100000 in
set_option maxHeartbeats 32000000 in
theorem arrayR_step {N : Nat} (hN : N ≤ 100000) (IH : ApRC N) : ArRC (N + 1) := by
  intro E lo B n c rs t A ct g r X ht h hT hO hB
  obtain ⟨yF, hyF⟩ : ∃ y, y = arT t.kids g (((mkR rs g).next.lay ⟨4, g, r, bs0, Tree.z, []⟩).lay ⟨12, 0, g, bs0, Tree.z, []⟩) := ⟨_, rfl⟩
  rw [← hyF]
  have FY := Lib.hid (show yF = arT (t.kids.drop 0) g (mkR (rs ++ [plR 4 g r bs0, plR 12 0 g bs0]) (g + 1)) by rw [hyF, List.drop_zero]; simp [mkR, Mk.lay, Mk.next])
  have B0 := Lib.hid (show 0 ≤ g ∧ (mkR rs g).l.length ≤ 500000 ∧ Br (mkR (rs ++ [plR 4 g r bs0, plR 12 0 g bs0]) (g + 1)) (t.kids.drop 0) by
    have h1 := hB
    have h2 := sizeT_eq t
    unfold Bd at h1
    unfold Br
    simp only [mkR, List.length_map, List.length_append, List.length_cons, List.length_nil, List.drop_zero] at h1 ⊢
    omega)
  have kg : wrap64 (g + 1) = g + 1 := (w64p (by have h1 := hB; unfold Bd at h1; simp only [mkR] at h1; omega)).1
  have HS := Lib.hid h
  have HT := Lib.hid hT
  have HO := Lib.hid hO
  have HL := Lib.hid (show t.kids.length ≤ 100000 by have := sizeK_len t.kids; have := sizeT_eq t; omega)
  have HZ := Lib.hid ht
  have T0 := Lib.hid (OneB.start X (nodeO t (.slice A t.kids.length ct)))
  clear h hT hO hB ht hyF
  go_enter Tryd.func33, Tryd.ntmps33
  go_upto_region 2 with fail
  refine wpd_world (fun Z => OneB X Z (nodeO t (.slice A t.kids.length ct))) T0.out ?_
  intro Z hZ
  have IZ := Lib.hid (show ArI E lo (.slice B n c) X (nodeO t (.slice A t.kids.length ct)) (.slice B n c) n rs Z from ⟨HS.out.below hZ.2, Rel.below hZ.2, hZ.1⟩)
  clear hZ T0
  go_wp2_with (at_builtin; go_loud (refine wpList_appL elem_stepR rfl _ _ rfl lo rs [plR 4 g r bs0, plR 12 0 g bs0] (k := 2) IZ.out.1.2.2.1 rfl (by decide) (by decide) (yv := .slice B n c) (b := Z.heap.size) rfl rfl (ownsRow_below IZ.out.1.2.2.2.1 (bl_al (Below.refl _ _) _)) (Nat.le_trans IZ.out.1.1 (bl_al (Below.refl _ _) _).size) (heap_alloc_new _ _) (fun x _ => one_step x) (by have h1 := B0.out.2.1; have h2 := HS.out.2.2.1; simp only [mkR, List.length_map] at h1; clear kg; omega) (by decide) ?_; intro g5 m5 n5 w5 em o5 gr5 gw5 gl5; have S5 := Lib.hid (show ArI E lo (.slice B n c) X (nodeO t (.slice A t.kids.length ct)) (.slice (some ⟨g5, 0, none⟩) m5 n5) m5 (rs ++ [plR 4 g r bs0, plR 12 0 g bs0]) w5 from by rw [em]; exact (IZ.out.below (bl_al (Below.refl _ _) _)).app rfl (fun x hx => by simp only [List.mem_cons, List.not_mem_nil, or_false] at hx; first | (subst hx; exact plR_hold) | (rcases hx with rfl | rfl <;> exact plR_hold)) o5 gr5 gw5);  clear o5 gr5 gw5 em))
  go_simp
  go_loopw [0, 1, 12] (fun v gv i V => ∃ (q m' n' : Nat) (B' : Option Addr) (rs' : List StepR) (g' : Int), i = .int .i64 q ∧ v = .slice B' m' n' ∧ gv = .int .i64 g' ∧ Hid (q ≤ t.kids.length ∧ yF = arT (t.kids.drop q) g (mkR rs' g') ∧ Br (mkR rs' g') (t.kids.drop q)) ∧ Hid (ArI E lo (.slice B n c) X (nodeO t (.slice A t.kids.length ct)) (.slice B' m' n') m' rs' V)) (fun _ _ i _ => t.kids.length - (intOf i).toNat)
  case atStart => exact ⟨0, m5, n5, some ⟨g5, 0, none⟩, rs ++ [plR 4 g r bs0, plR 12 0 g bs0], g + 1, rfl, rfl, by first | with_reducible rfl | (rw [kg]; done), Lib.hid ⟨Nat.zero_le _, FY.out, B0.out.2.2⟩, Lib.hid S5.out⟩
  case round =>
    clear S5 IZ FY
    obtain ⟨q, m', n', B', rs', g', rfl, rfl, rfl, HQ, HI⟩ := hrel
    obtain ⟨⟨a0, a1, a2, a3, a4, a5⟩, _⟩ := cells6n HI.out.2.2
    have l0 := HI.out.lt
    by_cases hlt : q < t.kids.length
    · obtain ⟨d, hd⟩ : ∃ d, t.kids[q]? = some d := ⟨_, List.getElem?_eq_getElem hlt⟩
      have hdr := drop_cons hd
      have HR := Lib.hid (show yF = arT (d :: t.kids.drop (q + 1)) g (mkR rs' g') from by rw [← hdr]; exact HQ.out.2.1)
      have HBo := Lib.hid (show 0 ≤ g' ∧ g' + 2 * ((sizeT d + sizeK (t.kids.drop (q + 1)) : Nat) : Int) ≤ 499999 ∧ rs'.length + 4 * (sizeT d + sizeK (t.kids.drop (q + 1))) ≤ 499998 by
        have h1 := HQ.out.2.2
        rw [hdr] at h1
        unfold Br at h1
        rw [sizeK] at h1
        simp only [mkR, List.length_map] at h1
        exact h1)
      have q1 : (q : Int) < (t.kids.length : Int) := by omega
      have q3 : ¬ (q : Int) < 0 := by omega
      have hlow := HI.out.low HS.out
      obtain ⟨b0, off0, cap0, A5, c5, e1, lb, hb0, hk0, f0⟩ := (nd_low HT.out HI.out.2.1.size hlow).at_ hd
      simp only [Value.slice.injEq] at e1
      obtain ⟨rfl, -, rfl⟩ := e1
      have DK := Lib.hid hk0
      obtain ⟨f0, f1, f2, f3, f4, f5⟩ := f0
      have LQ := Lib.hid (And.intro hlt hd)
      have kp1 : wrap64 ((q : Int) + 1) = ((q + 1 : Nat) : Int) := w64c (by omega) (by have := HL.out; omega)
      have kg' : wrap64 (g' + 1) = g' + 1 := (w64p (by have h1 := HBo.out; have h2 := sizeT_pos d; clear kp1 kg; omega)).1
      have DS := Lib.hid (show sizeT d < N by have h1 := sizeT_kid (List.mem_of_getElem? hd); have h2 := HZ.out; clear kp1 kg kg'; omega)
      have DO := Lib.hid (HO.out.kid (List.mem_of_getElem? hd))
      clear hlt hd hdr hlow hk0 hb0
      go_upto_region 8 with fail
      refine wpd_world (fun V => V.heap[wr.heap.size]? = some (nodeO d (.slice A5 d.kids.length c5)) ∧ Below wr.heap.size wr V) ⟨heap_alloc_new _ _, by (repeat (with_reducible first | exact Below.refl _ _ | (refine bl_set ?_ (by first | omega | (simp; done) | (simp; omega)) _) | refine bl_gr ?_ _ | refine bl_al ?_ _ | refine below_setRow ?_ (by first | omega | (simp; done) | (simp; omega)) _ | refine bl_drewN ?_ _ | refine Below.drew ?_ | (refine bl_tr ?_ (by assumption))))⟩ ?_
      intro V hV
      have IV := Lib.hid (HI.out.below hV.2)
      have DV := Lib.hid (nd_low DK.out hV.2.size fun k hk => hV.2.block k (Nat.lt_of_lt_of_le hk HI.out.1.1))
      have VX := Lib.hid (And.intro hV.1 HI.out.lt)
      clear a0 a1 a2 a3 a4 a5 l0 f0 f1 f2 f3 f4 f5 lb
      obtain ⟨⟨a0, a1, a2, a3, a4, a5⟩, _⟩ := cells6n IV.out.2.2
      have l0 := IV.out.lt
      obtain ⟨⟨y0, y1, y2, y3, y4, y5⟩, yf⟩ := cells6n hV.1
      have l1 := (Array.getElem?_eq_some_iff.1 hV.1).1
      clear hV
      by_cases h40 : d.op = 40
      · have o40 : (d.op == 40) = true := beq_iff_eq.2 h40
        have RR := Lib.hid (rarT_skip (l := t.kids.drop (q + 1)) (it := g) (g := g') (rs := rs') h40)
        clear h40
        go_wp2_with (at_builtin; go_loud (refine wpList_appL elem_stepR rfl _ _ rfl lo rs' [plR 6 0 g bs0] (k := 1) IV.out.1.2.2.1 rfl (by decide) (by decide) (yv := .slice B' m' n') (b := V.heap.size) rfl rfl (ownsRow_below IV.out.1.2.2.2.1 (bl_al (Below.refl _ _) _)) (Nat.le_trans IV.out.1.1 (bl_al (Below.refl _ _) _).size) (heap_alloc_new _ _) (fun x _ => one_step x) (by have h1 := HBo.out.2.2; have h2 := HI.out.1.2.2.1; clear kp1 kg kg'; omega) (by decide) ?_; intro g5 m5 n5 w5 em o5 gr5 gw5 gl5; have S5 := Lib.hid (show ArI E lo (.slice B n c) X (nodeO t (.slice (some ⟨b0, off0, none⟩) t.kids.length ct)) (.slice (some ⟨g5, 0, none⟩) m5 n5) m5 (rs' ++ [plR 6 0 g bs0]) w5 from by rw [em]; exact (IV.out.below (bl_al (Below.refl _ _) _)).app rfl (fun x hx => by simp only [List.mem_cons, List.not_mem_nil, or_false] at hx; first | (subst hx; exact plR_hold) | (rcases hx with rfl | rfl <;> exact plR_hold)) o5 gr5 gw5);  clear o5 gr5 gw5 em))
        go_roundw
        case rel => exact ⟨q + 1, m5, n5, some ⟨g5, 0, none⟩, rs' ++ [plR 6 0 g bs0], g', by first | with_reducible rfl | (rw [kp1]; done), rfl, rfl, Lib.hid ⟨LQ.out.1, by rw [mkR_lay, HR.out, RR.out], by have h1 := HBo.out; have h2 := sizeT_pos d; clear kp1 kg kg'; unfold Br; simp only [mkR, List.length_map, List.length_append, List.length_cons, List.length_nil]; omega⟩, Lib.hid S5.out⟩
        case measure => (first | ((try rw [kp1]); exact meas_c rfl LQ.out.1) | (clear kp1 kg kg'; have := LQ.out.1; simp only [intOf]; omega))
      · by_cases h64 : d.op = 64
        · have o40 : (d.op == 40) = false := beq_eq_false_iff_ne.2 (by rw [h64]; decide)
          have o64 : (d.op == 64) = true := beq_iff_eq.2 h64
          obtain ⟨ml, hml, kl⟩ : ∃ ml : Int, ml = (t.kids.length : Int) - 1 ∧ wrap64 ((t.kids.length : Int) - 1) = ml := ⟨_, rfl, (w64n (by have := HL.out; clear kp1 kg kg'; omega))⟩
          by_cases hok : t.kids.drop (q + 1) = [] ∧ d.kids.length = 1
          · have hq : q + 1 = t.kids.length := by have h1 := hok.1; have h2 := LQ.out.1; clear kp1 kg kg' kl; rw [List.drop_eq_nil_iff] at h1; omega
            have r1 : ¬ (q : Int) < ml := by clear kp1 kg kg' kl; omega
            have r2 : ((d.kids.length : Int) != 1) = false := by rw [hok.2]; decide
            have r3 : (0 : Int) < (d.kids.length : Int) := by rw [hok.2]; decide
            obtain ⟨d0, hd0⟩ : ∃ d0, d.kids = [d0] := by
              match hk : d.kids, hok.2 with
              | [a], _ => exact ⟨a, rfl⟩
            have RR := Lib.hid (show yF = arT (t.kids.drop (q + 1)) g (apT d0 g' ((mkR rs' (g' + 1)).lay ⟨7, g', g, bs0, Tree.z, []⟩)) from by rw [HR.out, hok.1]; exact rarT_rest h64 hd0)
            have k0 : d.kids[0]? = some d0 := by rw [hd0]; rfl
            have SL := Lib.hid (show sizeT d0 ≤ sizeT d from Nat.le_of_lt (sizeT_kid (List.mem_of_getElem? k0)))
            have DOO := Lib.hid (DO.out.kid (List.mem_of_getElem? k0))
            obtain ⟨b1, off1, cap1, A6, c6, e1, lb1, hb1, hk1, z0, z1, z2, z3, z4, z5⟩ := DV.out.at_ k0
            simp only [Value.slice.injEq] at e1
            obtain ⟨rfl, -, rfl⟩ := e1
            simp only [Nat.zero_mul, Nat.add_zero] at z0 z1 z2 z3 z4 z5
            have D1 := Lib.hid hk1
            clear hok hd0 k0 hk1 hb1 h64 hml hq
            go_upto_region 16 with fail
            refine wpd_world (fun U => U = st6 V wr.heap.size 0 d0 (.slice A6 d0.kids.length c6)) rfl ?_
            rintro U hU
            have TU := Lib.hid (show Touch (fun b => b = wr.heap.size) V U from by rw [hU]; exact st6_touch _ _ _ _ _)
            have WB := Lib.hid (show U.heap[wr.heap.size]? = some (nodeO d0 (.slice A6 d0.kids.length c6)) from by rw [hU]; exact st6_box VX.out.1)
            have IU := Lib.hid (IV.out.node HS.out.1 VX.out.1 VX.out.2 TU.out)
            have DW := Lib.hid (nd_low D1.out TU.out.size fun k hk => TU.out.block k (by have := IV.out.1.1; omega) (by have := HI.out.1.1; omega))
            clear hU a0 a1 a2 a3 a4 a5 l0 y0 y1 y2 y3 y4 y5 yf l1 z0 z1 z2 z3 z4 z5 lb1
            obtain ⟨⟨a0, a1, a2, a3, a4, a5⟩, _⟩ := cells6n IU.out.2.2
            have l0 := IU.out.lt
            obtain ⟨⟨y0, y1, y2, y3, y4, y5⟩, yf⟩ := cells6n WB.out
            have l1 := (Array.getElem?_eq_some_iff.1 WB.out).1
            obtain ⟨y8, hy8⟩ : ∃ y, y = apT d0 g' (mkR (rs' ++ [plR 7 g' g bs0]) (g' + 1)) := ⟨_, rfl⟩
            go_upto_region 17 with (at_builtin; go_loud (refine wpList_appL elem_stepR rfl _ _ rfl lo rs' [plR 7 g' g bs0] (k := 1) IU.out.1.2.2.1 rfl (by decide) (by decide) (yv := .slice B' m' n') (b := U.heap.size) rfl rfl (ownsRow_below IU.out.1.2.2.2.1 (bl_al (Below.refl _ _) _)) (Nat.le_trans IU.out.1.1 (bl_al (Below.refl _ _) _).size) (heap_alloc_new _ _) (fun x _ => one_step x) (by have h1 := HBo.out.2.2; have h2 := HI.out.1.2.2.1; clear kp1 kg kg'; omega) (by decide) ?_; intro g5 m5 n5 w5 em o5 gr5 gw5 gl5; have S5 := Lib.hid (show ArI E lo (.slice B n c) X (nodeO t (.slice (some ⟨b0, off0, none⟩) t.kids.length ct)) (.slice (some ⟨g5, 0, none⟩) m5 n5) m5 (rs' ++ [plR 7 g' g bs0]) w5 from by rw [em]; exact (IU.out.below (bl_al (Below.refl _ _) _)).app rfl (fun x hx => by simp only [List.mem_cons, List.not_mem_nil, or_false] at hx; first | (subst hx; exact plR_hold) | (rcases hx with rfl | rfl <;> exact plR_hold)) o5 gr5 gw5); have X5 := Lib.hid (show w5.heap[wr.heap.size]? = some (nodeO d0 (.slice A6 d0.kids.length c6)) from (Rel.app (n := 0) (c := 0) gr5 gw5).box (IU.out.below (bl_al (Below.refl _ _) _)).1.2.2 (((bl_al (Below.refl U.heap.size U) _).block _ (Array.getElem?_eq_some_iff.1 WB.out).1).trans WB.out) (by decide)); have S5s := Lib.hid (show U.heap.size ≤ w5.heap.size from Nat.le_trans (bl_al (Below.refl _ _) _).size (touch_grownE gr5).size); have S5l := Lib.hid (fun k (hk : k < lo) => (S5.out.low HS.out k hk).trans (IU.out.low HS.out k hk).symm); clear o5 gr5 gw5 em))
            clear a0 a1 a2 a3 a4 a5 l0 y0 y1 y2 y3 y4 y5 yf l1
            obtain ⟨⟨y0, y1, y2, y3, y4, y5⟩, yf⟩ := cells6n X5.out
            have l1 := (Array.getElem?_eq_some_iff.1 X5.out).1
            have IC := Lib.hid (IH E lo (some ⟨g5, 0, none⟩) m5 n5 (rs' ++ [plR 7 g' g bs0]) d0 A6 c6 (g' + 1) g' w5 (by have h1 := DS.out; have h2 := SL.out; clear kp1 kg kg'; omega) S5.out.1 (nd_low DW.out S5s.out (fun k hk => S5l.out k hk)) DOO.out (by have h1 := HBo.out; have h2 := SL.out; have h3 := sizeT_pos d; clear kp1 kg kg'; unfold Bd; simp only [mkR, List.length_map, List.length_append, List.length_cons, List.length_nil]; omega))
            rw [← hy8] at IC
            have RF := Lib.hid (show yF = arT (t.kids.drop (q + 1)) g y8 by rw [hy8, mkR_lay]; exact RR.out)
            have BN := Lib.hid (show 0 ≤ y8.g ∧ y8.g + 2 * (sizeK (t.kids.drop (q + 1)) : Nat) ≤ 499999 ∧ y8.l.length + 4 * sizeK (t.kids.drop (q + 1)) ≤ 499998 by have h0 := ap_bound d0 g' (mkR (rs' ++ [plR 7 g' g bs0]) (g' + 1)); rw [← hy8] at h0; unfold AddsT at h0; have h1 := HBo.out; have h2 := SL.out; clear kp1 kg kg'; simp only [mkR, List.length_map, List.length_append, List.length_cons, List.length_nil] at h0; omega)
            clear hy8
            cases hyb : y8.b with
            | true =>
              have HY := Lib.hid hyb
              have BF := Lib.hid (show yF.b = true by rw [RF.out]; exact bad_all.2.2.2.2 _ _ _ hyb)
              clear hyb
              go_wp2_with (go_at_call 25; go_loud (refine (IC.out.mono fun e Y h => h.bad HY.out).mono ?_; rintro e Y ⟨rfl, r8⟩; have H8 := Lib.hid (S5.out.2.1.trans r8); clear r8))
              go_ret3
              exact .inl ⟨BF.out, rfl, H8.out⟩
            | false =>
              have HY := Lib.hid hyb
              clear hyb
              go_wp2_with (go_at_call 25; go_loud (refine (IC.out.mono fun e Y h => h.good HY.out).mono ?_; rintro e Y ⟨B8, n8, c8, rs8, rfl, h8, m8, r8⟩; have H8 := Lib.hid (And.intro (S5.out.call h8 r8) (mkR_eq m8 HY.out)); have M8 := Lib.hid m8; clear h8 m8 r8))
              go_roundw
              case rel => exact ⟨q + 1, n8, c8, B8, rs8, y8.g, by first | with_reducible rfl | (rw [kp1]; done), rfl, rfl, Lib.hid ⟨LQ.out.1, by rw [H8.out.2]; exact RF.out, by rw [H8.out.2]; exact BN.out⟩, Lib.hid H8.out.1⟩
              case measure => (first | ((try rw [kp1]); exact meas_c rfl LQ.out.1) | (clear kp1 kg kg'; have := LQ.out.1; simp only [intOf]; omega))
          · have BF := Lib.hid (show yF.b = true by rw [HR.out]; exact rarT_bad h64 hok)
            by_cases hq : q + 1 = t.kids.length
            · have r1 : ¬ (q : Int) < ml := by clear kp1 kg kg' kl; omega
              have r2 : ((d.kids.length : Int) != 1) = true := by
                rw [bne_iff_ne]
                intro e
                exact hok ⟨List.drop_of_length_le (by omega), by clear kp1 kg kg' kl; omega⟩
              clear hok hml hq h64
              go_wp2
              go_ret3
              exact .inl ⟨BF.out, rfl, IV.out.2.1.toNil⟩
            · have r1 : (q : Int) < ml := by have := LQ.out.1; clear kp1 kg kg' kl; omega
              clear hok hml hq h64
              go_wp2
              go_ret3
              exact .inl ⟨BF.out, rfl, IV.out.2.1.toNil⟩
        · have o40 : (d.op == 40) = false := beq_eq_false_iff_ne.2 h40
          have o64 : (d.op == 64) = false := beq_eq_false_iff_ne.2 h64
          have RR := Lib.hid (show yF = arT (t.kids.drop (q + 1)) g (apT d g' ((mkR rs' (g' + 1)).lay ⟨5, g', g, bs0, Tree.z, []⟩)) from by rw [HR.out]; exact rarT_take h40 h64)
          have SL := Lib.hid (show sizeT d ≤ sizeT d from Nat.le_refl _)
          have DOO := Lib.hid DO.out
          have DW := Lib.hid DV.out
          have WB := Lib.hid VX.out.1
          clear h40 h64
          obtain ⟨y8, hy8⟩ : ∃ y, y = apT d g' (mkR (rs' ++ [plR 5 g' g bs0]) (g' + 1)) := ⟨_, rfl⟩
          go_upto_region 17 with (at_builtin; go_loud (refine wpList_appL elem_stepR rfl _ _ rfl lo rs' [plR 5 g' g bs0] (k := 1) IV.out.1.2.2.1 rfl (by decide) (by decide) (yv := .slice B' m' n') (b := V.heap.size) rfl rfl (ownsRow_below IV.out.1.2.2.2.1 (bl_al (Below.refl _ _) _)) (Nat.le_trans IV.out.1.1 (bl_al (Below.refl _ _) _).size) (heap_alloc_new _ _) (fun x _ => one_step x) (by have h1 := HBo.out.2.2; have h2 := HI.out.1.2.2.1; clear kp1 kg kg'; omega) (by decide) ?_; intro g5 m5 n5 w5 em o5 gr5 gw5 gl5; have S5 := Lib.hid (show ArI E lo (.slice B n c) X (nodeO t (.slice (some ⟨b0, off0, none⟩) t.kids.length ct)) (.slice (some ⟨g5, 0, none⟩) m5 n5) m5 (rs' ++ [plR 5 g' g bs0]) w5 from by rw [em]; exact (IV.out.below (bl_al (Below.refl _ _) _)).app rfl (fun x hx => by simp only [List.mem_cons, List.not_mem_nil, or_false] at hx; first | (subst hx; exact plR_hold) | (rcases hx with rfl | rfl <;> exact plR_hold)) o5 gr5 gw5); have X5 := Lib.hid (show w5.heap[wr.heap.size]? = some (nodeO d (.slice A5 d.kids.length c5)) from (Rel.app (n := 0) (c := 0) gr5 gw5).box (IV.out.below (bl_al (Below.refl _ _) _)).1.2.2 (((bl_al (Below.refl V.heap.size V) _).block _ (Array.getElem?_eq_some_iff.1 WB.out).1).trans WB.out) (by decide)); have S5s := Lib.hid (show V.heap.size ≤ w5.heap.size from Nat.le_trans (bl_al (Below.refl _ _) _).size (touch_grownE gr5).size); have S5l := Lib.hid (fun k (hk : k < lo) => (S5.out.low HS.out k hk).trans (IV.out.low HS.out k hk).symm); clear o5 gr5 gw5 em))
          clear a0 a1 a2 a3 a4 a5 l0 y0 y1 y2 y3 y4 y5 yf l1
          obtain ⟨⟨y0, y1, y2, y3, y4, y5⟩, yf⟩ := cells6n X5.out
          have l1 := (Array.getElem?_eq_some_iff.1 X5.out).1
          have IC := Lib.hid (IH E lo (some ⟨g5, 0, none⟩) m5 n5 (rs' ++ [plR 5 g' g bs0]) d A5 c5 (g' + 1) g' w5 (by have h1 := DS.out; have h2 := SL.out; clear kp1 kg kg'; omega) S5.out.1 (nd_low DW.out S5s.out (fun k hk => S5l.out k hk)) DOO.out (by have h1 := HBo.out; have h2 := SL.out; have h3 := sizeT_pos d; clear kp1 kg kg'; unfold Bd; simp only [mkR, List.length_map, List.length_append, List.length_cons, List.length_nil]; omega))
          rw [← hy8] at IC
          have RF := Lib.hid (show yF = arT (t.kids.drop (q + 1)) g y8 by rw [hy8, mkR_lay]; exact RR.out)
          have BN := Lib.hid (show 0 ≤ y8.g ∧ y8.g + 2 * (sizeK (t.kids.drop (q + 1)) : Nat) ≤ 499999 ∧ y8.l.length + 4 * sizeK (t.kids.drop (q + 1)) ≤ 499998 by have h0 := ap_bound d g' (mkR (rs' ++ [plR 5 g' g bs0]) (g' + 1)); rw [← hy8] at h0; unfold AddsT at h0; have h1 := HBo.out; have h2 := SL.out; clear kp1 kg kg'; simp only [mkR, List.length_map, List.length_append, List.length_cons, List.length_nil] at h0; omega)
          clear hy8
          cases hyb : y8.b with
          | true =>
            have HY := Lib.hid hyb
            have BF := Lib.hid (show yF.b = true by rw [RF.out]; exact bad_all.2.2.2.2 _ _ _ hyb)
            clear hyb
            go_wp2_with (go_at_call 25; go_loud (refine (IC.out.mono fun e Y h => h.bad HY.out).mono ?_; rintro e Y ⟨rfl, r8⟩; have H8 := Lib.hid (S5.out.2.1.trans r8); clear r8))
            go_ret3
            exact .inl ⟨BF.out, rfl, H8.out⟩
          | false =>
            have HY := Lib.hid hyb
            clear hyb
            go_wp2_with (go_at_call 25; go_loud (refine (IC.out.mono fun e Y h => h.good HY.out).mono ?_; rintro e Y ⟨B8, n8, c8, rs8, rfl, h8, m8, r8⟩; have H8 := Lib.hid (And.intro (S5.out.call h8 r8) (mkR_eq m8 HY.out)); have M8 := Lib.hid m8; clear h8 m8 r8))
            go_roundw
            case rel => exact ⟨q + 1, n8, c8, B8, rs8, y8.g, by first | with_reducible rfl | (rw [kp1]; done), rfl, rfl, Lib.hid ⟨LQ.out.1, by rw [H8.out.2]; exact RF.out, by rw [H8.out.2]; exact BN.out⟩, Lib.hid H8.out.1⟩
            case measure => (first | ((try rw [kp1]); exact meas_c rfl LQ.out.1) | (clear kp1 kg kg'; have := LQ.out.1; simp only [intOf]; omega))

    · have q1 : ¬ (q : Int) < (t.kids.length : Int) := by omega
      have hE := HQ.out.2.1
      rw [List.drop_of_length_le (by omega), arT] at hE
      have RE := Lib.hid hE
      have RB := Lib.hid (show rs'.length ≤ 500000 by have h1 := HQ.out.2.2; unfold Br at h1; simp only [mkR, List.length_map] at h1; omega)
      clear hlt hE
      go_wp2_with (at_builtin; go_loud (refine wpList_appL elem_stepR rfl _ _ rfl lo rs' [plR 8 0 g bs0] (k := 1) HI.out.1.2.2.1 rfl (by decide) (by decide) (yv := .slice B' m' n') (b := wr.heap.size) rfl rfl (ownsRow_below HI.out.1.2.2.2.1 (bl_al (Below.refl _ _) _)) (Nat.le_trans HI.out.1.1 (bl_al (Below.refl _ _) _).size) (heap_alloc_new _ _) (fun x _ => one_step x) (by have h1 := RB.out; have h2 := HI.out.1.2.2.1; clear kg; omega) (by decide) ?_; intro g5 m5 n5 w5 em o5 gr5 gw5 gl5; have S5 := Lib.hid (show ArI E lo (.slice B n c) X (nodeO t (.slice A t.kids.length ct)) (.slice (some ⟨g5, 0, none⟩) m5 n5) m5 (rs' ++ [plR 8 0 g bs0]) w5 from by rw [em]; exact (HI.out.below (bl_al (Below.refl _ _) _)).app rfl (fun x hx => by simp only [List.mem_cons, List.not_mem_nil, or_false] at hx; first | (subst hx; exact plR_hold) | (rcases hx with rfl | rfl <;> exact plR_hold)) o5 gr5 gw5);  clear o5 gr5 gw5 em))
      go_ret3
      refine .inr ⟨by rw [RE.out]; rfl, some ⟨g5, 0, none⟩, m5, n5, _, ?_, S5.out.1.2.2, by rw [RE.out]; simp [mkR, Mk.lay], S5.out.2.1⟩
      rw [RE.out]
      rfl
end Go.Proofs.YtiagegecnopfgaaDoor
