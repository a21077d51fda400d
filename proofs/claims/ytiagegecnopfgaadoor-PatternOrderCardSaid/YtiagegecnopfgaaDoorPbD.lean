/- The reference's Leaves, walked. -/
import Derived.Test.YtiagegecnopfgaaDoorPlC
import Derived.Test.YtiagegecnopfgaaDoorPaX
namespace Go.Proofs.YtiagegecnopfgaaDoor
set_option linter.all false
open Go.ChangeShapes Go.WideShapes Go.ChangeAt Go.RowKit Go.Sort Go.Deep

/-- two lists, one by one -/
inductive AllR {α β : Type} (R : α → β → Prop) : List α → List β → Prop
  | nil : AllR R [] []
  | cons {a : α} {b : β} {l : List α} {m : List β} (h : R a b) (hl : AllR R l m) : AllR R (a :: l) (b :: m)
theorem AllR.len {α β : Type} {R : α → β → Prop} {l : List α} {m : List β} (h : AllR R l m) : l.length = m.length := by
  induction h with
  | nil => rfl
  | cons _ _ ih => simp [ih]
theorem AllR.append {α β : Type} {R : α → β → Prop} {l l' : List α} {m m' : List β} (h : AllR R l m) (h' : AllR R l' m') : AllR R (l ++ l') (m ++ m') := by
  induction h with
  | nil => exact h'
  | cons h _ ih => exact .cons h ih
theorem AllR.imp {α β : Type} {R S : α → β → Prop} {l : List α} {m : List β} (h : AllR R l m) (hi : ∀ a b, R a b → S a b) : AllR S l m := by
  induction h with
  | nil => exact .nil
  | cons h _ ih => exact .cons (hi _ _ h) ih
theorem AllR.get {α β : Type} {R : α → β → Prop} {l : List α} {m : List β} (h : AllR R l m) : ∀ (i : Nat) (a : α) (b : β), l[i]? = some a → m[i]? = some b → R a b := by
  induction h with
  | nil => intro i a b h; simp at h
  | cons h _ ih =>
    intro i a b h1 h2
    cases i with
    | zero =>
      simp at h1 h2
      subst h1 h2
      exact h
    | succ i =>
      simp at h1 h2
      exact ih i a b h1 h2
theorem AllR.left {α β : Type} {R : α → β → Prop} {l : List α} {m : List β} (h : AllR R l m) {P : α → Prop} (hP : ∀ a b, R a b → P a) : ∀ a ∈ l, P a := by
  induction h with
  | nil => intro a h; cases h
  | cons h _ ih =>
    intro x hx
    rcases List.mem_cons.1 hx with rfl | hx
    · exact hP _ _ h
    · exact ih x hx
def NdO (lo : Nat) (X : World) (x : NodeR) (t : Tree) : Prop := (x.op = t.op ∧ x.a = t.at_ ∧ x.n = t.n ∧ x.m = t.m ∧ x.s = t.s) ∧ IsNd (fun b => b < lo) X x.k t.kids
theorem NdO.one {lo : Nat} {X : World} {x : NodeR} {t : Tree} (h : NdO lo X x t) : ∀ u ∈ NodeR.cs x, u.oneCell' = true := by
  obtain ⟨A, c, e, _⟩ := h.2.form
  intro u hu
  simp only [NodeR.cs, e, List.mem_cons, List.not_mem_nil, or_false] at hu
  rcases hu with rfl | rfl | rfl | rfl | rfl | rfl <;> rfl
theorem NdO.low {lo : Nat} {X Y : World} {x : NodeR} {t : Tree} (h : NdO lo X x t) (hs : X.heap.size ≤ Y.heap.size) (hb : ∀ b, b < lo → Y.heap[b]? = X.heap[b]?) : NdO lo Y x t := ⟨h.1, nd_low h.2 hs hb⟩
def LvR (lo : Nat) (w : World) (l : List Tree) (e : Ending) (w' : World) : Prop := ∃ v rs, e = .returned v ∧ SlOf w' 6 NodeR.cs v rs ∧ AllR (NdO lo w') rs l ∧ Below w.heap.size w w' ∧ ∀ a n c, v = .slice (some a) n c → ∃ cs, w'.heap[a.block]? = some (.cells cs 24)
theorem own_tag {w : World} {lo n : Nat} {v : Value} {xs : List Value} (h : w.ownsRow lo 24 6 v n xs) : ∀ a n c, v = .slice (some a) n c → ∃ cs, w.heap[a.block]? = some (.cells cs 24) := fun a n c e => own_typeN h a.block (by rw [e]; rfl)
theorem tag_one {w : World} {b k k' : Nat} {cs : Array Value} (h : w.heap[b]? = some (.cells cs 24)) : ∀ a n c, Value.slice (some ⟨b, 0, none⟩) k k' = .slice (some a) n c → ∃ cs, w.heap[a.block]? = some (.cells cs 24) := fun a n c e => ⟨cs, by simp only [Value.slice.injEq, Option.some.injEq] at e; rw [← e.1]; exact h⟩
/-- a row of nodes under way -/
def LvO (lo : Nat) (w : World) (rs : List NodeR) (ys : List Tree) (v : Value) (X : World) : Prop := AllR (NdO lo X) rs ys ∧ X.ownsRow (w.heap.size + 1) 24 6 v rs.length (flat NodeR.cs rs) ∧ Below w.heap.size w X
theorem LvO.app {lo : Nat} {w X Y Z : World} {rs rs' : List NodeR} {ys ys' : List Tree} {v u : Value} (h : LvO lo w rs ys v X) (hlo : lo ≤ w.heap.size) (hb : Below X.heap.size X Y) (h' : AllR (NdO lo Y) rs' ys') (hg : Y.grownBy Z v.ownBlock)
    (ho : Z.ownsRow (w.heap.size + 1) 24 6 u (rs ++ rs').length (flat NodeR.cs (rs ++ rs'))) : LvO lo w (rs ++ rs') (ys ++ ys') u Z := by
  obtain ⟨h1, h2, h3⟩ := h
  have hwY := bl_tr h3 hb
  have hwZ := grown_lo hwY hg (fun g hg => Nat.le_of_succ_le (own_lo h2 g hg))
  have T := touch_grownE hg
  refine ⟨(h1.imp fun a b hab => hab.low (Nat.le_trans hb.size T.size) fun k hk => ?_).append (h'.imp fun a b hab => hab.low T.size fun k hk => ?_), ho, hwZ⟩
  · rw [hwZ.block k (by omega), h3.block k (by omega)]
  · rw [hwZ.block k (by omega), hwY.block k (by omega)]
theorem LvO.box {lo : Nat} {w X Y Z : World} {rs : List NodeR} {ys : List Tree} {v : Value} {o : Obj} (h : LvO lo w rs ys v X) (hx : OneB w X o) (hb : Below X.heap.size X Y) (hg : Y.grownBy Z v.ownBlock) : OneB w Z o := by
  have h1 := hx.step hb
  refine ⟨((touch_grownE hg).block _ h1.lt fun e => ?_).trans h1.1, grown_lo h1.2 hg (fun g hg => Nat.le_of_succ_le (own_lo h.2.1 g hg))⟩
  exact Nat.lt_irrefl _ (own_lo h.2.1 _ e)
theorem leavesK_app (l m : List Tree) : leavesK (l ++ m) = leavesK l ++ leavesK m := by
  induction l with
  | nil => rw [leavesK]; rfl
  | cons u l ih => rw [List.cons_append, leavesK, leavesK, ih, List.append_assoc]
theorem leavesK_take {l : List Tree} {q : Nat} {d : Tree} (h : l[q]? = some d) : leavesK (l.take (q + 1)) = leavesK (l.take q) ++ leavesT d := by
  rw [List.take_add_one, h, Option.toList_some, leavesK_app, leavesK, leavesK, List.append_nil]
theorem leaves_len (t : Tree) : (leavesT t).length ≤ sizeT t := by
  induction t using Tree.ind with
  | h t ih =>
    have hk : ∀ l : List Tree, (∀ c ∈ l, (leavesT c).length ≤ sizeT c) → (leavesK l).length ≤ sizeK l ∧ (leavesA l).length ≤ sizeK l ∧ (leavesB l).length ≤ sizeK l := by
      intro l
      induction l with
      | nil => intro _; simp [leavesK, leavesA, leavesB, sizeK]
      | cons u l ih2 =>
        intro h
        have h1 := h u (by simp)
        obtain ⟨h2, h3, h4⟩ := ih2 fun c hc => h c (by simp [hc])
        rw [leavesK, leavesA, leavesB, sizeK, List.length_append]
        omega
    obtain ⟨h1, h2, h3⟩ := hk t.kids ih
    rw [leavesT_eq, sizeT_eq]
    split
    · simp
    · split
      · omega
      · split
        · split
          · omega
          · simp
        · split
          · omega
          · simp
theorem leavesK_le (l : List Tree) (q : Nat) : (leavesK (l.take q)).length ≤ sizeK l := by
  have h1 : ∀ l : List Tree, (leavesK l).length ≤ sizeK l := by
    intro l
    induction l with
    | nil => simp [leavesK, sizeK]
    | cons u l ih => rw [leavesK, sizeK, List.length_append]; have := leaves_len u; omega
  exact Nat.le_trans (h1 _) (sizeK_take_le l q)
theorem leavesA_kid {t d : Tree} (h : t.kids[0]? = some d) : leavesA t.kids = leavesT d := by
  cases hk : t.kids with
  | nil => rw [hk] at h; cases h
  | cons a l => rw [hk] at h; simp at h; rw [leavesA, h]
theorem leavesB_kid {t d : Tree} (h : t.kids[1]? = some d) : leavesB t.kids = leavesT d := by
  cases hk : t.kids with
  | nil => rw [hk] at h; simp at h
  | cons a l =>
    rw [hk] at h
    cases l with
    | nil => simp at h
    | cons b l => simp at h; rw [leavesB, leavesA, h]
def LvC (N : Nat) : Prop := ∀ (lo : Nat) (t : Tree) (A : Option Addr) (c : Nat) (w : World), sizeT t < N → lo ≤ w.heap.size → IsNd (fun b => b < lo) w (.slice A t.kids.length c) t.kids → Calls Tryd.prog 18 #[nodeV t (.slice A t.kids.length c)] w (LvR lo w (leavesT t))
set_option maxRecDepth 100000 in
set_option maxHeartbeats 8000000 in
theorem lv_34 {N : Nat} (hN : N ≤ 100000) (IH : LvC N) (lo : Nat) (t : Tree) (A : Option Addr) (c : Nat) (w : World) (ht : sizeT t < N + 1) (hlo : lo ≤ w.heap.size) (h : IsNd (fun b => b < lo) w (.slice A t.kids.length c) t.kids) (ho : t.op = 34) : Calls Tryd.prog 18 #[nodeV t (.slice A t.kids.length c)] w (LvR lo w (leavesT t)) := by
  have o34 : (t.op == 34) = true := by rw [ho]; decide
  have o51 : (t.op == 51) = false := by rw [ho]; decide
  have o52 : (t.op == 52) = false := by rw [ho]; decide
  have o63 : (t.op == 63) = false := by rw [ho]; decide
  have o64 : (t.op == 64) = false := by rw [ho]; decide
  have o62 : (t.op == 62) = false := by rw [ho]; decide
  have o60 : (t.op == 60) = false := by rw [ho]; decide
  have o61 : (t.op == 61) = false := by rw [ho]; decide
  have R := Lib.hid (show leavesT t = [t] by rw [leavesT_eq, if_pos (by omega)])
  rw [R.out]
  have HL := Lib.hid (And.intro h hlo)
  clear ho h hlo ht IH
  go_enter Tryd.func18, Tryd.ntmps18
  go_wp2
  go_ret
  refine ⟨.slice (some ⟨w.heap.size + 1, 0, none⟩) 1 1, [⟨t.op, t.at_, t.n, t.m, t.s, .slice A t.kids.length c⟩], rfl, sl_oneE (heap_alloc_at _ _ (by simp)) rfl, .cons ⟨⟨rfl, rfl, rfl, rfl, rfl⟩, HL.out.1.keep (by simp; omega) fun b hp hlt => ⟨?_, hp⟩⟩ .nil, by (repeat (with_reducible first | exact Below.refl _ _ | (refine bl_set ?_ (by first | omega | (simp; done) | (simp; omega)) _) | refine bl_gr ?_ _ | refine bl_al ?_ _ | refine below_setRow ?_ (by first | omega | (simp; done) | (simp; omega)) _ | refine bl_drewN ?_ _ | refine Below.drew ?_ | (refine bl_tr ?_ (by assumption)))), tag_one (heap_alloc_at _ _ (by simp))⟩
  exact (show Below w.heap.size w _ from by (repeat (with_reducible first | exact Below.refl _ _ | (refine bl_set ?_ (by first | omega | (simp; done) | (simp; omega)) _) | refine bl_gr ?_ _ | refine bl_al ?_ _ | refine below_setRow ?_ (by first | omega | (simp; done) | (simp; omega)) _ | refine bl_drewN ?_ _ | refine Below.drew ?_ | (refine bl_tr ?_ (by assumption))))).block b hlt
set_option maxRecDepth 100000 in
set_option maxHeartbeats 8000000 in
theorem lv_51 {N : Nat} (hN : N ≤ 100000) (IH : LvC N) (lo : Nat) (t : Tree) (A : Option Addr) (c : Nat) (w : World) (ht : sizeT t < N + 1) (hlo : lo ≤ w.heap.size) (h : IsNd (fun b => b < lo) w (.slice A t.kids.length c) t.kids) (ho : t.op = 51) : Calls Tryd.prog 18 #[nodeV t (.slice A t.kids.length c)] w (LvR lo w (leavesT t)) := by
  have o34 : (t.op == 34) = false := by rw [ho]; decide
  have o51 : (t.op == 51) = true := by rw [ho]; decide
  have o52 : (t.op == 52) = false := by rw [ho]; decide
  have o63 : (t.op == 63) = false := by rw [ho]; decide
  have o64 : (t.op == 64) = false := by rw [ho]; decide
  have o62 : (t.op == 62) = false := by rw [ho]; decide
  have o60 : (t.op == 60) = false := by rw [ho]; decide
  have o61 : (t.op == 61) = false := by rw [ho]; decide
  have R := Lib.hid (show leavesT t = [t] by rw [leavesT_eq, if_pos (by omega)])
  rw [R.out]
  have HL := Lib.hid (And.intro h hlo)
  clear ho h hlo ht IH
  go_enter Tryd.func18, Tryd.ntmps18
  go_wp2
  go_ret
  refine ⟨.slice (some ⟨w.heap.size + 1, 0, none⟩) 1 1, [⟨t.op, t.at_, t.n, t.m, t.s, .slice A t.kids.length c⟩], rfl, sl_oneE (heap_alloc_at _ _ (by simp)) rfl, .cons ⟨⟨rfl, rfl, rfl, rfl, rfl⟩, HL.out.1.keep (by simp; omega) fun b hp hlt => ⟨?_, hp⟩⟩ .nil, by (repeat (with_reducible first | exact Below.refl _ _ | (refine bl_set ?_ (by first | omega | (simp; done) | (simp; omega)) _) | refine bl_gr ?_ _ | refine bl_al ?_ _ | refine below_setRow ?_ (by first | omega | (simp; done) | (simp; omega)) _ | refine bl_drewN ?_ _ | refine Below.drew ?_ | (refine bl_tr ?_ (by assumption)))), tag_one (heap_alloc_at _ _ (by simp))⟩
  exact (show Below w.heap.size w _ from by (repeat (with_reducible first | exact Below.refl _ _ | (refine bl_set ?_ (by first | omega | (simp; done) | (simp; omega)) _) | refine bl_gr ?_ _ | refine bl_al ?_ _ | refine below_setRow ?_ (by first | omega | (simp; done) | (simp; omega)) _ | refine bl_drewN ?_ _ | refine Below.drew ?_ | (refine bl_tr ?_ (by assumption))))).block b hlt
set_option maxRecDepth 100000 in
set_option maxHeartbeats 8000000 in
theorem lv_52 {N : Nat} (hN : N ≤ 100000) (IH : LvC N) (lo : Nat) (t : Tree) (A : Option Addr) (c : Nat) (w : World) (ht : sizeT t < N + 1) (hlo : lo ≤ w.heap.size) (h : IsNd (fun b => b < lo) w (.slice A t.kids.length c) t.kids) (ho : t.op = 52) : Calls Tryd.prog 18 #[nodeV t (.slice A t.kids.length c)] w (LvR lo w (leavesT t)) := by
  have o34 : (t.op == 34) = false := by rw [ho]; decide
  have o51 : (t.op == 51) = false := by rw [ho]; decide
  have o52 : (t.op == 52) = true := by rw [ho]; decide
  have o63 : (t.op == 63) = false := by rw [ho]; decide
  have o64 : (t.op == 64) = false := by rw [ho]; decide
  have o62 : (t.op == 62) = false := by rw [ho]; decide
  have o60 : (t.op == 60) = false := by rw [ho]; decide
  have o61 : (t.op == 61) = false := by rw [ho]; decide
  have R := Lib.hid (show leavesT t = [t] by rw [leavesT_eq, if_pos (by omega)])
  rw [R.out]
  have HL := Lib.hid (And.intro h hlo)
  clear ho h hlo ht IH
  go_enter Tryd.func18, Tryd.ntmps18
  go_wp2
  go_ret
  refine ⟨.slice (some ⟨w.heap.size + 1, 0, none⟩) 1 1, [⟨t.op, t.at_, t.n, t.m, t.s, .slice A t.kids.length c⟩], rfl, sl_oneE (heap_alloc_at _ _ (by simp)) rfl, .cons ⟨⟨rfl, rfl, rfl, rfl, rfl⟩, HL.out.1.keep (by simp; omega) fun b hp hlt => ⟨?_, hp⟩⟩ .nil, by (repeat (with_reducible first | exact Below.refl _ _ | (refine bl_set ?_ (by first | omega | (simp; done) | (simp; omega)) _) | refine bl_gr ?_ _ | refine bl_al ?_ _ | refine below_setRow ?_ (by first | omega | (simp; done) | (simp; omega)) _ | refine bl_drewN ?_ _ | refine Below.drew ?_ | (refine bl_tr ?_ (by assumption)))), tag_one (heap_alloc_at _ _ (by simp))⟩
  exact (show Below w.heap.size w _ from by (repeat (with_reducible first | exact Below.refl _ _ | (refine bl_set ?_ (by first | omega | (simp; done) | (simp; omega)) _) | refine bl_gr ?_ _ | refine bl_al ?_ _ | refine below_setRow ?_ (by first | omega | (simp; done) | (simp; omega)) _ | refine bl_drewN ?_ _ | refine Below.drew ?_ | (refine bl_tr ?_ (by assumption))))).block b hlt
set_option maxRecDepth 100000 in
set_option maxHeartbeats 8000000 in
theorem lv_60 {N : Nat} (hN : N ≤ 100000) (IH : LvC N) (lo : Nat) (t : Tree) (A : Option Addr) (c : Nat) (w : World) (ht : sizeT t < N + 1) (hlo : lo ≤ w.heap.size) (h : IsNd (fun b => b < lo) w (.slice A t.kids.length c) t.kids) (ho : t.op = 60) : Calls Tryd.prog 18 #[nodeV t (.slice A t.kids.length c)] w (LvR lo w (leavesT t)) := by
  have o34 : (t.op == 34) = false := by rw [ho]; decide
  have o51 : (t.op == 51) = false := by rw [ho]; decide
  have o52 : (t.op == 52) = false := by rw [ho]; decide
  have o63 : (t.op == 63) = false := by rw [ho]; decide
  have o64 : (t.op == 64) = false := by rw [ho]; decide
  have o62 : (t.op == 62) = false := by rw [ho]; decide
  have o60 : (t.op == 60) = true := by rw [ho]; decide
  have o61 : (t.op == 61) = false := by rw [ho]; decide
  have HH := Lib.hid h
  have LO := Lib.hid hlo
  have SZ := Lib.hid (show sizeK t.kids ≤ 100000 ∧ t.kids.length ≤ 100000 by have := sizeK_len t.kids; have := sizeT_eq t; omega)
  have T0 := Lib.hid (OneB.start w (nodeO t (.slice A t.kids.length c)))
  have NE := Lib.hid (show LvO lo w [] [] (.slice (some ⟨w.heap.size + 1, 0, none⟩) 0 0) ((w.alloc (nodeO t (.slice A t.kids.length c))).alloc (.cells #[] 24)) from ⟨.nil, own_empty (heap_alloc_at _ _ (by simp)) (by omega), by (repeat (with_reducible first | exact Below.refl _ _ | (refine bl_set ?_ (by first | omega | (simp; done) | (simp; omega)) _) | refine bl_gr ?_ _ | refine bl_al ?_ _ | refine below_setRow ?_ (by first | omega | (simp; done) | (simp; omega)) _ | refine bl_drewN ?_ _ | refine Below.drew ?_ | (refine bl_tr ?_ (by assumption))))⟩)
  have R := Lib.hid (show leavesT t = leavesK t.kids by rw [leavesT_eq, if_neg (by omega), if_neg (by omega), if_neg (by omega), if_pos (by omega)])
  rw [R.out]
  clear ho h hlo
  go_enter Tryd.func18, Tryd.ntmps18
  go_wp2
  go_loopw [3, 5] (fun o i X => ∃ (q m n : Nat) (B : Option Addr) (rs : List NodeR), i = .int .i64 q ∧ o = .slice B m n ∧ Hid (q ≤ t.kids.length) ∧ Hid (LvO lo w rs (leavesK (t.kids.take q)) (.slice B m n) X ∧ m = rs.length) ∧ OneB w X (nodeO t (.slice A t.kids.length c))) (fun _ i _ => t.kids.length - (intOf i).toNat)
  case atStart => exact ⟨0, 0, 0, some ⟨w.heap.size + 1, 0, none⟩, [], rfl, rfl, Lib.hid (Nat.zero_le _), Lib.hid ⟨by rw [List.take_zero, leavesK]; exact NE.out, rfl⟩, T0.out.step (by (repeat (with_reducible first | exact Below.refl _ _ | (refine bl_set ?_ (by first | omega | (simp; done) | (simp; omega)) _) | refine bl_gr ?_ _ | refine bl_al ?_ _ | refine below_setRow ?_ (by first | omega | (simp; done) | (simp; omega)) _ | refine bl_drewN ?_ _ | refine Below.drew ?_ | (refine bl_tr ?_ (by assumption)))))⟩
  case round =>
    clear T0 NE
    obtain ⟨q, m, n, B, rs, rfl, rfl, HQ, HX, hx⟩ := hrel
    have BX := Lib.hid hx
    have BW := Lib.hid hx.2
    obtain ⟨⟨a0, a1, a2, a3, a4, a5⟩, _⟩ := cells6n hx.1
    have l0 := hx.lt
    by_cases hlt : q < t.kids.length
    · have q1 : (q : Int) < (t.kids.length : Int) := by omega
      have q3 : ¬ (q : Int) < 0 := by omega
      obtain ⟨d, hd⟩ : ∃ d, t.kids[q]? = some d := ⟨_, List.getElem?_eq_getElem hlt⟩
      obtain ⟨b, off, cap, A5', c5, e1, lb, hp, hk, f0, f1, f2, f3, f4, f5⟩ := (HH.out.bel BW.out).at_ hd
      simp only [Value.slice.injEq] at e1
      obtain ⟨rfl, _, rfl⟩ := e1
      have S1 := Lib.hid (fun V (hV : Below wr.heap.size wr V) => IH lo d A5' c5 V (by have := sizeT_kid (List.mem_of_getElem? hd); omega) (Nat.le_trans (Nat.le_trans LO.out BW.out.size) hV.size) (hk.bel hV))
      have LN := Lib.hid (show (leavesK (t.kids.take q)).length + (leavesT d).length ≤ 100000 by have h1 := leavesK_le t.kids (q + 1); rw [leavesK_take hd, List.length_append] at h1; have := SZ.out.1; omega)
      have TK := Lib.hid (leavesK_take hd)
      have ek1 : wrap64 ((q : Int) + 1) = ((q + 1 : Nat) : Int) := w64c (by omega) (by have := SZ.out.2; omega)
      have LQ := Lib.hid hlt
      have FX := Lib.hid (fun V (hV : Below wr.heap.size wr V) => hx.step hV)
      clear hlt hd hx hk hp
      go_wp2_with (first | (go_at_call 18; go_loud (refine (S1.out _ (by (repeat (with_reducible first | exact Below.refl _ _ | (refine bl_set ?_ (by first | omega | (simp; done) | (simp; omega)) _) | refine bl_gr ?_ _ | refine bl_al ?_ _ | refine below_setRow ?_ (by first | omega | (simp; done) | (simp; omega)) _ | refine bl_drewN ?_ _ | refine Below.drew ?_ | (refine bl_tr ?_ (by assumption)))))).mono ?_; rintro e w4 ⟨v4, rs4, rfl, s4, a4, b4, -⟩; have B4 := Lib.hid (show Below wr.heap.size wr w4 from bl_tr (by (repeat (with_reducible first | exact Below.refl _ _ | (refine bl_set ?_ (by first | omega | (simp; done) | (simp; omega)) _) | refine bl_gr ?_ _ | refine bl_al ?_ _ | refine below_setRow ?_ (by first | omega | (simp; done) | (simp; omega)) _ | refine bl_drewN ?_ _ | refine Below.drew ?_ | (refine bl_tr ?_ (by assumption))))) b4); have R4 := Lib.hid (And.intro s4 a4); have N4 := Lib.hid (show rs4.length = (leavesT d).length from a4.len); clear s4 a4 b4)) | (at_builtin; go_loud (refine wpList_appG elem_node rfl _ _ rfl (w.heap.size + 1) rs rs4 (yv := .slice B m n) (sv := v4) rfl rfl (ownsRow_below HX.out.1.2.1 B4.out) (Nat.le_trans BX.out.lt B4.out.size) R4.out.1 (R4.out.2.left fun a b hab => hab.one) (by have h1 := LN.out; have h2 := HX.out.1.1.len; have h3 := N4.out; clear ek1; rw [List.length_append]; omega) (by have h1 := LN.out; have h2 := HX.out.1.1.len; have h3 := N4.out; clear ek1; rw [List.length_append]; omega) ?_; intro A5 n5 w5 o5 g5; have R5 := Lib.hid (HX.out.1.app LO.out B4.out R4.out.2 g5 o5); have O5 := Lib.hid (HX.out.1.box BX.out B4.out g5); obtain ⟨m5, hm5⟩ : ∃ m5, m5 = (rs ++ rs4).length := ⟨_, rfl⟩; rw [← hm5]; have M5 := Lib.hid hm5; clear hm5 o5 g5)))
      go_roundw
      case rel => exact ⟨q + 1, m5, n5, A5, rs ++ rs4, by first | with_reducible rfl | (rw [ek1]; done), rfl, Lib.hid LQ.out, Lib.hid ⟨by rw [TK.out, M5.out]; exact R5.out, M5.out⟩, O5.out⟩
      case measure => (first | ((try rw [ek1]); exact meas_c rfl LQ.out) | (clear ek1; have := LQ.out; simp only [intOf]; omega))
    · have q1 : ¬ (q : Int) < (t.kids.length : Int) := by omega
      have FN := Lib.hid (show LvO lo w rs (leavesK t.kids) (.slice B m n) wr by have h1 := HX.out.1; rw [List.take_of_length_le (by omega)] at h1; exact h1)
      have M0 := Lib.hid HX.out.2
      clear hlt hx
      go_wp2
      go_ret
      refine ⟨_, rs, rfl, ?_, FN.out.1, BW.out, own_tag FN.out.2.1⟩
      rw [M0.out]
      exact ownsRow_slOf nr_len (by have h1 := FN.out.2.1; rw [M0.out] at h1; exact h1)
set_option maxRecDepth 100000 in
set_option maxHeartbeats 8000000 in
theorem lv_61 {N : Nat} (hN : N ≤ 100000) (IH : LvC N) (lo : Nat) (t : Tree) (A : Option Addr) (c : Nat) (w : World) (ht : sizeT t < N + 1) (hlo : lo ≤ w.heap.size) (h : IsNd (fun b => b < lo) w (.slice A t.kids.length c) t.kids) (ho : t.op = 61) : Calls Tryd.prog 18 #[nodeV t (.slice A t.kids.length c)] w (LvR lo w (leavesT t)) := by
  have o34 : (t.op == 34) = false := by rw [ho]; decide
  have o51 : (t.op == 51) = false := by rw [ho]; decide
  have o52 : (t.op == 52) = false := by rw [ho]; decide
  have o63 : (t.op == 63) = false := by rw [ho]; decide
  have o64 : (t.op == 64) = false := by rw [ho]; decide
  have o62 : (t.op == 62) = false := by rw [ho]; decide
  have o60 : (t.op == 60) = false := by rw [ho]; decide
  have o61 : (t.op == 61) = true := by rw [ho]; decide
  have HH := Lib.hid h
  have LO := Lib.hid hlo
  have SZ := Lib.hid (show sizeK t.kids ≤ 100000 ∧ t.kids.length ≤ 100000 by have := sizeK_len t.kids; have := sizeT_eq t; omega)
  have T0 := Lib.hid (OneB.start w (nodeO t (.slice A t.kids.length c)))
  have NE := Lib.hid (show LvO lo w [] [] (.slice (some ⟨w.heap.size + 1, 0, none⟩) 0 0) ((w.alloc (nodeO t (.slice A t.kids.length c))).alloc (.cells #[] 24)) from ⟨.nil, own_empty (heap_alloc_at _ _ (by simp)) (by omega), by (repeat (with_reducible first | exact Below.refl _ _ | (refine bl_set ?_ (by first | omega | (simp; done) | (simp; omega)) _) | refine bl_gr ?_ _ | refine bl_al ?_ _ | refine below_setRow ?_ (by first | omega | (simp; done) | (simp; omega)) _ | refine bl_drewN ?_ _ | refine Below.drew ?_ | (refine bl_tr ?_ (by assumption))))⟩)
  have R := Lib.hid (show leavesT t = leavesK t.kids by rw [leavesT_eq, if_neg (by omega), if_neg (by omega), if_neg (by omega), if_pos (by omega)])
  rw [R.out]
  clear ho h hlo
  go_enter Tryd.func18, Tryd.ntmps18
  go_wp2
  go_loopw [3, 5] (fun o i X => ∃ (q m n : Nat) (B : Option Addr) (rs : List NodeR), i = .int .i64 q ∧ o = .slice B m n ∧ Hid (q ≤ t.kids.length) ∧ Hid (LvO lo w rs (leavesK (t.kids.take q)) (.slice B m n) X ∧ m = rs.length) ∧ OneB w X (nodeO t (.slice A t.kids.length c))) (fun _ i _ => t.kids.length - (intOf i).toNat)
  case atStart => exact ⟨0, 0, 0, some ⟨w.heap.size + 1, 0, none⟩, [], rfl, rfl, Lib.hid (Nat.zero_le _), Lib.hid ⟨by rw [List.take_zero, leavesK]; exact NE.out, rfl⟩, T0.out.step (by (repeat (with_reducible first | exact Below.refl _ _ | (refine bl_set ?_ (by first | omega | (simp; done) | (simp; omega)) _) | refine bl_gr ?_ _ | refine bl_al ?_ _ | refine below_setRow ?_ (by first | omega | (simp; done) | (simp; omega)) _ | refine bl_drewN ?_ _ | refine Below.drew ?_ | (refine bl_tr ?_ (by assumption)))))⟩
  case round =>
    clear T0 NE
    obtain ⟨q, m, n, B, rs, rfl, rfl, HQ, HX, hx⟩ := hrel
    have BX := Lib.hid hx
    have BW := Lib.hid hx.2
    obtain ⟨⟨a0, a1, a2, a3, a4, a5⟩, _⟩ := cells6n hx.1
    have l0 := hx.lt
    by_cases hlt : q < t.kids.length
    · have q1 : (q : Int) < (t.kids.length : Int) := by omega
      have q3 : ¬ (q : Int) < 0 := by omega
      obtain ⟨d, hd⟩ : ∃ d, t.kids[q]? = some d := ⟨_, List.getElem?_eq_getElem hlt⟩
      obtain ⟨b, off, cap, A5', c5, e1, lb, hp, hk, f0, f1, f2, f3, f4, f5⟩ := (HH.out.bel BW.out).at_ hd
      simp only [Value.slice.injEq] at e1
      obtain ⟨rfl, _, rfl⟩ := e1
      have S1 := Lib.hid (fun V (hV : Below wr.heap.size wr V) => IH lo d A5' c5 V (by have := sizeT_kid (List.mem_of_getElem? hd); omega) (Nat.le_trans (Nat.le_trans LO.out BW.out.size) hV.size) (hk.bel hV))
      have LN := Lib.hid (show (leavesK (t.kids.take q)).length + (leavesT d).length ≤ 100000 by have h1 := leavesK_le t.kids (q + 1); rw [leavesK_take hd, List.length_append] at h1; have := SZ.out.1; omega)
      have TK := Lib.hid (leavesK_take hd)
      have ek1 : wrap64 ((q : Int) + 1) = ((q + 1 : Nat) : Int) := w64c (by omega) (by have := SZ.out.2; omega)
      have LQ := Lib.hid hlt
      have FX := Lib.hid (fun V (hV : Below wr.heap.size wr V) => hx.step hV)
      clear hlt hd hx hk hp
      go_wp2_with (first | (go_at_call 18; go_loud (refine (S1.out _ (by (repeat (with_reducible first | exact Below.refl _ _ | (refine bl_set ?_ (by first | omega | (simp; done) | (simp; omega)) _) | refine bl_gr ?_ _ | refine bl_al ?_ _ | refine below_setRow ?_ (by first | omega | (simp; done) | (simp; omega)) _ | refine bl_drewN ?_ _ | refine Below.drew ?_ | (refine bl_tr ?_ (by assumption)))))).mono ?_; rintro e w4 ⟨v4, rs4, rfl, s4, a4, b4, -⟩; have B4 := Lib.hid (show Below wr.heap.size wr w4 from bl_tr (by (repeat (with_reducible first | exact Below.refl _ _ | (refine bl_set ?_ (by first | omega | (simp; done) | (simp; omega)) _) | refine bl_gr ?_ _ | refine bl_al ?_ _ | refine below_setRow ?_ (by first | omega | (simp; done) | (simp; omega)) _ | refine bl_drewN ?_ _ | refine Below.drew ?_ | (refine bl_tr ?_ (by assumption))))) b4); have R4 := Lib.hid (And.intro s4 a4); have N4 := Lib.hid (show rs4.length = (leavesT d).length from a4.len); clear s4 a4 b4)) | (at_builtin; go_loud (refine wpList_appG elem_node rfl _ _ rfl (w.heap.size + 1) rs rs4 (yv := .slice B m n) (sv := v4) rfl rfl (ownsRow_below HX.out.1.2.1 B4.out) (Nat.le_trans BX.out.lt B4.out.size) R4.out.1 (R4.out.2.left fun a b hab => hab.one) (by have h1 := LN.out; have h2 := HX.out.1.1.len; have h3 := N4.out; clear ek1; rw [List.length_append]; omega) (by have h1 := LN.out; have h2 := HX.out.1.1.len; have h3 := N4.out; clear ek1; rw [List.length_append]; omega) ?_; intro A5 n5 w5 o5 g5; have R5 := Lib.hid (HX.out.1.app LO.out B4.out R4.out.2 g5 o5); have O5 := Lib.hid (HX.out.1.box BX.out B4.out g5); obtain ⟨m5, hm5⟩ : ∃ m5, m5 = (rs ++ rs4).length := ⟨_, rfl⟩; rw [← hm5]; have M5 := Lib.hid hm5; clear hm5 o5 g5)))
      go_roundw
      case rel => exact ⟨q + 1, m5, n5, A5, rs ++ rs4, by first | with_reducible rfl | (rw [ek1]; done), rfl, Lib.hid LQ.out, Lib.hid ⟨by rw [TK.out, M5.out]; exact R5.out, M5.out⟩, O5.out⟩
      case measure => (first | ((try rw [ek1]); exact meas_c rfl LQ.out) | (clear ek1; have := LQ.out; simp only [intOf]; omega))
    · have q1 : ¬ (q : Int) < (t.kids.length : Int) := by omega
      have FN := Lib.hid (show LvO lo w rs (leavesK t.kids) (.slice B m n) wr by have h1 := HX.out.1; rw [List.take_of_length_le (by omega)] at h1; exact h1)
      have M0 := Lib.hid HX.out.2
      clear hlt hx
      go_wp2
      go_ret
      refine ⟨_, rs, rfl, ?_, FN.out.1, BW.out, own_tag FN.out.2.1⟩
      rw [M0.out]
      exact ownsRow_slOf nr_len (by have h1 := FN.out.2.1; rw [M0.out] at h1; exact h1)
set_option maxRecDepth 100000 in
set_option maxHeartbeats 8000000 in
theorem lv_63 {N : Nat} (hN : N ≤ 100000) (IH : LvC N) (lo : Nat) (t : Tree) (A : Option Addr) (c : Nat) (w : World) (ht : sizeT t < N + 1) (hlo : lo ≤ w.heap.size) (h : IsNd (fun b => b < lo) w (.slice A t.kids.length c) t.kids) (ho : t.op = 63) : Calls Tryd.prog 18 #[nodeV t (.slice A t.kids.length c)] w (LvR lo w (leavesT t)) := by
  have o34 : (t.op == 34) = false := by rw [ho]; decide
  have o51 : (t.op == 51) = false := by rw [ho]; decide
  have o52 : (t.op == 52) = false := by rw [ho]; decide
  have o63 : (t.op == 63) = true := by rw [ho]; decide
  have o64 : (t.op == 64) = false := by rw [ho]; decide
  have o62 : (t.op == 62) = false := by rw [ho]; decide
  have o60 : (t.op == 60) = false := by rw [ho]; decide
  have o61 : (t.op == 61) = false := by rw [ho]; decide
  have HH := Lib.hid h
  have LO := Lib.hid hlo
  have SZ := Lib.hid (show sizeK t.kids ≤ 100000 ∧ t.kids.length ≤ 100000 by have := sizeK_len t.kids; have := sizeT_eq t; omega)
  have T0 := Lib.hid (OneB.start w (nodeO t (.slice A t.kids.length c)))
  have NE := Lib.hid (show LvO lo w [] [] (.slice (some ⟨w.heap.size + 1, 0, none⟩) 0 0) ((w.alloc (nodeO t (.slice A t.kids.length c))).alloc (.cells #[] 24)) from ⟨.nil, own_empty (heap_alloc_at _ _ (by simp)) (by omega), by (repeat (with_reducible first | exact Below.refl _ _ | (refine bl_set ?_ (by first | omega | (simp; done) | (simp; omega)) _) | refine bl_gr ?_ _ | refine bl_al ?_ _ | refine below_setRow ?_ (by first | omega | (simp; done) | (simp; omega)) _ | refine bl_drewN ?_ _ | refine Below.drew ?_ | (refine bl_tr ?_ (by assumption))))⟩)
  have R := Lib.hid (show leavesT t = leavesA t.kids by rw [leavesT_eq, if_neg (by omega), if_pos (by omega)])
  rw [R.out]
  clear ho h hlo
  go_enter Tryd.func18, Tryd.ntmps18
  go_wp2
  go_loopw [3, 4] (fun o i X => ∃ (q m n : Nat) (B : Option Addr) (rs : List NodeR) (ys : List Tree), i = .int .i64 q ∧ o = .slice B m n ∧ Hid ((q = 0 ∧ ys = []) ∨ (q = 1 ∧ 0 < t.kids.length ∧ ys = leavesA t.kids)) ∧ Hid (LvO lo w rs ys (.slice B m n) X ∧ m = rs.length) ∧ OneB w X (nodeO t (.slice A t.kids.length c))) (fun _ i _ => 1 - (intOf i).toNat)
  case atStart => exact ⟨0, 0, 0, some ⟨w.heap.size + 1, 0, none⟩, [], [], rfl, rfl, Lib.hid (.inl ⟨rfl, rfl⟩), Lib.hid ⟨NE.out, rfl⟩, T0.out.step (by (repeat (with_reducible first | exact Below.refl _ _ | (refine bl_set ?_ (by first | omega | (simp; done) | (simp; omega)) _) | refine bl_gr ?_ _ | refine bl_al ?_ _ | refine below_setRow ?_ (by first | omega | (simp; done) | (simp; omega)) _ | refine bl_drewN ?_ _ | refine Below.drew ?_ | (refine bl_tr ?_ (by assumption)))))⟩
  case round =>
    clear T0 NE
    obtain ⟨q, m, n, B, rs, ys, rfl, rfl, HQ, HX, hx⟩ := hrel
    have BX := Lib.hid hx
    have BW := Lib.hid hx.2
    obtain ⟨⟨a0, a1, a2, a3, a4, a5⟩, _⟩ := cells6n hx.1
    have l0 := hx.lt
    have hq := HQ.out
    rcases hq with ⟨rfl, rfl⟩ | ⟨rfl, hlt, rfl⟩
    · by_cases hlt : 0 < t.kids.length
      · have q1 : (0 : Int) < (t.kids.length : Int) := by omega
        obtain ⟨d, hd⟩ : ∃ d, t.kids[0]? = some d := ⟨_, List.getElem?_eq_getElem hlt⟩
        obtain ⟨b, off, cap, A5', c5, e1, lb, hp, hk, f0, f1, f2, f3, f4, f5⟩ := (HH.out.bel BW.out).at_ hd
        simp only [Value.slice.injEq] at e1
        obtain ⟨rfl, _, rfl⟩ := e1
        have S1 := Lib.hid (fun V (hV : Below wr.heap.size wr V) => IH lo d A5' c5 V (by have := sizeT_kid (List.mem_of_getElem? hd); omega) (Nat.le_trans (Nat.le_trans LO.out BW.out.size) hV.size) (hk.bel hV))
        simp only [Nat.zero_mul, Nat.add_zero] at f0 f1 f2 f3 f4 f5
        have LN := Lib.hid (show ([] : List Tree).length + (leavesT d).length ≤ 100000 by have h1 := leaves_len d; have := sizeT_kid (List.mem_of_getElem? hd); have h2 := sizeT_eq t; have := SZ.out.1; simp; omega)
        have TK := Lib.hid (leavesA_kid hd)
        have LQ := Lib.hid hlt
        clear hlt hd hx hk hp
        go_wp2_with (first | (go_at_call 18; go_loud (refine (S1.out _ (by (repeat (with_reducible first | exact Below.refl _ _ | (refine bl_set ?_ (by first | omega | (simp; done) | (simp; omega)) _) | refine bl_gr ?_ _ | refine bl_al ?_ _ | refine below_setRow ?_ (by first | omega | (simp; done) | (simp; omega)) _ | refine bl_drewN ?_ _ | refine Below.drew ?_ | (refine bl_tr ?_ (by assumption)))))).mono ?_; rintro e w4 ⟨v4, rs4, rfl, s4, a4, b4, -⟩; have B4 := Lib.hid (show Below wr.heap.size wr w4 from bl_tr (by (repeat (with_reducible first | exact Below.refl _ _ | (refine bl_set ?_ (by first | omega | (simp; done) | (simp; omega)) _) | refine bl_gr ?_ _ | refine bl_al ?_ _ | refine below_setRow ?_ (by first | omega | (simp; done) | (simp; omega)) _ | refine bl_drewN ?_ _ | refine Below.drew ?_ | (refine bl_tr ?_ (by assumption))))) b4); have R4 := Lib.hid (And.intro s4 a4); have N4 := Lib.hid (show rs4.length = (leavesT d).length from a4.len); clear s4 a4 b4)) | (at_builtin; go_loud (refine wpList_appG elem_node rfl _ _ rfl (w.heap.size + 1) rs rs4 (yv := .slice B m n) (sv := v4) rfl rfl (ownsRow_below HX.out.1.2.1 B4.out) (Nat.le_trans BX.out.lt B4.out.size) R4.out.1 (R4.out.2.left fun a b hab => hab.one) (by have h1 := LN.out; have h2 := HX.out.1.1.len; have h3 := N4.out;  rw [List.length_append]; omega) (by have h1 := LN.out; have h2 := HX.out.1.1.len; have h3 := N4.out;  rw [List.length_append]; omega) ?_; intro A5 n5 w5 o5 g5; have R5 := Lib.hid (HX.out.1.app LO.out B4.out R4.out.2 g5 o5); have O5 := Lib.hid (HX.out.1.box BX.out B4.out g5); obtain ⟨m5, hm5⟩ : ∃ m5, m5 = (rs ++ rs4).length := ⟨_, rfl⟩; rw [← hm5]; have M5 := Lib.hid hm5; clear hm5 o5 g5)))
        go_roundw
        case rel => exact ⟨1, m5, n5, A5, rs ++ rs4, leavesA t.kids, rfl, rfl, Lib.hid (.inr ⟨rfl, LQ.out, rfl⟩), Lib.hid ⟨by rw [TK.out, M5.out]; exact R5.out, M5.out⟩, O5.out⟩
        case measure => simp [intOf]
      · have q1 : ¬ (0 : Int) < (t.kids.length : Int) := by omega
        have FN := Lib.hid (show LvO lo w rs (leavesA t.kids) (.slice B m n) wr by have h1 := HX.out.1; have h2 : t.kids = [] := List.eq_nil_of_length_eq_zero (by omega); rw [h2, leavesA]; exact h1)
        have M0 := Lib.hid HX.out.2
        clear hlt hx
        go_wp2
        go_ret
        refine ⟨_, rs, rfl, ?_, FN.out.1, BW.out, own_tag FN.out.2.1⟩
        rw [M0.out]
        exact ownsRow_slOf nr_len (by have h1 := FN.out.2.1; rw [M0.out] at h1; exact h1)
    · have q1 : (1 : Int) < (t.kids.length : Int) ∨ ¬ (1 : Int) < (t.kids.length : Int) := by omega
      have FN := Lib.hid HX.out.1
      have M0 := Lib.hid HX.out.2
      clear hlt hx
      rcases q1 with q1 | q1
      · go_wp2
        go_ret
        refine ⟨_, rs, rfl, ?_, FN.out.1, BW.out, own_tag FN.out.2.1⟩
        rw [M0.out]
        exact ownsRow_slOf nr_len (by have h1 := FN.out.2.1; rw [M0.out] at h1; exact h1)
      · go_wp2
        go_ret
        refine ⟨_, rs, rfl, ?_, FN.out.1, BW.out, own_tag FN.out.2.1⟩
        rw [M0.out]
        exact ownsRow_slOf nr_len (by have h1 := FN.out.2.1; rw [M0.out] at h1; exact h1)
set_option maxRecDepth 100000 in
set_option maxHeartbeats 8000000 in
theorem lv_64 {N : Nat} (hN : N ≤ 100000) (IH : LvC N) (lo : Nat) (t : Tree) (A : Option Addr) (c : Nat) (w : World) (ht : sizeT t < N + 1) (hlo : lo ≤ w.heap.size) (h : IsNd (fun b => b < lo) w (.slice A t.kids.length c) t.kids) (ho : t.op = 64) : Calls Tryd.prog 18 #[nodeV t (.slice A t.kids.length c)] w (LvR lo w (leavesT t)) := by
  have o34 : (t.op == 34) = false := by rw [ho]; decide
  have o51 : (t.op == 51) = false := by rw [ho]; decide
  have o52 : (t.op == 52) = false := by rw [ho]; decide
  have o63 : (t.op == 63) = false := by rw [ho]; decide
  have o64 : (t.op == 64) = true := by rw [ho]; decide
  have o62 : (t.op == 62) = false := by rw [ho]; decide
  have o60 : (t.op == 60) = false := by rw [ho]; decide
  have o61 : (t.op == 61) = false := by rw [ho]; decide
  have HH := Lib.hid h
  have LO := Lib.hid hlo
  have SZ := Lib.hid (show sizeK t.kids ≤ 100000 ∧ t.kids.length ≤ 100000 by have := sizeK_len t.kids; have := sizeT_eq t; omega)
  have T0 := Lib.hid (OneB.start w (nodeO t (.slice A t.kids.length c)))
  have NE := Lib.hid (show LvO lo w [] [] (.slice (some ⟨w.heap.size + 1, 0, none⟩) 0 0) ((w.alloc (nodeO t (.slice A t.kids.length c))).alloc (.cells #[] 24)) from ⟨.nil, own_empty (heap_alloc_at _ _ (by simp)) (by omega), by (repeat (with_reducible first | exact Below.refl _ _ | (refine bl_set ?_ (by first | omega | (simp; done) | (simp; omega)) _) | refine bl_gr ?_ _ | refine bl_al ?_ _ | refine below_setRow ?_ (by first | omega | (simp; done) | (simp; omega)) _ | refine bl_drewN ?_ _ | refine Below.drew ?_ | (refine bl_tr ?_ (by assumption))))⟩)
  have R := Lib.hid (show leavesT t = leavesA t.kids by rw [leavesT_eq, if_neg (by omega), if_pos (by omega)])
  rw [R.out]
  clear ho h hlo
  go_enter Tryd.func18, Tryd.ntmps18
  go_wp2
  go_loopw [3, 4] (fun o i X => ∃ (q m n : Nat) (B : Option Addr) (rs : List NodeR) (ys : List Tree), i = .int .i64 q ∧ o = .slice B m n ∧ Hid ((q = 0 ∧ ys = []) ∨ (q = 1 ∧ 0 < t.kids.length ∧ ys = leavesA t.kids)) ∧ Hid (LvO lo w rs ys (.slice B m n) X ∧ m = rs.length) ∧ OneB w X (nodeO t (.slice A t.kids.length c))) (fun _ i _ => 1 - (intOf i).toNat)
  case atStart => exact ⟨0, 0, 0, some ⟨w.heap.size + 1, 0, none⟩, [], [], rfl, rfl, Lib.hid (.inl ⟨rfl, rfl⟩), Lib.hid ⟨NE.out, rfl⟩, T0.out.step (by (repeat (with_reducible first | exact Below.refl _ _ | (refine bl_set ?_ (by first | omega | (simp; done) | (simp; omega)) _) | refine bl_gr ?_ _ | refine bl_al ?_ _ | refine below_setRow ?_ (by first | omega | (simp; done) | (simp; omega)) _ | refine bl_drewN ?_ _ | refine Below.drew ?_ | (refine bl_tr ?_ (by assumption)))))⟩
  case round =>
    clear T0 NE
    obtain ⟨q, m, n, B, rs, ys, rfl, rfl, HQ, HX, hx⟩ := hrel
    have BX := Lib.hid hx
    have BW := Lib.hid hx.2
    obtain ⟨⟨a0, a1, a2, a3, a4, a5⟩, _⟩ := cells6n hx.1
    have l0 := hx.lt
    have hq := HQ.out
    rcases hq with ⟨rfl, rfl⟩ | ⟨rfl, hlt, rfl⟩
    · by_cases hlt : 0 < t.kids.length
      · have q1 : (0 : Int) < (t.kids.length : Int) := by omega
        obtain ⟨d, hd⟩ : ∃ d, t.kids[0]? = some d := ⟨_, List.getElem?_eq_getElem hlt⟩
        obtain ⟨b, off, cap, A5', c5, e1, lb, hp, hk, f0, f1, f2, f3, f4, f5⟩ := (HH.out.bel BW.out).at_ hd
        simp only [Value.slice.injEq] at e1
        obtain ⟨rfl, _, rfl⟩ := e1
        have S1 := Lib.hid (fun V (hV : Below wr.heap.size wr V) => IH lo d A5' c5 V (by have := sizeT_kid (List.mem_of_getElem? hd); omega) (Nat.le_trans (Nat.le_trans LO.out BW.out.size) hV.size) (hk.bel hV))
        simp only [Nat.zero_mul, Nat.add_zero] at f0 f1 f2 f3 f4 f5
        have LN := Lib.hid (show ([] : List Tree).length + (leavesT d).length ≤ 100000 by have h1 := leaves_len d; have := sizeT_kid (List.mem_of_getElem? hd); have h2 := sizeT_eq t; have := SZ.out.1; simp; omega)
        have TK := Lib.hid (leavesA_kid hd)
        have LQ := Lib.hid hlt
        clear hlt hd hx hk hp
        go_wp2_with (first | (go_at_call 18; go_loud (refine (S1.out _ (by (repeat (with_reducible first | exact Below.refl _ _ | (refine bl_set ?_ (by first | omega | (simp; done) | (simp; omega)) _) | refine bl_gr ?_ _ | refine bl_al ?_ _ | refine below_setRow ?_ (by first | omega | (simp; done) | (simp; omega)) _ | refine bl_drewN ?_ _ | refine Below.drew ?_ | (refine bl_tr ?_ (by assumption)))))).mono ?_; rintro e w4 ⟨v4, rs4, rfl, s4, a4, b4, -⟩; have B4 := Lib.hid (show Below wr.heap.size wr w4 from bl_tr (by (repeat (with_reducible first | exact Below.refl _ _ | (refine bl_set ?_ (by first | omega | (simp; done) | (simp; omega)) _) | refine bl_gr ?_ _ | refine bl_al ?_ _ | refine below_setRow ?_ (by first | omega | (simp; done) | (simp; omega)) _ | refine bl_drewN ?_ _ | refine Below.drew ?_ | (refine bl_tr ?_ (by assumption))))) b4); have R4 := Lib.hid (And.intro s4 a4); have N4 := Lib.hid (show rs4.length = (leavesT d).length from a4.len); clear s4 a4 b4)) | (at_builtin; go_loud (refine wpList_appG elem_node rfl _ _ rfl (w.heap.size + 1) rs rs4 (yv := .slice B m n) (sv := v4) rfl rfl (ownsRow_below HX.out.1.2.1 B4.out) (Nat.le_trans BX.out.lt B4.out.size) R4.out.1 (R4.out.2.left fun a b hab => hab.one) (by have h1 := LN.out; have h2 := HX.out.1.1.len; have h3 := N4.out;  rw [List.length_append]; omega) (by have h1 := LN.out; have h2 := HX.out.1.1.len; have h3 := N4.out;  rw [List.length_append]; omega) ?_; intro A5 n5 w5 o5 g5; have R5 := Lib.hid (HX.out.1.app LO.out B4.out R4.out.2 g5 o5); have O5 := Lib.hid (HX.out.1.box BX.out B4.out g5); obtain ⟨m5, hm5⟩ : ∃ m5, m5 = (rs ++ rs4).length := ⟨_, rfl⟩; rw [← hm5]; have M5 := Lib.hid hm5; clear hm5 o5 g5)))
        go_roundw
        case rel => exact ⟨1, m5, n5, A5, rs ++ rs4, leavesA t.kids, rfl, rfl, Lib.hid (.inr ⟨rfl, LQ.out, rfl⟩), Lib.hid ⟨by rw [TK.out, M5.out]; exact R5.out, M5.out⟩, O5.out⟩
        case measure => simp [intOf]
      · have q1 : ¬ (0 : Int) < (t.kids.length : Int) := by omega
        have FN := Lib.hid (show LvO lo w rs (leavesA t.kids) (.slice B m n) wr by have h1 := HX.out.1; have h2 : t.kids = [] := List.eq_nil_of_length_eq_zero (by omega); rw [h2, leavesA]; exact h1)
        have M0 := Lib.hid HX.out.2
        clear hlt hx
        go_wp2
        go_ret
        refine ⟨_, rs, rfl, ?_, FN.out.1, BW.out, own_tag FN.out.2.1⟩
        rw [M0.out]
        exact ownsRow_slOf nr_len (by have h1 := FN.out.2.1; rw [M0.out] at h1; exact h1)
    · have q1 : (1 : Int) < (t.kids.length : Int) ∨ ¬ (1 : Int) < (t.kids.length : Int) := by omega
      have FN := Lib.hid HX.out.1
      have M0 := Lib.hid HX.out.2
      clear hlt hx
      rcases q1 with q1 | q1
      · go_wp2
        go_ret
        refine ⟨_, rs, rfl, ?_, FN.out.1, BW.out, own_tag FN.out.2.1⟩
        rw [M0.out]
        exact ownsRow_slOf nr_len (by have h1 := FN.out.2.1; rw [M0.out] at h1; exact h1)
      · go_wp2
        go_ret
        refine ⟨_, rs, rfl, ?_, FN.out.1, BW.out, own_tag FN.out.2.1⟩
        rw [M0.out]
        exact ownsRow_slOf nr_len (by have h1 := FN.out.2.1; rw [M0.out] at h1; exact h1)
set_option maxRecDepth 100000 in
set_option maxHeartbeats 8000000 in
theorem lv_62 {N : Nat} (hN : N ≤ 100000) (IH : LvC N) (lo : Nat) (t : Tree) (A : Option Addr) (c : Nat) (w : World) (ht : sizeT t < N + 1) (hlo : lo ≤ w.heap.size) (h : IsNd (fun b => b < lo) w (.slice A t.kids.length c) t.kids) (ho : t.op = 62) (h2 : t.kids.length = 2) : Calls Tryd.prog 18 #[nodeV t (.slice A t.kids.length c)] w (LvR lo w (leavesT t)) := by
  have o34 : (t.op == 34) = false := by rw [ho]; decide
  have o51 : (t.op == 51) = false := by rw [ho]; decide
  have o52 : (t.op == 52) = false := by rw [ho]; decide
  have o63 : (t.op == 63) = false := by rw [ho]; decide
  have o64 : (t.op == 64) = false := by rw [ho]; decide
  have o62 : (t.op == 62) = true := by rw [ho]; decide
  have o60 : (t.op == 60) = false := by rw [ho]; decide
  have o61 : (t.op == 61) = false := by rw [ho]; decide
  have HH := Lib.hid h
  have LO := Lib.hid hlo
  have SZ := Lib.hid (show sizeK t.kids ≤ 100000 ∧ t.kids.length ≤ 100000 by have := sizeK_len t.kids; have := sizeT_eq t; omega)
  have T0 := Lib.hid (OneB.start w (nodeO t (.slice A t.kids.length c)))
  have NE := Lib.hid (show LvO lo w [] [] (.slice (some ⟨w.heap.size + 1, 0, none⟩) 0 0) ((w.alloc (nodeO t (.slice A t.kids.length c))).alloc (.cells #[] 24)) from ⟨.nil, own_empty (heap_alloc_at _ _ (by simp)) (by omega), by (repeat (with_reducible first | exact Below.refl _ _ | (refine bl_set ?_ (by first | omega | (simp; done) | (simp; omega)) _) | refine bl_gr ?_ _ | refine bl_al ?_ _ | refine below_setRow ?_ (by first | omega | (simp; done) | (simp; omega)) _ | refine bl_drewN ?_ _ | refine Below.drew ?_ | (refine bl_tr ?_ (by assumption))))⟩)
  have R := Lib.hid (show leavesT t = leavesB t.kids by rw [leavesT_eq, if_neg (by omega), if_neg (by omega), if_pos (by omega), if_pos h2])
  rw [R.out]
  obtain ⟨d, hd⟩ : ∃ d, t.kids[1]? = some d := ⟨_, List.getElem?_eq_getElem (by omega)⟩
  have TK := Lib.hid (leavesB_kid hd)
  have g1 : ((t.kids.length : Int) == 2) = true := by rw [h2]; decide
  have g2 : (1 : Int) < (t.kids.length : Int) := by omega
  have LN := Lib.hid (show ([] : List Tree).length + (leavesT d).length ≤ 100000 by have h1 := leaves_len d; have := sizeT_kid (List.mem_of_getElem? hd); have h2 := sizeT_eq t; have := SZ.out.1; simp; omega)
  clear h2
  clear ho h hlo
  go_enter Tryd.func18, Tryd.ntmps18
  go_upto_region 9 with fail
  refine wpd_world (fun X => OneB w X (nodeO t (.slice A t.kids.length c)) ∧ LvO lo w [] [] (.slice (some ⟨w.heap.size + 1, 0, none⟩) 0 0) X) ⟨T0.out.step (by (repeat (with_reducible first | exact Below.refl _ _ | (refine bl_set ?_ (by first | omega | (simp; done) | (simp; omega)) _) | refine bl_gr ?_ _ | refine bl_al ?_ _ | refine below_setRow ?_ (by first | omega | (simp; done) | (simp; omega)) _ | refine bl_drewN ?_ _ | refine Below.drew ?_ | (refine bl_tr ?_ (by assumption))))), NE.out⟩ ?_
  intro X hX
  have BX := Lib.hid hX.1
  have BW := Lib.hid hX.1.2
  have HX := Lib.hid (And.intro hX.2 (Nat.zero_add 0))
  obtain ⟨⟨a0, a1, a2, a3, a4, a5⟩, _⟩ := cells6n hX.1.1
  have l0 := hX.1.lt
  clear hX T0 NE
  obtain ⟨b, off, cap, A5', c5, e1, lb, hp, hk, f0, f1, f2, f3, f4, f5⟩ := (HH.out.bel BW.out).at_ hd
  simp only [Value.slice.injEq] at e1
  obtain ⟨rfl, _, rfl⟩ := e1
  have S1 := Lib.hid (fun V (hV : Below X.heap.size X V) => IH lo d A5' c5 V (by have := sizeT_kid (List.mem_of_getElem? hd); omega) (Nat.le_trans (Nat.le_trans LO.out BW.out.size) hV.size) (hk.bel hV))
  simp only [Nat.one_mul] at f0 f1 f2 f3 f4 f5
  clear hd hk hp
  go_wp2_with (first | (go_at_call 18; go_loud (refine (S1.out _ (by (repeat (with_reducible first | exact Below.refl _ _ | (refine bl_set ?_ (by first | omega | (simp; done) | (simp; omega)) _) | refine bl_gr ?_ _ | refine bl_al ?_ _ | refine below_setRow ?_ (by first | omega | (simp; done) | (simp; omega)) _ | refine bl_drewN ?_ _ | refine Below.drew ?_ | (refine bl_tr ?_ (by assumption)))))).mono ?_; rintro e w4 ⟨v4, rs4, rfl, s4, a4, b4, -⟩; have B4 := Lib.hid (show Below X.heap.size X w4 from bl_tr (by (repeat (with_reducible first | exact Below.refl _ _ | (refine bl_set ?_ (by first | omega | (simp; done) | (simp; omega)) _) | refine bl_gr ?_ _ | refine bl_al ?_ _ | refine below_setRow ?_ (by first | omega | (simp; done) | (simp; omega)) _ | refine bl_drewN ?_ _ | refine Below.drew ?_ | (refine bl_tr ?_ (by assumption))))) b4); have R4 := Lib.hid (And.intro s4 a4); have N4 := Lib.hid (show rs4.length = (leavesT d).length from a4.len); clear s4 a4 b4)) | (at_builtin; go_loud (refine wpList_appG elem_node rfl _ _ rfl (w.heap.size + 1) [] rs4 (yv := .slice (some ⟨w.heap.size + 1, 0, none⟩) 0 0) (sv := v4) rfl rfl (ownsRow_below HX.out.1.2.1 B4.out) (Nat.le_trans BX.out.lt B4.out.size) R4.out.1 (R4.out.2.left fun a b hab => hab.one) (by have h1 := LN.out; have h2 := HX.out.1.1.len; have h3 := N4.out;  rw [List.length_append]; omega) (by have h1 := LN.out; have h2 := HX.out.1.1.len; have h3 := N4.out;  rw [List.length_append]; omega) ?_; intro A5 n5 w5 o5 g5; have R5 := Lib.hid (HX.out.1.app LO.out B4.out R4.out.2 g5 o5); have O5 := Lib.hid (HX.out.1.box BX.out B4.out g5); obtain ⟨m5, hm5⟩ : ∃ m5, m5 = ([] ++ rs4).length := ⟨_, rfl⟩; rw [← hm5]; have M5 := Lib.hid hm5; obtain ⟨⟨z0, z1, z2, z3, z4, z5⟩, _⟩ := cells6n O5.out.1; have l5 := O5.out.lt; clear hm5 o5 g5)))
  go_ret
  refine ⟨_, _, rfl, ?_, by rw [TK.out]; exact R5.out.1, R5.out.2.2, by rw [M5.out]; exact own_tag R5.out.2.1⟩
  rw [M5.out]
  exact ownsRow_slOf nr_len R5.out.2.1
set_option maxRecDepth 100000 in
set_option maxHeartbeats 8000000 in
theorem lv_62n {N : Nat} (hN : N ≤ 100000) (IH : LvC N) (lo : Nat) (t : Tree) (A : Option Addr) (c : Nat) (w : World) (ht : sizeT t < N + 1) (hlo : lo ≤ w.heap.size) (h : IsNd (fun b => b < lo) w (.slice A t.kids.length c) t.kids) (ho : t.op = 62) (h2 : ¬ t.kids.length = 2) : Calls Tryd.prog 18 #[nodeV t (.slice A t.kids.length c)] w (LvR lo w (leavesT t)) := by
  have o34 : (t.op == 34) = false := by rw [ho]; decide
  have o51 : (t.op == 51) = false := by rw [ho]; decide
  have o52 : (t.op == 52) = false := by rw [ho]; decide
  have o63 : (t.op == 63) = false := by rw [ho]; decide
  have o64 : (t.op == 64) = false := by rw [ho]; decide
  have o62 : (t.op == 62) = true := by rw [ho]; decide
  have o60 : (t.op == 60) = false := by rw [ho]; decide
  have o61 : (t.op == 61) = false := by rw [ho]; decide
  have HH := Lib.hid h
  have LO := Lib.hid hlo
  have SZ := Lib.hid (show sizeK t.kids ≤ 100000 ∧ t.kids.length ≤ 100000 by have := sizeK_len t.kids; have := sizeT_eq t; omega)
  have T0 := Lib.hid (OneB.start w (nodeO t (.slice A t.kids.length c)))
  have NE := Lib.hid (show LvO lo w [] [] (.slice (some ⟨w.heap.size + 1, 0, none⟩) 0 0) ((w.alloc (nodeO t (.slice A t.kids.length c))).alloc (.cells #[] 24)) from ⟨.nil, own_empty (heap_alloc_at _ _ (by simp)) (by omega), by (repeat (with_reducible first | exact Below.refl _ _ | (refine bl_set ?_ (by first | omega | (simp; done) | (simp; omega)) _) | refine bl_gr ?_ _ | refine bl_al ?_ _ | refine below_setRow ?_ (by first | omega | (simp; done) | (simp; omega)) _ | refine bl_drewN ?_ _ | refine Below.drew ?_ | (refine bl_tr ?_ (by assumption))))⟩)
  have R := Lib.hid (show leavesT t = [] by rw [leavesT_eq, if_neg (by omega), if_neg (by omega), if_pos (by omega), if_neg h2])
  rw [R.out]
  have g1 : ((t.kids.length : Int) == 2) = false := by rw [beq_eq_false_iff_ne]; omega
  clear h2
  clear ho h hlo
  go_enter Tryd.func18, Tryd.ntmps18
  go_upto_region 9 with fail
  refine wpd_world (fun X => OneB w X (nodeO t (.slice A t.kids.length c)) ∧ LvO lo w [] [] (.slice (some ⟨w.heap.size + 1, 0, none⟩) 0 0) X) ⟨T0.out.step (by (repeat (with_reducible first | exact Below.refl _ _ | (refine bl_set ?_ (by first | omega | (simp; done) | (simp; omega)) _) | refine bl_gr ?_ _ | refine bl_al ?_ _ | refine below_setRow ?_ (by first | omega | (simp; done) | (simp; omega)) _ | refine bl_drewN ?_ _ | refine Below.drew ?_ | (refine bl_tr ?_ (by assumption))))), NE.out⟩ ?_
  intro X hX
  have BX := Lib.hid hX.1
  have BW := Lib.hid hX.1.2
  have HX := Lib.hid (And.intro hX.2 (Nat.zero_add 0))
  obtain ⟨⟨a0, a1, a2, a3, a4, a5⟩, _⟩ := cells6n hX.1.1
  have l0 := hX.1.lt
  clear hX T0 NE
  go_wp2
  go_ret
  exact ⟨_, [], rfl, ownsRow_slOf nr_len HX.out.1.2.1, .nil, BW.out, own_tag HX.out.1.2.1⟩
set_option maxRecDepth 100000 in
set_option maxHeartbeats 8000000 in
theorem lv_no {N : Nat} (hN : N ≤ 100000) (IH : LvC N) (lo : Nat) (t : Tree) (A : Option Addr) (c : Nat) (w : World) (ht : sizeT t < N + 1) (hlo : lo ≤ w.heap.size) (h : IsNd (fun b => b < lo) w (.slice A t.kids.length c) t.kids) (h34 : ¬ t.op = 34) (h51 : ¬ t.op = 51) (h52 : ¬ t.op = 52) (h63 : ¬ t.op = 63) (h64 : ¬ t.op = 64) (h62 : ¬ t.op = 62) (h60 : ¬ t.op = 60) (h61 : ¬ t.op = 61) : Calls Tryd.prog 18 #[nodeV t (.slice A t.kids.length c)] w (LvR lo w (leavesT t)) := by
  have o34 : (t.op == 34) = false := beq_eq_false_iff_ne.2 h34
  have o51 : (t.op == 51) = false := beq_eq_false_iff_ne.2 h51
  have o52 : (t.op == 52) = false := beq_eq_false_iff_ne.2 h52
  have o63 : (t.op == 63) = false := beq_eq_false_iff_ne.2 h63
  have o64 : (t.op == 64) = false := beq_eq_false_iff_ne.2 h64
  have o62 : (t.op == 62) = false := beq_eq_false_iff_ne.2 h62
  have o60 : (t.op == 60) = false := beq_eq_false_iff_ne.2 h60
  have o61 : (t.op == 61) = false := beq_eq_false_iff_ne.2 h61
  have HH := Lib.hid h
  have LO := Lib.hid hlo
  have SZ := Lib.hid (show sizeK t.kids ≤ 100000 ∧ t.kids.length ≤ 100000 by have := sizeK_len t.kids; have := sizeT_eq t; omega)
  have T0 := Lib.hid (OneB.start w (nodeO t (.slice A t.kids.length c)))
  have NE := Lib.hid (show LvO lo w [] [] (.slice (some ⟨w.heap.size + 1, 0, none⟩) 0 0) ((w.alloc (nodeO t (.slice A t.kids.length c))).alloc (.cells #[] 24)) from ⟨.nil, own_empty (heap_alloc_at _ _ (by simp)) (by omega), by (repeat (with_reducible first | exact Below.refl _ _ | (refine bl_set ?_ (by first | omega | (simp; done) | (simp; omega)) _) | refine bl_gr ?_ _ | refine bl_al ?_ _ | refine below_setRow ?_ (by first | omega | (simp; done) | (simp; omega)) _ | refine bl_drewN ?_ _ | refine Below.drew ?_ | (refine bl_tr ?_ (by assumption))))⟩)
  have R := Lib.hid (show leavesT t = [] by rw [leavesT_eq, if_neg (by omega), if_neg (by omega), if_neg (by omega), if_neg (by omega)])
  rw [R.out]
  clear h hlo h34 h51 h52 h63 h64 h62 h60 h61
  go_enter Tryd.func18, Tryd.ntmps18
  go_upto_region 9 with fail
  refine wpd_world (fun X => OneB w X (nodeO t (.slice A t.kids.length c)) ∧ LvO lo w [] [] (.slice (some ⟨w.heap.size + 1, 0, none⟩) 0 0) X) ⟨T0.out.step (by (repeat (with_reducible first | exact Below.refl _ _ | (refine bl_set ?_ (by first | omega | (simp; done) | (simp; omega)) _) | refine bl_gr ?_ _ | refine bl_al ?_ _ | refine below_setRow ?_ (by first | omega | (simp; done) | (simp; omega)) _ | refine bl_drewN ?_ _ | refine Below.drew ?_ | (refine bl_tr ?_ (by assumption))))), NE.out⟩ ?_
  intro X hX
  have BX := Lib.hid hX.1
  have BW := Lib.hid hX.1.2
  have HX := Lib.hid (And.intro hX.2 (Nat.zero_add 0))
  obtain ⟨⟨a0, a1, a2, a3, a4, a5⟩, _⟩ := cells6n hX.1.1
  have l0 := hX.1.lt
  clear hX T0 NE
  go_wp2
  go_ret
  exact ⟨_, [], rfl, ownsRow_slOf nr_len HX.out.1.2.1, .nil, BW.out, own_tag HX.out.1.2.1⟩
theorem lv_step {N : Nat} (hN : N ≤ 100000) (IH : LvC N) : LvC (N + 1) := by
  intro lo t A c w ht hlo h
  by_cases h34 : t.op = 34
  · exact lv_34 hN IH lo t A c w ht hlo h h34
  by_cases h51 : t.op = 51
  · exact lv_51 hN IH lo t A c w ht hlo h h51
  by_cases h52 : t.op = 52
  · exact lv_52 hN IH lo t A c w ht hlo h h52
  by_cases h63 : t.op = 63
  · exact lv_63 hN IH lo t A c w ht hlo h h63
  by_cases h64 : t.op = 64
  · exact lv_64 hN IH lo t A c w ht hlo h h64
  by_cases h62 : t.op = 62
  · by_cases h2 : t.kids.length = 2
    · exact lv_62 hN IH lo t A c w ht hlo h h62 h2
    · exact lv_62n hN IH lo t A c w ht hlo h h62 h2
  by_cases h60 : t.op = 60
  · exact lv_60 hN IH lo t A c w ht hlo h h60
  by_cases h61 : t.op = 61
  · exact lv_61 hN IH lo t A c w ht hlo h h61
  exact lv_no hN IH lo t A c w ht hlo h h34 h51 h52 h63 h64 h62 h60 h61
theorem leaves_any (lo : Nat) (t : Tree) (A : Option Addr) (c : Nat) (w : World) (ht : sizeT t ≤ 99999) (hlo : lo ≤ w.heap.size) (h : IsNd (fun b => b < lo) w (.slice A t.kids.length c) t.kids) : Calls Tryd.prog 18 #[nodeV t (.slice A t.kids.length c)] w (LvR lo w (leavesT t)) := by
  have : ∀ N, N ≤ 100000 → LvC N := by
    intro N
    induction N with
    | zero => intro _ lo t A c w ht; omega
    | succ N ih => exact fun hN => lv_step (by omega) (ih (by omega))
  exact this 100000 (by omega) lo t A c w (by omega) hlo h
end Go.Proofs.YtiagegecnopfgaaDoor
