/- The maker's rest; Itoa; what a part of the pattern starts from. -/
import Derived.Test.YtiagegecnopfgaaDoorPaH
import Derived.Test.YtiagegecnopfgaaDoorShelf
import Derived.Lib.AppendIntMem
namespace Go.Proofs.YtiagegecnopfgaaDoor
set_option linter.all false
open Go.ChangeShapes Go.WideShapes Go.ChangeAt Go.RowKit Go.Sort Go.Deep
variable {E : Nat → Prop}

/-- the table of powers that Itoa reads, in an old block -/
def Tab (lo : Nat) (w : World) : Prop := Lib.TabIs Tryd.prog w "internal/strconv.uint64pow10" .u64 Lib.pow10Tab ∧ ∀ V : World, (∀ b, b < lo → V.heap[b]? = w.heap[b]?) → Lib.TabIs Tryd.prog V "internal/strconv.uint64pow10" .u64 Lib.pow10Tab
theorem itoa_calls (n : Int) (h : i64ok n) (w : World) (ht : Lib.TabIs Tryd.prog w "internal/strconv.uint64pow10" .u64 Lib.pow10Tab) : Calls Tryd.prog 42 #[.int .i64 n] w fun e w' => e = .returned (.string (strL (Lib.itoa n))) ∧ Below w.heap.size w w' :=
  (Tryd.strconv_Itoa n h.1 h.2 w ht).mono fun _ _ ⟨he, k, os, hw⟩ => ⟨he, by rw [hw]; exact Lib.below_grow _ w (Nat.le_refl _) k os⟩
theorem Tab.start {w : World} (h : Lib.TabIs Tryd.prog w "internal/strconv.uint64pow10" .u64 Lib.pow10Tab) : Tab w.heap.size w := by
  refine ⟨h, fun V hV => ?_⟩
  unfold Lib.TabIs World.var? at *
  rw [Option.bind_eq_some_iff] at h ⊢
  obtain ⟨g, hg, h⟩ := h
  refine ⟨g, hg, ?_⟩
  have hlt : g < w.heap.size := by
    rcases Nat.lt_or_ge g w.heap.size with h' | h'
    · exact h'
    · rw [Array.getElem?_eq_none h'] at h
      cases h
  rw [hV g hlt]
  exact h
theorem Tab.low {lo : Nat} {w V : World} (h : Tab lo w) (hb : ∀ b, b < lo → V.heap[b]? = w.heap[b]?) : Tab lo V := ⟨h.2 V hb, fun U hU => h.2 U fun b hl => (hU b hl).trans (hb b hl)⟩
/-- what a part of the pattern starts from: the maker, old trees, the table -/
structure ApS (E : Nat → Prop) (lo B : Nat) (x : Mk) (X : World) : Prop where
  st : MkS E lo B x X
  tab : Tab lo X
  lo : lo ≤ X.heap.size
  ex : ∀ b, E b → b < X.heap.size
theorem ApS.below {lo B : Nat} {x : Mk} {X Y : World} (h : ApS E lo B x X) (hb : Below X.heap.size X Y) : ApS E lo B x Y := ⟨h.st.step hb, h.tab.low fun b hl => hb.block b (Nat.lt_of_lt_of_le hl h.lo), Nat.le_trans h.lo hb.size, fun b he => Nat.lt_of_lt_of_le (h.ex b he) hb.size⟩
theorem ApS.kp {lo B : Nat} {x y : Mk} {X Y : World} (h : ApS E lo B x X) (k : KpM lo B X Y) (hm : MkS E lo B y Y) : ApS E lo B y Y := ⟨hm, h.tab.low fun b hl => (k.below h.st.rowT h.lo).block b hl, Nat.le_trans h.lo k.size, fun b he => Nat.lt_of_lt_of_le (h.ex b he) k.size⟩
/-- old trees stay -/
theorem nd_lo {lo B : Nat} {X Y : World} {v : Value} {l : List Tree} (h : IsNd (fun b => b < lo) X v l) (k : KpM lo B X Y) (hR : RowT lo B X) (hl : lo ≤ X.heap.size) : IsNd (fun b => b < lo) Y v l := h.keep k.size fun b hp hlt => ⟨(k.below hR hl).block b hp, hp⟩
theorem nd_low {lo : Nat} {X Y : World} {v : Value} {l : List Tree} (h : IsNd (fun b => b < lo) X v l) (hs : X.heap.size ≤ Y.heap.size) (hb : ∀ b, b < lo → Y.heap[b]? = X.heap[b]?) : IsNd (fun b => b < lo) Y v l := h.keep hs fun b hp _ => ⟨hb b hp, hp⟩
/-- what rest makes of the maker -/
def restX (x : Mk) (t c : Tree) (q : Nat) : Mk := if c.op = 64 ∧ ¬ (q + 1 = t.kids.length ∧ c.kids.length = 1) then x.bad else x
def RetR (E : Nat → Prop) (lo B : Nat) (x : Mk) (X : World) (b : Bool) (e : Ending) (Y : World) : Prop := e = .returned (.bool b) ∧ MkS E lo B x Y ∧ KpM lo B X Y
set_option maxRecDepth 100000 in
set_option maxHeartbeats 4000000 in
theorem rest_any (lo B : Nat) (x : Mk) (t d : Tree) (A : Option Addr) (c : Nat) (q : Nat) (X : World) (h : MkS E lo B x X) (hd : t.kids[q]? = some d) (hl : t.kids.length ≤ 1000000) (hT : IsNd (fun b => b < lo) X (.slice A t.kids.length c) t.kids) :
    Calls Tryd.prog 36 #[.pointer (some ⟨B, 0, none⟩), nodeV t (.slice A t.kids.length c), .int .i64 (q : Int)] X (RetR E lo B (restX x t d q) X (d.op == 64)) := by
  obtain ⟨b, off, cap, A5, c5, e1, lb, hp, hk, f0, f1, f2, f3, f4, f5⟩ := hT.at_ hd
  simp only [Value.slice.injEq] at e1
  obtain ⟨rfl, _, rfl⟩ := e1
  have hlt := (List.getElem?_eq_some_iff.1 hd).1
  have q1 : (q : Int) < (t.kids.length : Int) := by omega
  have q3 : ¬ (q : Int) < 0 := by omega
  have lbn : ∀ u, b < X.heap.size + u := fun u => Nat.lt_of_lt_of_le lb (Nat.le_add_right _ _)
  obtain ⟨v, hv⟩ := h.cells
  obtain ⟨⟨a0, a1, a2⟩, af⟩ := cells3m hv
  have lB := h.lt
  have LB := Lib.hid lB
  have lBn : ∀ u, B < X.heap.size + u := fun u => Nat.lt_of_lt_of_le lB (Nat.le_add_right _ _)
  have HM := Lib.hid h
  have ew : wrap64 ((t.kids.length : Int) - 1) = (t.kids.length : Int) - 1 := by unfold wrap64; omega
  have BB := Lib.hid h.badS
  by_cases h64 : d.op = 64
  · have o1 : (d.op != 64) = false := by rw [h64]; rfl
    have o2 : (d.op == 64) = true := by rw [h64]; rfl
    rw [o2]
    by_cases hq : q + 1 = t.kids.length
    · have z1 : ((q : Int) != (t.kids.length : Int) - 1) = false := by rw [show (t.kids.length : Int) - 1 = (q : Int) by omega]; exact bne_self_eq_false _
      by_cases hk1 : d.kids.length = 1
      · have z2 : ((d.kids.length : Int) != 1) = false := by rw [hk1]; rfl
        have RX := Lib.hid (show restX x t d q = x by unfold restX; rw [if_neg (by rintro ⟨_, hn⟩; exact hn ⟨hq, hk1⟩)])
        rw [RX.out]
        clear h hd hT hk hv hp hlt hq hk1
        go_enter Tryd.func36, Tryd.ntmps36
        go_wp2
        go_ret
        exact ⟨rfl, HM.out.step (by (repeat (with_reducible first | exact Below.refl _ _ | (refine bl_set ?_ (by first | omega | (simp; done) | (simp; omega)) _) | refine bl_gr ?_ _ | refine bl_al ?_ _ | refine below_setRow ?_ (by first | omega | (simp; done) | (simp; omega)) _ | refine bl_drewN ?_ _ | refine Below.drew ?_ | (refine bl_tr ?_ (by assumption))))), KpM.of_below (by (repeat (with_reducible first | exact Below.refl _ _ | (refine bl_set ?_ (by first | omega | (simp; done) | (simp; omega)) _) | refine bl_gr ?_ _ | refine bl_al ?_ _ | refine below_setRow ?_ (by first | omega | (simp; done) | (simp; omega)) _ | refine bl_drewN ?_ _ | refine Below.drew ?_ | (refine bl_tr ?_ (by assumption))))) LB.out⟩
      · have z2 : ((d.kids.length : Int) != 1) = true := by rw [bne_iff_ne]; omega
        have RX := Lib.hid (show restX x t d q = x.bad by unfold restX; rw [if_pos ⟨h64, fun hn => hk1 hn.2⟩])
        rw [RX.out]
        clear h hd hT hk hv hp hlt hq hk1
        go_enter Tryd.func36, Tryd.ntmps36
        go_wp2
        go_ret
        exact ⟨rfl, BB.out.1.step (by (repeat (with_reducible first | exact Below.refl _ _ | (refine bl_set ?_ (by first | omega | (simp; done) | (simp; omega)) _) | refine bl_gr ?_ _ | refine bl_al ?_ _ | refine below_setRow ?_ (by first | omega | (simp; done) | (simp; omega)) _ | refine bl_drewN ?_ _ | refine Below.drew ?_ | (refine bl_tr ?_ (by assumption))))), BB.out.2.trans (KpM.of_below (by (repeat (with_reducible first | exact Below.refl _ _ | (refine bl_set ?_ (by first | omega | (simp; done) | (simp; omega)) _) | refine bl_gr ?_ _ | refine bl_al ?_ _ | refine below_setRow ?_ (by first | omega | (simp; done) | (simp; omega)) _ | refine bl_drewN ?_ _ | refine Below.drew ?_ | (refine bl_tr ?_ (by assumption))))) (Nat.lt_of_lt_of_le LB.out BB.out.2.size))⟩
    · have z1 : ((q : Int) != (t.kids.length : Int) - 1) = true := by rw [bne_iff_ne]; omega
      have RX := Lib.hid (show restX x t d q = x.bad by unfold restX; rw [if_pos ⟨h64, fun hn => hq hn.1⟩])
      rw [RX.out]
      clear h hd hT hk hv hp hlt hq
      go_enter Tryd.func36, Tryd.ntmps36
      go_wp2
      go_ret
      exact ⟨rfl, BB.out.1.step (by (repeat (with_reducible first | exact Below.refl _ _ | (refine bl_set ?_ (by first | omega | (simp; done) | (simp; omega)) _) | refine bl_gr ?_ _ | refine bl_al ?_ _ | refine below_setRow ?_ (by first | omega | (simp; done) | (simp; omega)) _ | refine bl_drewN ?_ _ | refine Below.drew ?_ | (refine bl_tr ?_ (by assumption))))), BB.out.2.trans (KpM.of_below (by (repeat (with_reducible first | exact Below.refl _ _ | (refine bl_set ?_ (by first | omega | (simp; done) | (simp; omega)) _) | refine bl_gr ?_ _ | refine bl_al ?_ _ | refine below_setRow ?_ (by first | omega | (simp; done) | (simp; omega)) _ | refine bl_drewN ?_ _ | refine Below.drew ?_ | (refine bl_tr ?_ (by assumption))))) (Nat.lt_of_lt_of_le LB.out BB.out.2.size))⟩
  · have o1 : (d.op != 64) = true := by rw [bne_iff_ne]; exact h64
    have o2 : (d.op == 64) = false := by rw [beq_eq_false_iff_ne]; exact h64
    rw [o2]
    have RX := Lib.hid (show restX x t d q = x by unfold restX; rw [if_neg (by rintro ⟨h1, _⟩; exact h64 h1)])
    rw [RX.out]
    clear h hd hT hk hv hp hlt
    go_enter Tryd.func36, Tryd.ntmps36
    go_wp2
    go_ret
    exact ⟨rfl, HM.out.step (by (repeat (with_reducible first | exact Below.refl _ _ | (refine bl_set ?_ (by first | omega | (simp; done) | (simp; omega)) _) | refine bl_gr ?_ _ | refine bl_al ?_ _ | refine below_setRow ?_ (by first | omega | (simp; done) | (simp; omega)) _ | refine bl_drewN ?_ _ | refine Below.drew ?_ | (refine bl_tr ?_ (by assumption))))), KpM.of_below (by (repeat (with_reducible first | exact Below.refl _ _ | (refine bl_set ?_ (by first | omega | (simp; done) | (simp; omega)) _) | refine bl_gr ?_ _ | refine bl_al ?_ _ | refine below_setRow ?_ (by first | omega | (simp; done) | (simp; omega)) _ | refine bl_drewN ?_ _ | refine Below.drew ?_ | (refine bl_tr ?_ (by assumption))))) LB.out⟩
end Go.Proofs.YtiagegecnopfgaaDoor
