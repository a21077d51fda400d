/- Worlds that have grown: what a callee that writes nothing old leaves is 'gr W p'; regions that draw their order over such worlds, with a forced tail too. -/
import Derived.Test.YtiagegecnopfgaaDoorBase
import Derived.StillTail
namespace Go.Proofs.YtiagegecnopfgaaDoor
set_option linter.all false
open Go.RowKit Go.Sort

/-- W with blocks laid behind it and some draws made. -/
def gr (W : World) (p : Regrown) : World := grow (redrawn W p.d) p.os
def rapp (p q : Regrown) : Regrown := ⟨q.d, p.os ++ q.os⟩
def rdr (p : Regrown) : Regrown := ⟨p.d + 1, p.os⟩

theorem below_gr (W : World) (p : Regrown) : Below W.heap.size W (gr W p) := below_regrown W p.d p.os
theorem gr_of_below {W w' : World} (h : Below W.heap.size W w') : ∃ p : Regrown, w' = gr W p := regrown_of_below h
theorem bl_gr {a W : World} (h : Below a.heap.size a W) (p : Regrown) : Below a.heap.size a (gr W p) := bl_tr h (below_gr W p)

/-! rules for the walk: given to it as local facts -/
theorem gr_size (W : World) (p : Regrown) : (gr W p).heap.size = W.heap.size + p.os.size := by simp [gr, redrawn]
theorem gr_cell (W : World) (p : Regrown) (b o : Nat) (h : b < W.heap.size) : (gr W p).cell? ⟨b, o, none⟩ = W.cell? ⟨b, o, none⟩ := (below_gr W p).cell (p := ⟨b, o, none⟩) h
theorem gr_frozen (W : World) (p : Regrown) (b o : Nat) (h : b < W.heap.size) : (gr W p).frozen? ⟨b, o, none⟩ = W.frozen? ⟨b, o, none⟩ := (below_gr W p).frozen (p := ⟨b, o, none⟩) h
theorem gr_gr (W : World) (p q : Regrown) : gr (gr W p) q = gr W (rapp p q) := by
  simp [gr, redrawn, grow, rapp, Array.append_assoc]
theorem gr_drew (W : World) (p : Regrown) : (gr W p).drew = gr W (rdr p) := by
  rfl
theorem drew_gr (W : World) (p : Regrown) : gr W.drew p = gr W p := rfl
theorem gr_set (W : World) (p : Regrown) (b o : Nat) (v : Value) (h : b < W.heap.size) : (gr W p).setCell ⟨b, o, none⟩ v = gr (W.setCell ⟨b, o, none⟩ v) p := by
  obtain ⟨heap, tape, drawn, os, output⟩ := W
  have h' : b < heap.size := h
  simp only [gr, redrawn, grow, World.setCell]
  congr 1
  apply Array.ext_getElem?
  intro i
  simp only [Array.getElem?_modify, Array.getElem?_append, Array.size_modify]
  by_cases hi : i < heap.size
  · simp only [hi, if_true, Array.getElem?_modify]
  · simp only [hi, if_false]
    rw [if_neg (by omega)]
theorem lt_plus (a k k' n : Nat) (h : k < k') : (a + k < a + k' + n) = True := eq_true (by omega)
theorem lt_plus0 (a k' n : Nat) (h : 0 < k') : (a < a + k' + n) = True := eq_true (by omega)
theorem lt_plus' (a k k' n : Nat) (h : k < k') : (a + k < a + (k' + n)) = True := eq_true (by omega)

theorem lt_a (a k n j : Nat) (h : 0 < k) : (a < a + k + n + j) = True := eq_true (by omega)
theorem lt_b (a i k n j : Nat) (h : i < k) : (a + i < a + k + n + j) = True := eq_true (by omega)
theorem lt_c (a k n j m : Nat) (h : 0 < k) : (a < a + k + n + j + m) = True := eq_true (by omega)
theorem lt_d (a i k n j m : Nat) (h : i < k) : (a + i < a + k + n + j + m) = True := eq_true (by omega)
theorem lt_e (a k n j m : Nat) (h : 0 < j) : (a + k + n < a + k + n + j + m) = True := eq_true (by omega)
theorem lt_f (a k n i j m : Nat) (h : i < j) : (a + k + n + i < a + k + n + j + m) = True := eq_true (by omega)
theorem lt_g (a k n j m l : Nat) (h : 0 < k) : (a < a + k + n + j + m + l) = True := eq_true (by omega)
theorem lt_h (a i k n j m l : Nat) (h : i < k) : (a + i < a + k + n + j + m + l) = True := eq_true (by omega)
theorem lt_i (a k n j m l : Nat) (h : 0 < j) : (a + k + n < a + k + n + j + m + l) = True := eq_true (by omega)
theorem lt_j (a k n i j m l : Nat) (h : i < j) : (a + k + n + i < a + k + n + j + m + l) = True := eq_true (by omega)

attribute [go_sem] gr_size gr_cell gr_frozen gr_gr gr_drew drew_gr gr_set lt_plus lt_plus0 lt_plus' lt_a lt_b lt_c lt_d lt_e lt_f lt_g lt_h lt_i lt_j

/-- A callee's contract that ends in Below, for the walk. -/
theorem callGr {P : Program} {f : FuncId} {args : Array Value} {W : World} {v : Value} (h : Calls P f args W fun e w' => e = .returned v ∧ Below W.heap.size W w') :
    Calls P f args W fun e w' => ∃ p : Regrown, e = .returned v ∧ w' = gr W p :=
  h.mono fun _ _ ⟨he, hb⟩ => let ⟨p, hp⟩ := gr_of_below hb; ⟨p, he, hp⟩
/-- .. in a region that draws, from the class 'grown from W'. -/
theorem callQ {P : Program} {f : FuncId} {args : Array Value} {W : World} {p : Regrown} {v : Value} (h : Calls P f args (gr W p) fun e w' => e = .returned v ∧ Below (gr W p).heap.size (gr W p) w') :
    Calls P f args (gr W p) fun e w' => e = .returned v ∧ ∃ q : Regrown, w' = gr W q :=
  h.mono fun _ _ ⟨he, hb⟩ => let ⟨q, hq⟩ := gr_of_below hb; ⟨he, rapp p q, by rw [hq, gr_gr]⟩
theorem callS {P : Program} {f : FuncId} {args : Array Value} {W : World} {p : Regrown} {v : Value} (h : Calls P f args (gr W p) fun e w' => e = .returned v ∧ gr W p = w') :
    Calls P f args (gr W p) fun e w' => e = .returned v ∧ ∃ q : Regrown, w' = gr W q :=
  h.mono fun _ _ ⟨he, hb⟩ => ⟨he, p, hb.symm⟩

/-! regions that draw -/
section
variable {P : Program} {ops : Array Oper} {md : Region.Mode} {C : World → Prop}

/-- The first n operations, in whatever order, are quiet in C; then L. -/
def headQ (P : Program) (md : Region.Mode) (ops : Array Oper) (C : World → Prop) (n : Nat) (L : Array Bool → Act → Prop) : Nat → Array Bool → Act → Prop
  | 0, listed, a => L listed a
  | f + 1, listed, a => Region.ready md ops listed ≠ [] ∧ ∀ i ∈ Region.ready md ops listed, i < n ∧ qOp P ops C i (headQ P md ops C n L f (listed.setIfInBounds i true)) a

theorem any_of_headQ {n g : Nat} {L : Array Bool → Act → Prop} {Q' : Exit → Act → World → Prop} (hL : ∀ listed a w, C w → L listed a → wpAny P md ops Q' g listed a w) :
    ∀ (f : Nat) (listed : Array Bool) (a : Act) (w : World), C w → headQ P md ops C n L f listed a → wpAny P md ops Q' (f + g) listed a w
  | 0, listed, a, w, hw, h => by rw [Nat.zero_add]; exact hL _ _ _ hw h
  | f + 1, listed, a, w, hw, h => by
    have e : f + 1 + g = (f + g) + 1 := by omega
    rw [e]
    exact ⟨fun h0 => absurd h0 h.1, fun i hi => wpOp_of_qOp hw (fun a' w' hw' h' => any_of_headQ hL f _ a' w' hw' h') (h.2 i hi).2⟩

theorem headQ_first {n i : Nat} {oi : Oper} {v : Value} {L : Array Bool → Act → Prop} (hi : ops[i]? = some oi) (hsel : ∀ (j : Nat) (o : Oper) cs b, ops[j]? = some o → o.op ≠ .select cs b)
    (hs : Region.sinkB md ops n = true) (hc : Region.chainB md ops n = true) (hn : n < ops.size) (hin : i < n) (hdone : ∀ listed a, L listed a → ∀ j ∈ Region.ready md ops listed, n ≤ j) :
    ∀ (f : Nat) (listed : Array Bool) (a : Act), HeadInv md ops n listed →
      (∀ j oj, ops[j]? = some oj → j ≠ i → listed.getD j true = false → (∀ e ∈ oj.after, Region.binds md e = true → e.on ≠ i) → oi.apart ops oj = true) →
      i ∈ Region.ready md ops listed → YieldsIn P ops C oi v a →
      headQ P md ops C n L f (listed.setIfInBounds i true) (a.put oi.dst v) → headQ P md ops C n L (f + 1) listed a := by
  intro f
  induction f with
  | zero =>
    intro listed a inv _ hr hy H
    have hun := (mem_ready.1 hr).1
    refine ⟨List.ne_nil_of_mem hr, fun j hj => ?_⟩
    have hjn : j < n := Nat.lt_of_not_le fun h => tail_waits hs hc hn inv _ i rfl hin hun j h hj
    refine ⟨hjn, ?_⟩
    by_cases hji : j = i
    · subst hji
      exact hy.qOp hi H
    · have := hdone _ _ H j (ready_mono hj hji)
      omega
  | succ f ih =>
    intro listed a inv hfree hr hy H
    have hun := (mem_ready.1 hr).1
    refine ⟨List.ne_nil_of_mem hr, fun j hj => ?_⟩
    have hjn : j < n := Nat.lt_of_not_le fun h => tail_waits hs hc hn inv _ i rfl hin hun j h hj
    refine ⟨hjn, ?_⟩
    by_cases hji : j = i
    · subst hji
      exact hy.qOp hi H
    · obtain ⟨hjun, oj, hoj, hall⟩ := mem_ready.1 hj
      have hnot : ∀ e ∈ oj.after, Region.binds md e = true → e.on ≠ i := fun e he hb heq => by
        have h1 := hall e he hb
        rw [heq, getD_both hun] at h1
        cases h1
      have h2 := qOp_put hoj (hfree j oj hoj hji hjun hnot) (fun cs b => hsel i oi cs b hi) (fun cs b => hsel j oj cs b hoj) hy (H.2 j (ready_mono hj hji)).2
      refine qOp_mono (fun a' h3 => ih (listed.setIfInBounds j true) a' (inv.set hj hjn) (fun k ok hk hki hunk hno => hfree k ok hk hki ?_ hno) (ready_mono hr (Ne.symm hji)) h3.1 ?_) h2
      · by_cases hjk : j = k
        · subst hjk
          exact hjun
        · rw [getD_set_ne true hjk] at hunk
          exact hunk
      · rw [Array.setIfInBounds_comm _ _ hji]
        exact h3.2

theorem headQ_lex {n g : Nat} {Lq : Act → Prop} (hsel : Region.noSelect ops = true) (hs : Region.sinkB md ops n = true) (hc : Region.chainB md ops n = true) (hn : n < ops.size) :
    ∀ (l : List Oper) (k : Nat) (listed : Array Bool) (a : Act), (∀ j, j < l.length → l[j]? = ops[k + j]?) → k + l.length = n → HeadInv md ops n listed →
    Region.lexHead md ops g l.length k listed = true → wpQuiet P ops C Lq l a →
    headQ P md ops C n (fun listed' a' => Region.seqB md ops g n listed' = true ∧ Lq a') l.length listed a
  | [], k, listed, a, _, hk, _, hB, h => by
    obtain rfl : k = n := by simpa using hk
    exact ⟨by simpa [Region.lexHead] using hB, h⟩
  | o :: l, k, listed, a, hl, hk, inv, hB, h => by
    have h0 : ops[k]? = some o := by simpa using (hl 0 (by simp)).symm
    simp only [List.length_cons, Region.lexHead, Bool.and_eq_true] at hB
    obtain ⟨⟨hr, hf⟩, hB'⟩ := hB
    have hkn : k < n := by simp only [List.length_cons] at hk; omega
    have hr' : k ∈ Region.ready md ops listed := by simpa using hr
    have hq : qOp P ops C k (wpQuiet P ops C Lq l) a := by unfold qOp; simp only [h0]; exact h
    obtain ⟨v, hy, hK⟩ := yieldsIn_of_qOp h0 hq
    refine headQ_first h0 (Region.noSelect_spec hsel) hs hc hn hkn (fun listed' a' hL => seqB_ready hL.1) l.length listed a inv (Region.free_spec h0 hf) hr' hy ?_
    refine headQ_lex hsel hs hc hn l (k + 1) _ _ (fun j hj => ?_) (by simp only [List.length_cons] at hk; omega) (inv.set hr' hkn) hB' hK
    have := hl (j + 1) (by simp; omega)
    simpa [Nat.add_assoc, Nat.add_comm 1 j] using this

/-- A region that draws: its first n operations are quiet in C, the others come behind them in one order. -/
theorem wp_region_tail {id : Nat} {Q : Exit → Act → World → Prop} {a : Act} {w : World} {l : List Oper} (n : Nat) (hm : P.follows .mixedOrders = true) (hB : Region.lexTailB .any l.toArray n = true)
    (hC : C { w with drawn := w.drawn + 1 }) (h : wpQuiet P l.toArray C (fun a' => ∀ w', C w' → wpList P l.toArray Q (l.drop n) a' w') (l.take n) a) : (Code.region id l.toArray true).wp P Q a w := by
  simp only [Region.lexTailB, Bool.and_eq_true, decide_eq_true_eq] at hB
  obtain ⟨⟨⟨⟨hsel, hn⟩, hs⟩, hc⟩, hlex⟩ := hB
  have hn' : n < l.length := by simpa using hn
  have htl : (l.take n).length = n := by simp; omega
  have hdl : (l.drop n).length = l.toArray.size - n := by simp
  have inv0 : HeadInv .any l.toArray n (Array.replicate l.toArray.size false) :=
    ⟨by simp, fun j oj _ hl => (by rw [getD_replicate_false] at hl; cases hl), fun t _ ht => getD_in (by simpa using ht) (getD_replicate_false _ _)⟩
  have H := headQ_lex (md := .any) (g := l.toArray.size - n) hsel hs hc hn (l.take n) 0 _ a (fun j hj => by
    have hj' : j < n := by rw [htl] at hj; exact hj
    simp [hj']) (by simpa using htl) inv0 (by rw [htl]; exact hlex) h
  have := any_of_headQ (Q' := Q) (g := l.toArray.size - n) (fun listed a' w' hw' hL => by
    have := wpAny_of_seq (md := .any) (Q' := Q) (l.drop n) n listed a' w' (fun j => by simp [List.getElem?_drop]) (by rw [hdl]; exact hL.1) (hL.2 w' hw')
    rwa [hdl] at this) _ _ _ _ hC H
  rw [htl, show n + (l.toArray.size - n) = l.toArray.size by omega] at this
  exact wp_region_any hm this
end

theorem quiet_post {P : Program} {C : World → Prop} (ops : Array Oper) {Q1 Q2 : Act → Prop} (hq : ∀ a, Q1 a → Q2 a) : ∀ (l : List Oper) (a : Act), wpQuiet P ops C Q1 l a → wpQuiet P ops C Q2 l a
  | [], a, h => hq a h
  | o :: l, a, h => by
    unfold wpQuiet at h ⊢
    split
    · rename_i hw
      rw [if_pos hw] at h
      exact Oper.quiet_mono (fun a h => quiet_post ops hq l a h) h
    · rename_i hw
      rw [if_neg hw] at h
      exact quiet_post ops hq l _ h

section
variable {P : Program} {id : Nat} {Q : Exit → Act → World → Prop} {a : Act} {w : World} {l : List Oper}
/-- reads and calls, from a world that has grown. -/
theorem wp_quiet_gr {p0 : Regrown} (hm : P.follows .mixedOrders = true) (hB : Region.lexB .any l.toArray = true)
    (h : wpQuiet P l.toArray (fun w' => ∃ p : Regrown, w' = gr w p) (fun a' => ∀ p : Regrown, Q .normal a' (gr w p)) l a) : (Code.region id l.toArray true).wp P Q a (gr w p0) :=
  wp_region_quiet (C := fun w' => ∃ p : Regrown, w' = gr w p) hm hB ⟨rdr p0, by rw [← gr_drew]; rfl⟩ (by
    have := quiet_post l.toArray (Q2 := fun a' => ∀ w', (∃ p : Regrown, w' = gr w p) → Q .normal a' w') (fun a hq w' ⟨p, hp⟩ => by subst hp; exact hq p) l a h
    simpa using this)
/-- reads and calls, from whatever world. -/
theorem wp_quiet_any (hm : P.follows .mixedOrders = true) (hB : Region.lexB .any l.toArray = true)
    (h : wpQuiet P l.toArray (fun w' => ∃ p : Regrown, w' = gr w p) (fun a' => ∀ p : Regrown, Q .normal a' (gr w p)) l a) : (Code.region id l.toArray true).wp P Q a w :=
  wp_region_quiet (C := fun w' => ∃ p : Regrown, w' = gr w p) hm hB ⟨⟨w.drawn + 1, #[]⟩, by simp [gr, redrawn]⟩ (by
    have := quiet_post l.toArray (Q2 := fun a' => ∀ w', (∃ p : Regrown, w' = gr w p) → Q .normal a' w') (fun a hq w' ⟨p, hp⟩ => by subst hp; exact hq p) l a h
    simpa using this)
/-- .. and a tail in one order behind n operations. -/
theorem wp_tail_gr (n : Nat) {p0 : Regrown} (hm : P.follows .mixedOrders = true) (hB : Region.lexTailB .any l.toArray n = true)
    (h : wpQuiet P l.toArray (fun w' => ∃ p : Regrown, w' = gr w p) (fun a' => ∀ p : Regrown, wpList P l.toArray Q (l.drop n) a' (gr w p)) (l.take n) a) : (Code.region id l.toArray true).wp P Q a (gr w p0) :=
  wp_region_tail (C := fun w' => ∃ p : Regrown, w' = gr w p) n hm hB ⟨rdr p0, by rw [← gr_drew]; rfl⟩
    (quiet_post l.toArray (fun a hq w' ⟨p, hp⟩ => by subst hp; exact hq p) _ a h)
theorem wp_tail_any (n : Nat) (hm : P.follows .mixedOrders = true) (hB : Region.lexTailB .any l.toArray n = true)
    (h : wpQuiet P l.toArray (fun w' => ∃ p : Regrown, w' = gr w p) (fun a' => ∀ p : Regrown, wpList P l.toArray Q (l.drop n) a' (gr w p)) (l.take n) a) : (Code.region id l.toArray true).wp P Q a w :=
  wp_region_tail (C := fun w' => ∃ p : Regrown, w' = gr w p) n hm hB ⟨⟨w.drawn + 1, #[]⟩, by simp [gr, redrawn]⟩
    (quiet_post l.toArray (fun a hq w' ⟨p, hp⟩ => by subst hp; exact hq p) _ a h)
end
end Go.Proofs.YtiagegecnopfgaaDoor
