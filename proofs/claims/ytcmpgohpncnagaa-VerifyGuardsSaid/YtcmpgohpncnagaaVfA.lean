/- Plain laws of verified images. -/
import Derived.Test.YtcmpgohpncnagaaChF
namespace Go.Proofs.Ytcmpgohpncnagaa
set_option linter.all false
open Go.ChangeShapes Go.WideShapes Go.ChangeAt Go.RowKit Go.Sort Go.Deep Go.Shelf

theorem find_none {n : Nat} {p : Nat → Bool} (h : (List.range n).find? p = none) : ∀ j, j < n → p j = false := by
  intro j hj
  have := List.find?_eq_none.1 h j (by simpa using hj)
  simpa using this
theorem fidx_none {α : Type} {l : List α} {p : α → Bool} (h : l.findIdx? (fun y => !p y) = none) : ∀ y ∈ l, p y = true := by
  intro y hy
  have := List.findIdx?_eq_none_iff.1 h y hy
  simpa using this
/-- a code object without an error -/
structure Fine (N : Int) (c : CodeD) : Prop where
  hd : headC c = true
  ins : ∀ j, j < c.ins.length → insA N c j = 0
  pl : ∀ y ∈ c.pl, constM y = true
  ks : ∀ y ∈ c.ks, keyM y = true
  gs : ∀ y ∈ c.gs, gdV c y = true
  dep : depE c = 0
theorem Fine.chk {N : Int} {c : CodeD} (h : Fine N c) : chkM N c = (0, 0) := by
  obtain ⟨h0, h1, h2, h3, h4, h5⟩ := h
  unfold chkM
  rw [if_neg (by rw [h0]; simp), find_no (p := fun q => insA N c q != 0) (fun j hj => by simp [h1 j hj]), fidx_no h2, fidx_no h3, fidx_no h4]
  simp [h5]
theorem chk_fine {N : Int} {c : CodeD} : ((chkM N c).2 == 0) = true ↔ Fine N c := by
  constructor
  · intro h
    unfold chkM at h
    cases hh : headC c
    · rw [if_pos hh] at h
      simp at h
    rw [if_neg (by rw [hh]; simp)] at h
    cases h1 : (List.range c.ins.length).find? (fun q => insA N c q != 0) with
    | some q =>
      rw [h1] at h
      have := List.find?_some h1
      simp at this
      simp at h
      exact absurd h this
    | none =>
      rw [h1] at h
      cases h2 : c.pl.findIdx? (fun v => !constM v) with
      | some i => rw [h2] at h; simp at h
      | none =>
        rw [h2] at h
        cases h3 : c.ks.findIdx? (fun v => !keyM v) with
        | some i => rw [h3] at h; simp at h
        | none =>
          rw [h3] at h
          cases h4 : c.gs.findIdx? (fun g => !gdV c g) with
          | some i => rw [h4] at h; simp at h
          | none =>
            rw [h4] at h
            refine ⟨hh, fun j hj => ?_, fidx_none h2, fidx_none h3, fidx_none h4, ?_⟩
            · have := find_none h1 j hj
              simpa using this
            · simp only at h
              split at h
              · simp at h
              · simpa using h
  · intro h
    rw [h.chk]
    rfl
theorem img_fine {l : List CodeD} (h : (imgM l).2.2 = 0) : inB (l.length : Int) 1 4096 = true ∧ (∀ c ∈ l, Fine (l.length : Int) c) ∧ ¬ (headC (l.getD 0 default) = true ∧ (l.getD 0 default).kd / 4 % 2 ≠ 0) := by
  unfold imgM at h
  split at h
  · simp at h
  rename_i h1
  split at h
  · simp at h
  rename_i h2
  cases h3 : l.findIdx? (fun c => !((chkM (l.length : Int) c).2 == 0)) with
  | some q =>
    rw [h3] at h
    obtain ⟨hq, hp, -⟩ := List.findIdx?_eq_some_iff_getElem.1 h3
    simp only at h
    rw [List.getD_eq_getElem?_getD, List.getElem?_eq_getElem hq] at h
    simp only [Option.getD_some] at h
    rw [h] at hp
    simp at hp
  | none => exact ⟨by simpa using h1, fun c hc => chk_fine.1 (fidx_none (p := fun c => (chkM (l.length : Int) c).2 == 0) h3 c hc), h2⟩
theorem fine_img {l : List CodeD} (h1 : inB (l.length : Int) 1 4096 = true) (h2 : ¬ (headC (l.getD 0 default) = true ∧ (l.getD 0 default).kd / 4 % 2 ≠ 0)) (h3 : ∀ c ∈ l, Fine (l.length : Int) c) : imgM l = (0, 0, 0) := by
  unfold imgM
  rw [if_neg (by rw [h1]; simp), if_neg h2, fidx_no (p := fun c => (chkM (l.length : Int) c).2 == 0) fun c hc => chk_fine.2 (h3 c hc)]
theorem depE_right {c : CodeD} (h : depE c = 0) : rightC c = true ∧ ¬ 0 ≤ openC c ∧ DepOk (E3 c) (nxC c) := by
  unfold depE at h
  split at h
  · simp at h
  rename_i h1
  split at h
  · simp at h
  rename_i h2
  split at h
  · rename_i h3
    exact ⟨by simpa using h1, h2, h3⟩
  · simp at h
theorem depE_of {c : CodeD} (h1 : rightC c = true) (h2 : ¬ 0 ≤ openC c) (h3 : DepOk (E3 c) (nxC c)) : depE c = 0 := by
  unfold depE
  rw [if_neg (by rw [h1]; simp), if_neg h2, if_pos h3]
theorem depV_len {c : CodeD} (h : depE c = 0) : (depV c).length = c.ins.length := by
  unfold depV
  rw [if_pos h, depL_len]
theorem reach_len {c : CodeD} (h : rightC c = true) : (reachC c).length = c.ins.length := by
  unfold reachC
  rw [if_pos h, rchL_len]
theorem reach_none {c : CodeD} (h : rightC c = false) : reachC c = [] := by
  unfold reachC
  rw [if_neg (by rw [h]; simp)]
theorem reach_at {c : CodeD} (h : rightC c = true) {k : Nat} {b : Bool} (hb : (reachC c)[k]? = some b) : (b = true ↔ Rch (EC c) k) := by
  have hk : k < c.ins.length := by rw [← reach_len h]; exact (List.getElem?_eq_some_iff.1 hb).1
  unfold reachC at hb
  rw [if_pos h] at hb
  cases b
  · exact ⟨fun e => (Bool.noConfusion e), fun r => absurd r ((rchL_off hk).1 hb)⟩
  · exact ⟨fun _ => (rchL_at hk).1 hb, fun _ => rfl⟩
theorem reach_of {c : CodeD} (h : rightC c = true) {k : Nat} (hk : k < c.ins.length) (hr : Rch (EC c) k) : (reachC c)[k]? = some true := by
  unfold reachC
  rw [if_pos h]
  exact (rchL_at hk).2 hr
theorem depV_at {c : CodeD} (h : depE c = 0) {k : Nat} {v : Int} {b : Bool} (hv : (depV c)[k]? = some v) (hb : (reachC c)[k]? = some b) : decide (0 ≤ v) = b := by
  have hk : k < c.ins.length := by rw [← depV_len h]; exact (List.getElem?_eq_some_iff.1 hv).1
  unfold depV at hv
  rw [if_pos h] at hv
  obtain ⟨u, hu, hr⟩ := depL_at (depE_right h).2.2 hk
  rw [hu] at hv
  cases hv
  rw [Bool.eq_iff_iff, decide_eq_true_eq, hr, reach_at (depE_right h).1 hb]
theorem reach_falls {c : CodeD} (h : rightC c = true) {k : Nat} {x : InsD} (hk : (reachC c)[k]? = some true) (hx : c.ins[k]? = some x) (hf : fallsM x.op = true) (hl : k + 1 < c.ins.length) : (reachC c)[k + 1]? = some true := by
  refine reach_of h hl (((reach_at h hk).1 rfl).step ((EC_at hx _).2 (List.mem_append_left _ ?_)))
  unfold wlC flC
  rw [if_pos (by rw [hf]; simpa using hl)]
  simp
/-! ### one code object more -/
theorem prtE_mono {N : Int} {c : CodeD} {a s : Nat} {n : Int} (h : prtE N c a s n = 0) : prtE (N + 1) c a s n = 0 := by
  unfold prtE at h ⊢
  by_cases h1 : s = 102
  · rw [if_pos h1] at h ⊢
    split at h
    · rename_i h2
      rw [if_pos]
      unfold inB at h2 ⊢
      simp only [Bool.and_eq_true, decide_eq_true_eq] at h2 ⊢
      omega
    · simp at h
  · rw [if_neg h1] at h ⊢
    exact h
theorem insE_zero {N : Int} {c : CodeD} {a : Nat} {x : InsD} : insE N c a x = 0 ↔ ¬ (¬ (0 ≤ x.op ∧ x.op < 55) ∨ ((x.op = 46 ∨ x.op = 47) ∧ c.kd / 4 % 2 = 0)) ∧ prtE N c a (sgn x.op 0) x.a = 0 ∧ prtE N c a (sgn x.op 1) x.b = 0 ∧ prtE N c a (sgn x.op 2) x.c = 0 := by
  unfold insE
  by_cases h1 : ¬ (0 ≤ x.op ∧ x.op < 55) ∨ ((x.op = 46 ∨ x.op = 47) ∧ c.kd / 4 % 2 = 0)
  · rw [if_pos h1]
    exact ⟨fun h => by simp at h, fun h => absurd h1 h.1⟩
  · rw [if_neg h1]
    by_cases h2 : prtE N c a (sgn x.op 0) x.a = 0
    · rw [if_neg (Classical.not_not.2 h2)]
      by_cases h3 : prtE N c a (sgn x.op 1) x.b = 0
      · rw [if_neg (Classical.not_not.2 h3)]
        exact ⟨fun h => ⟨h1, h2, h3, h⟩, fun h => h.2.2.2⟩
      · rw [if_pos h3]
        exact ⟨fun h => absurd h h3, fun h => absurd h.2.2.1 h3⟩
    · rw [if_pos h2]
      exact ⟨fun h => absurd h h2, fun h => absurd h.2.1 h2⟩
theorem insE_mono {N : Int} {c : CodeD} {a : Nat} {x : InsD} (h : insE N c a x = 0) : insE (N + 1) c a x = 0 := by
  obtain ⟨h1, h2, h3, h4⟩ := insE_zero.1 h
  exact insE_zero.2 ⟨h1, prtE_mono h2, prtE_mono h3, prtE_mono h4⟩
theorem Fine.mono {N : Int} {c : CodeD} (h : Fine N c) : Fine (N + 1) c := ⟨h.hd, fun j hj => insE_mono (h.ins j hj), h.pl, h.ks, h.gs, h.dep⟩
abbrev insN : InsD := ⟨0, 0, 0, 0⟩
abbrev insT : InsD := ⟨48, 0, 0, 0⟩
/-- a code object of a few instructions -/
abbrev codeS (r : Int) (l : List InsD) : CodeD := ⟨⟨#[]⟩, 0, 0, r, l, [], [], []⟩
theorem sgn_48 : sgn 48 0 = 114 ∧ sgn 48 1 = 45 ∧ sgn 48 2 = 45 := by decide +kernel
theorem sgn_00 : sgn 0 0 = 45 ∧ sgn 0 1 = 45 ∧ sgn 0 2 = 45 := by decide +kernel
theorem head_S {r : Int} {l : List InsD} (hr : 1 ≤ r ∧ r ≤ 8) (hl : l.length ≤ 2) : headC (codeS r l) = true := by
  simp [headC, inB]
  exact ⟨by omega, Nat.zero_le _, by omega⟩
theorem insC_N (c : CodeD) : insC c insN = true := by
  unfold insC
  rw [sgn_00.1, sgn_00.2.1, sgn_00.2.2]
  simp [prtC]
theorem insC_T {r : Int} {l : List InsD} (hr : 1 ≤ r ∧ r ≤ 8) : insC (codeS r l) insT = true := by
  unfold insC
  rw [sgn_48.1, sgn_48.2.1, sgn_48.2.2]
  simp [prtC, inB]
  omega
theorem right_S {r : Int} {l : List InsD} (hr : 1 ≤ r ∧ r ≤ 8) (hl : l.length ≤ 2) (hi : ∀ x ∈ l, insC (codeS r l) x = true) : rightC (codeS r l) = true := by
  unfold rightC hdC inB
  simp
  exact ⟨⟨by omega, Nat.zero_le _⟩, by omega, hi⟩
theorem insE_N {N : Int} {c : CodeD} {a : Nat} : insE N c a insN = 0 := by
  rw [insE_zero, sgn_00.1, sgn_00.2.1, sgn_00.2.2]
  simp [prtE, prtC]
theorem insE_T {N : Int} {r : Int} {l : List InsD} {a : Nat} (hr : 1 ≤ r ∧ r ≤ 8) : insE N (codeS r l) a insT = 0 := by
  rw [insE_zero, sgn_48.1, sgn_48.2.1, sgn_48.2.2]
  simp [prtE, prtC, inB]
  omega
theorem falls_0 : fallsM 0 = true := by decide +kernel
theorem falls_48 : fallsM 48 = false := by decide +kernel
theorem fine_2 {N r : Int} (hr : 1 ≤ r ∧ r ≤ 8) : Fine N (codeS r [insN, insT]) := by
  refine ⟨head_S hr (by simp), fun j hj => ?_, by simp, by simp, by simp, depE_of (right_S hr (by simp) ?_) ?_ ?_⟩
  · match j, hj with
    | 0, _ => exact insE_N
    | 1, _ => exact insE_T hr
  · intro x hx
    simp only [List.mem_cons, List.not_mem_nil, or_false] at hx
    rcases hx with rfl | rfl
    · exact insC_N _
    · exact insC_T hr
  · unfold openC
    rw [if_neg (by simp [falls_48])]
    omega
  · refine ⟨fun _ => 0, rfl, fun a _ => ?_, fun a b g _ he => ?_⟩
    · match a with
      | 0 => exact Int.le_refl _
      | 1 => exact Int.le_refl _
      | a + 2 => exact Int.le_refl _
    · match a with
      | 0 => cases g <;> rfl
      | 1 => cases g <;> rfl
      | a + 2 => cases g <;> rfl
theorem open_1 {N r : Int} (hr : 1 ≤ r ∧ r ≤ 8) : chkM N (codeS r [insN]) = (0, 42) := by
  have h1 : rightC (codeS r [insN]) = true := right_S hr (by simp) (by
    intro x hx
    rw [List.mem_singleton.1 hx]
    exact insC_N _)
  have h2 : openC (codeS r [insN]) = 0 := by
    unfold openC
    have e := reach_of h1 (k := 0) (by simp) Rch.zero
    rw [if_pos ⟨by simp, falls_0, by rw [List.getD_eq_getElem?_getD]; exact congrArg (fun o : Option Bool => o.getD false) e⟩]
    simp
  have h3 : depE (codeS r [insN]) = 42 := by
    unfold depE
    rw [if_neg (by rw [h1]; simp), if_pos (by rw [h2]; omega)]
  unfold chkM
  rw [if_neg (by rw [head_S hr (by simp)]; simp), find_no (p := fun q => insA N (codeS r [insN]) q != 0) (fun j hj => by
    match j, hj with
    | 0, _ => exact bne_eq_false_iff_eq.2 insE_N)]
  simp [h3, h2]
/-- an accepted image with a code object more -/
theorem more_ok {l : List CodeD} (h : (imgM l).2.2 = 0) (h8 : l.length ≤ 8) {r : Int} (hr : 1 ≤ r ∧ r ≤ 8) : imgM (l ++ [codeS r [insN, insT]]) = (0, 0, 0) := by
  obtain ⟨h1, h2, h3⟩ := img_fine h
  have hl := inB_len h1
  refine fine_img ?_ ?_ fun c hc => ?_
  · unfold inB
    simp
    omega
  · match l, hl with
    | a :: l, _ => simpa using h3
  · have e : (((l ++ [codeS r [insN, insT]]).length : Nat) : Int) = (l.length : Int) + 1 := by simp
    rw [e]
    rcases List.mem_append.1 hc with hc | hc
    · exact (h2 c hc).mono
    · rw [List.mem_singleton.1 hc]
      exact fine_2 hr
/-- .. and with one that falls off its end -/
theorem more_bad {l : List CodeD} (h : (imgM l).2.2 = 0) (h8 : l.length ≤ 8) {r : Int} (hr : 1 ≤ r ∧ r ≤ 8) : imgM (l ++ [codeS r [insN]]) = ((l.length : Int), 0, 42) := by
  obtain ⟨h1, h2, h3⟩ := img_fine h
  have hl := inB_len h1
  have e : (((l ++ [codeS r [insN]]).length : Nat) : Int) = (l.length : Int) + 1 := by simp
  have hx : (l ++ [codeS r [insN]])[l.length]? = some (codeS r [insN]) := by simp
  unfold imgM
  rw [if_neg (by unfold inB; simp; omega), if_neg, fidx_at (p := fun c => (chkM ((l ++ [codeS r [insN]]).length : Int) c).2 == 0) (q := l.length) (x := codeS r [insN]) ?_ hx (by rw [open_1 hr]; rfl)]
  · simp only
    rw [List.getD_eq_getElem?_getD, hx]
    simp only [Option.getD_some]
    rw [open_1 hr]
  · rw [List.take_left']
    · intro c hc
      rw [e]
      exact chk_fine.2 (h2 c hc).mono
    · rfl
  · match l, hl with
    | a :: l, _ => simpa using h3
/-! ### the specification's example -/
abbrev insL : InsD := ⟨1, 0, 0, 0⟩
abbrev codeL (l : List InsD) : CodeD := ⟨⟨#[]⟩, 0, 0, 1, l, [Val.zero], [], []⟩
theorem sgn_01 : sgn 1 0 = 114 ∧ sgn 1 1 = 112 ∧ sgn 1 2 = 45 := by decide +kernel
theorem const_0 : constM Val.zero = true := by decide +kernel
theorem head_L {l : List InsD} (hl : l.length ≤ 2) : headC (codeL l) = true := by
  simp [headC, inB]
  exact ⟨Nat.zero_le _, by omega⟩
theorem insC_L (l : List InsD) : insC (codeL l) insL = true := by
  unfold insC
  rw [sgn_01.1, sgn_01.2.1, sgn_01.2.2]
  simp [prtC, inB]
theorem insC_T1 (l : List InsD) : insC (codeL l) insT = true := by
  unfold insC
  rw [sgn_48.1, sgn_48.2.1, sgn_48.2.2]
  simp [prtC, inB]
theorem right_L {l : List InsD} (hl : l.length ≤ 2) (hi : ∀ x ∈ l, insC (codeL l) x = true) : rightC (codeL l) = true := by
  unfold rightC hdC inB
  simp [const_0]
  exact ⟨Nat.zero_le _, by omega, hi⟩
theorem insE_L {N : Int} {l : List InsD} {a : Nat} : insE N (codeL l) a insL = 0 := by
  rw [insE_zero, sgn_01.1, sgn_01.2.1, sgn_01.2.2]
  simp [prtE, prtC, inB]
theorem insE_T1 {N : Int} {l : List InsD} {a : Nat} : insE N (codeL l) a insT = 0 := by
  rw [insE_zero, sgn_48.1, sgn_48.2.1, sgn_48.2.2]
  simp [prtE, prtC, inB]
theorem falls_1 : fallsM 1 = true := by decide +kernel
theorem fine_L {N : Int} : Fine N (codeL [insL, insT]) := by
  refine ⟨head_L (by simp), fun j hj => ?_, ?_, by simp, by simp, depE_of (right_L (by simp) ?_) ?_ ?_⟩
  · match j, hj with
    | 0, _ => exact insE_L
    | 1, _ => exact insE_T1
  · intro y hy
    rw [List.mem_singleton.1 hy]
    exact const_0
  · intro x hx
    simp only [List.mem_cons, List.not_mem_nil, or_false] at hx
    rcases hx with rfl | rfl
    · exact insC_L _
    · exact insC_T1 _
  · unfold openC
    rw [if_neg (by simp [falls_48])]
    omega
  · refine ⟨fun _ => 0, rfl, fun a _ => ?_, fun a b g _ he => ?_⟩
    · match a with
      | 0 => exact Int.le_refl _
      | 1 => exact Int.le_refl _
      | a + 2 => exact Int.le_refl _
    · match a with
      | 0 => cases g <;> rfl
      | 1 => cases g <;> rfl
      | a + 2 => cases g <;> rfl
theorem open_L {N : Int} : chkM N (codeL [insL]) = (0, 42) := by
  have h1 : rightC (codeL [insL]) = true := right_L (by simp) (by
    intro x hx
    rw [List.mem_singleton.1 hx]
    exact insC_L _)
  have h2 : openC (codeL [insL]) = 0 := by
    unfold openC
    have e := reach_of h1 (k := 0) (by simp) Rch.zero
    rw [if_pos ⟨by simp, falls_1, by rw [List.getD_eq_getElem?_getD]; exact congrArg (fun o : Option Bool => o.getD false) e⟩]
    simp
  have h3 : depE (codeL [insL]) = 42 := by
    unfold depE
    rw [if_neg (by rw [h1]; simp), if_pos (by rw [h2]; omega)]
  unfold chkM
  rw [if_neg (by rw [head_L (by simp)]; simp), find_no (p := fun q => insA N (codeL [insL]) q != 0) (fun j hj => by
    match j, hj with
    | 0, _ => exact bne_eq_false_iff_eq.2 insE_L), fidx_no (l := (codeL [insL]).pl) (p := constM) (fun y hy => by rw [List.mem_singleton.1 hy]; exact const_0)]
  simp [h3, h2]
theorem live_2 : imgM [codeL [insL, insT]] = (0, 0, 0) := by
  refine fine_img (by decide +kernel) (by simp) fun c hc => ?_
  rw [List.mem_singleton.1 hc]
  exact fine_L
theorem live_1 : imgM [codeL [insL]] = (0, 0, 42) := by
  unfold imgM
  rw [if_neg (by decide +kernel), if_neg (by simp), fidx_at (p := fun c => (chkM (([codeL [insL]] : List CodeD).length : Int) c).2 == 0) (q := 0) (x := codeL [insL]) (by simp) rfl (by rw [open_L]; rfl)]
  simp only [List.getD_cons_zero]
  rw [open_L]
  rfl
/-! ### one handler more -/
abbrev codeW (c : CodeD) (g : GrdD) : CodeD := { c with gs := c.gs ++ [g] }
theorem insC_W (c : CodeD) (g : GrdD) (x : InsD) : insC (codeW c g) x = insC c x := rfl
theorem gdM_W (c : CodeD) (g x : GrdD) : gdM (codeW c g) x = gdM c x := rfl
theorem right_W {c : CodeD} (h : rightC c = true) (hg : c.gs.length < 65536) {g : GrdD} (hd : gdM c g = true) : rightC (codeW c g) = true := by
  unfold rightC at h ⊢
  simp only [Bool.and_eq_true, List.all_eq_true, decide_eq_true_eq] at h ⊢
  obtain ⟨a, b, d, e, f, k⟩ := h
  refine ⟨a, b, d, e, ?_, ?_⟩
  · rw [List.length_append, List.length_singleton]
    omega
  · intro x hx
    rw [gdM_W]
    rcases List.mem_append.1 hx with hx | hx
    · exact k x hx
    · rw [List.mem_singleton.1 hx]
      exact hd
theorem gdM_new {c : CodeD} {f t : Nat} (h : rightC c = true) (hr : c.rg ≠ 0) (hf : f < c.ins.length) (ht : t < c.ins.length) : gdM c ⟨(f : Int), (f : Int) + 1, (t : Int), 0⟩ = true := by
  have h0 := rightC_rg h
  unfold gdM
  simp [prtC, inB]
  omega
theorem EC_W {c : CodeD} {g : GrdD} {a b : Nat} (h : EC c a b) : EC (codeW c g) a b := by
  obtain ⟨k, x, hx, hm⟩ := h
  refine ⟨k, x, hx, ?_⟩
  unfold qC at hm ⊢
  rcases List.mem_append.1 hm with hm | hm
  · exact List.mem_append_left _ hm
  · refine List.mem_append_right _ ?_
    obtain ⟨t, ht, e⟩ := List.mem_map.1 hm
    refine List.mem_map.2 ⟨t, ?_, e⟩
    unfold glC at ht ⊢
    rw [List.flatMap_append]
    exact List.mem_append_left _ ht
theorem reach_W {c : CodeD} (h : rightC c = true) {g : GrdD} (hw : rightC (codeW c g) = true) {k : Nat} (hk : (reachC c)[k]? = some true) : (reachC (codeW c g))[k]? = some true := by
  have hl : k < c.ins.length := by rw [← reach_len h]; exact (List.getElem?_eq_some_iff.1 hk).1
  exact reach_of hw hl (((reach_at h hk).1 rfl).mono fun _ _ => EC_W)
theorem reach_new {c : CodeD} {f t : Nat} {u r : Int} (hw : rightC (codeW c ⟨(f : Int), u, (t : Int), r⟩) = true) (hf : f < c.ins.length) (ht : t < c.ins.length) (hk : (reachC (codeW c ⟨(f : Int), u, (t : Int), r⟩))[f]? = some true) : (reachC (codeW c ⟨(f : Int), u, (t : Int), r⟩))[t]? = some true := by
  refine reach_of hw ht (((reach_at hw hk).1 rfl).step ((EC_at (c := codeW c ⟨(f : Int), u, (t : Int), r⟩) (x := c.ins[f]) (List.getElem?_eq_getElem hf) _).2 (List.mem_append_right _ ?_)))
  unfold glC
  rw [List.flatMap_append]
  refine List.mem_append_right _ ?_
  simp [goC]
end Go.Proofs.Ytcmpgohpncnagaa
