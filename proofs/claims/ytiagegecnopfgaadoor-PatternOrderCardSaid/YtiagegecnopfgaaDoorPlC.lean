/- The order of the steps: registers, iterators and targets (no program in sight). -/
import Derived.Test.YtiagegecnopfgaaDoorPlA
namespace Go.Proofs.YtiagegecnopfgaaDoor
set_option linter.all false
open Go.ChangeShapes Go.WideShapes Go.ChangeAt Go.RowKit Go.Sort Go.Deep

mutual
/-- the targets of a pattern -/
def leavesT : Tree → List Tree
  | .mk op a n m s k => if op = 34 ∨ op = 51 ∨ op = 52 then [.mk op a n m s k] else if op = 63 ∨ op = 64 then leavesA k else if op = 62 then (if k.length = 2 then leavesB k else []) else if op = 60 ∨ op = 61 then leavesK k else []
def leavesK : List Tree → List Tree
  | [] => []
  | t :: l => leavesT t ++ leavesK l
def leavesA : List Tree → List Tree
  | [] => []
  | t :: _ => leavesT t
def leavesB : List Tree → List Tree
  | [] => []
  | _ :: l => leavesA l
end
theorem leavesT_eq (t : Tree) : leavesT t = if t.op = 34 ∨ t.op = 51 ∨ t.op = 52 then [t] else if t.op = 63 ∨ t.op = 64 then leavesA t.kids else if t.op = 62 then (if t.kids.length = 2 then leavesB t.kids else []) else if t.op = 60 ∨ t.op = 61 then leavesK t.kids else [] := by cases t; rw [leavesT]; rfl
/-- registers so far, open iterators, targets to come -/
structure OrS where
  g : Int
  op : List Int
  lv : List Tree
/-- what the law asks of one step; nx: the next step -/
inductive Stp : StepD → Option StepD → OrS → OrS → Prop
  | need {s : StepD} {nx : Option StepD} {σ : OrS} (hk : s.k = 1) (hf : 0 ≤ s.f ∧ s.f < σ.g) (hs : ∀ k ∈ s.ks, 1 ≤ k ∧ k < σ.g) : Stp s nx σ σ
  | dflt {s : StepD} {nx : Option StepD} {σ : OrS} (hk : s.k = 9) (hf : 0 ≤ s.r ∧ s.r < σ.g) (hs : ∀ k ∈ s.ks, 1 ≤ k ∧ k < σ.g) : Stp s nx σ σ
  | make {s : StepD} {nx : Option StepD} {σ : OrS} (hk : s.k = 2 ∨ s.k = 3 ∨ s.k = 11) (hf : 0 ≤ s.f ∧ s.f < σ.g) (hs : ∀ k ∈ s.ks, 1 ≤ k ∧ k < σ.g) (hr : s.r = σ.g) : Stp s nx σ ⟨σ.g + 1, σ.op, σ.lv⟩
  | opn {s e : StepD} {σ : OrS} (hk : s.k = 4) (hf : 0 ≤ s.f ∧ s.f < σ.g) (hs : ∀ k ∈ s.ks, 1 ≤ k ∧ k < σ.g) (hr : s.r = σ.g) (he : e.k = 12) (hef : e.f = s.r) : Stp s (some e) σ ⟨σ.g + 1, σ.op ++ [s.r], σ.lv⟩
  | take {s : StepD} {nx : Option StepD} {g : Int} {o : List Int} {lv : List Tree} (hk : s.k = 5 ∨ s.k = 7) (hf : 0 ≤ s.f ∧ s.f < g) (hs : ∀ k ∈ s.ks, 1 ≤ k ∧ k < g) (hr : s.r = g) : Stp s nx ⟨g, o ++ [s.f], lv⟩ ⟨g + 1, o ++ [s.f], lv⟩
  | skip {s : StepD} {nx : Option StepD} {g : Int} {o : List Int} {lv : List Tree} (hk : s.k = 6 ∨ s.k = 12) (hf : 0 ≤ s.f ∧ s.f < g) (hs : ∀ k ∈ s.ks, 1 ≤ k ∧ k < g) : Stp s nx ⟨g, o ++ [s.f], lv⟩ ⟨g, o ++ [s.f], lv⟩
  | close {s : StepD} {nx : Option StepD} {g : Int} {o : List Int} {lv : List Tree} (hk : s.k = 8) (hf : 0 ≤ s.f ∧ s.f < g) (hs : ∀ k ∈ s.ks, 1 ≤ k ∧ k < g) : Stp s nx ⟨g, o ++ [s.f], lv⟩ ⟨g, o, lv⟩
  | assign {s : StepD} {nx : Option StepD} {g : Int} {o : List Int} {lv : List Tree} (hk : s.k = 10) (hf : 0 ≤ s.f ∧ s.f < g) (hs : ∀ k ∈ s.ks, 1 ≤ k ∧ k < g) : Stp s nx ⟨g, o, s.nd :: lv⟩ ⟨g, o, lv⟩
theorem Stp.more {s : StepD} {h h' : Option StepD} {σ σ' : OrS} (hs : Stp s h σ σ') (hh : h = none ∨ h = h') : Stp s h' σ σ' := by
  rcases hh with rfl | rfl
  · cases hs with
    | need a b c => exact .need a b c
    | dflt a b c => exact .dflt a b c
    | make a b c d => exact .make a b c d
    | take a b c d => exact .take a b c d
    | skip a b c => exact .skip a b c
    | close a b c => exact .close a b c
    | assign a b c => exact .assign a b c
  · exact hs
inductive Ord : List StepD → OrS → OrS → Prop
  | nil (σ : OrS) : Ord [] σ σ
  | cons {s : StepD} {l : List StepD} {σ σ1 σ2 : OrS} (h : Stp s l.head? σ σ1) (hl : Ord l σ1 σ2) : Ord (s :: l) σ σ2
theorem Ord.trans {l l2 : List StepD} {σ σ1 σ2 : OrS} (h : Ord l σ σ1) (h2 : Ord l2 σ1 σ2) : Ord (l ++ l2) σ σ2 := by
  induction h with
  | nil => exact h2
  | @cons s l σ σ1 σ3 hs _ ih =>
    refine .cons (hs.more ?_) (ih h2)
    cases l with
    | nil => exact .inl rfl
    | cons a l => exact .inr rfl
/-- from x to y the steps are in order; a, b: the open iterators on top; lv: the targets used -/
def Run (x y : Mk) (a b : List Int) (lv : List Tree) : Prop := x.g ≤ y.g ∧ ∃ l', y.l = x.l ++ l' ∧ ∀ ops rest, Ord l' ⟨x.g, ops ++ a, lv ++ rest⟩ ⟨y.g, ops ++ b, rest⟩
theorem Run.refl (x : Mk) (a : List Int) : Run x x a a [] := ⟨Int.le_refl _, [], by simp, fun ops rest => .nil _⟩
theorem Run.trans {x y z : Mk} {a b c : List Int} {lv lv2 : List Tree} (h : Run x y a b lv) (h2 : Run y z b c lv2) : Run x z a c (lv ++ lv2) := by
  obtain ⟨g1, l1, e1, r1⟩ := h
  obtain ⟨g2, l2, e2, r2⟩ := h2
  refine ⟨by omega, l1 ++ l2, by rw [e2, e1, List.append_assoc], fun ops rest => ?_⟩
  have := (r1 ops (lv2 ++ rest)).trans (r2 ops rest)
  rwa [← List.append_assoc] at this
theorem Run.one {x : Mk} {g : Int} {s : StepD} {a b : List Int} {lv : List Tree} (hg : x.g ≤ g) (h : ∀ ops rest, Stp s none ⟨x.g, ops ++ a, lv ++ rest⟩ ⟨g, ops ++ b, rest⟩) : Run x ⟨x.l ++ [s], g, x.b⟩ a b lv := ⟨hg, [s], rfl, fun ops rest => .cons (h ops rest) (.nil _)⟩
/-- a pattern's steps are in order -/
theorem run_ap (t : Tree) : ∀ (r : Int) (x : Mk), 0 ≤ r → r < x.g → (apT t r x).b = false → ∀ a, Run x (apT t r x) a a (leavesT t) := by
  have main : ∀ N (t : Tree), SizeOf.sizeOf t ≤ N → ∀ (r : Int) (x : Mk), 0 ≤ r → r < x.g → (apT t r x).b = false → ∀ a, Run x (apT t r x) a a (leavesT t) := by
    intro N
    induction N with
    | zero =>
      intro t ht
      cases t
      simp at ht
    | succ N IH =>
      intro t ht r x hr0 hr hb a
      have hA : ∀ (l : List Tree) (r : Int) (x : Mk), (∀ c ∈ l, SizeOf.sizeOf c ≤ N) → 0 ≤ r → r < x.g → (apA l r x).b = false → ∀ a, Run x (apA l r x) a a (leavesA l) := by
        intro l r x h h0 h1 hb a
        cases l with
        | nil => rw [apA, leavesA]; exact .refl _ _
        | cons u l =>
          rw [apA] at hb ⊢
          rw [leavesA]
          exact IH u (h u (by simp)) r x h0 h1 hb a
      have hB : ∀ (l : List Tree) (r : Int) (x : Mk), (∀ c ∈ l, SizeOf.sizeOf c ≤ N) → 0 ≤ r → r < x.g → (apB l r x).b = false → ∀ a, Run x (apB l r x) a a (leavesB l) := by
        intro l r x h h0 h1 hb a
        cases l with
        | nil => rw [apB, leavesB]; exact .refl _ _
        | cons u l =>
          rw [apB] at hb ⊢
          rw [leavesB]
          exact hA l r x (fun c hc => h c (by simp [hc])) h0 h1 hb a
      have hkk : ∀ c : Tree, SizeOf.sizeOf c ≤ N → ∀ d ∈ c.kids, SizeOf.sizeOf d ≤ N := fun c hc d hd => by have := Tree.kid_lt hd; omega
      have nb : ∀ y : Mk, ¬ y.b = true → y.b = false := fun y h => by simpa using h
      have hO : ∀ (rm : Bool) (l : List Tree) (r : Int) (ks : List Int) (x : Mk), (∀ c ∈ l, SizeOf.sizeOf c ≤ N) → 0 ≤ r → r < x.g → (∀ k ∈ ks, 1 ≤ k ∧ k < x.g) → (obT rm l r ks x).b = false → ∀ a, Run x (obT rm l r ks x) a a (leavesK l) := by
        intro rm l r
        induction l with
        | nil => intro ks x _ _ _ _ _ a; rw [obT, leavesK]; exact .refl _ _
        | cons u l ih =>
          intro ks x h h0 h1 hks hb a
          have hu := h u (by simp)
          have hl : ∀ c ∈ l, SizeOf.sizeOf c ≤ N := fun c hc => h c (by simp [hc])
          have ksn : ∀ y : Mk, x.g ≤ y.g → ∀ k ∈ ks, 1 ≤ k ∧ k < y.g := fun y hy k hk => by have := hks k hk; omega
          have hx : x.b = false := nb _ fun h => by rw [bad_all.2.2.2.1 _ _ _ _ _ h] at hb; cases hb
          rw [obT] at hb ⊢
          rw [leavesK]
          split at hb
          · rename_i h64
            rw [if_pos h64]
            simp only at hb ⊢
            split at hb
            · rename_i hc
              rw [if_pos hc]
              simp only [hx, Bool.false_eq_true, if_false] at hb ⊢
              rw [apR_eq] at hb ⊢
              have lt : leavesT u = leavesA u.kids := by rw [leavesT_eq, if_neg (by omega), if_pos (.inr h64)]
              rw [lt]
              have hb1 : (apA u.kids x.g (x.next.lay ⟨3, x.g, r, bs0, Tree.z, ks⟩)).b = false := nb _ fun h => by rw [bad_all.2.2.2.1 _ _ _ _ _ h] at hb; cases hb
              have s1 : Run x (x.next.lay ⟨3, x.g, r, bs0, Tree.z, ks⟩) a a [] := Run.one (by rw [next_g]; omega) fun ops rest => .make (.inr (.inl rfl)) ⟨h0, h1⟩ hks rfl
              have s2 := hA u.kids x.g (x.next.lay ⟨3, x.g, r, bs0, Tree.z, ks⟩) (hkk u hu) (by omega) (by rw [lay_g, next_g]; omega) hb1 a
              have s3 := ih ks _ hl h0 (by have := s1.1; have := s2.1; omega) (ksn _ (by have := s1.1; have := s2.1; omega)) hb a
              exact (s1.trans s2).trans s3
            · rename_i hc
              rw [if_pos (show x.bad.b = true from rfl), bad_all.2.2.2.1 _ _ _ _ _ (show x.bad.b = true from rfl)] at hb
              cases hb
          · rename_i h64
            rw [if_neg h64]
            split at hb
            · rename_i h62
              rw [if_pos h62]
              have lt : leavesT u = leavesB u.kids := by rw [leavesT_eq, if_neg (by have := h62.1; omega), if_neg (by have := h62.1; omega), if_pos h62.1, if_pos h62.2]
              rw [lt]
              have two : ∀ (sk : StepD), sk.k = 11 → sk.r = x.g → sk.f = 0 → sk.ks = [] → (obT rm l r (ks ++ [x.g]) (apP u (x.g + 1) ((x.next.lay sk).next.lay ⟨2, x.g + 1, r, bs0, Tree.z, [x.g]⟩))).b = false →
                  Run x (obT rm l r (ks ++ [x.g]) (apP u (x.g + 1) ((x.next.lay sk).next.lay ⟨2, x.g + 1, r, bs0, Tree.z, [x.g]⟩))) a a (leavesB u.kids ++ leavesK l) := by
                intro sk e1 e2 e3 e4 hb
                rw [apP_eq] at hb ⊢
                have hb1 : (apB u.kids (x.g + 1) ((x.next.lay sk).next.lay ⟨2, x.g + 1, r, bs0, Tree.z, [x.g]⟩)).b = false := nb _ fun h => by rw [bad_all.2.2.2.1 _ _ _ _ _ h] at hb; cases hb
                have s0 : Run x (x.next.lay sk) a a [] := Run.one (by rw [next_g]; omega) fun ops rest => .make (.inr (.inr e1)) (by rw [e3]; show 0 ≤ (0 : Int) ∧ 0 < x.g; omega) (by rw [e4]; simp) e2
                have s1 : Run (x.next.lay sk) ((x.next.lay sk).next.lay ⟨2, x.g + 1, r, bs0, Tree.z, [x.g]⟩) a a [] := Run.one (by rw [next_g]; omega) fun ops rest => .make (.inl rfl) ⟨h0, by show r < (x.next.lay sk).g; rw [lay_g, next_g]; omega⟩ (fun k hk => by rw [List.mem_singleton.1 hk]; show 1 ≤ x.g ∧ x.g < (x.next.lay sk).g; rw [lay_g, next_g]; omega) rfl
                have s2 := hB u.kids (x.g + 1) _ (hkk u hu) (by omega) (by rw [lay_g, next_g, lay_g, next_g]; omega) hb1 a
                have g2 : x.g + 2 ≤ (apB u.kids (x.g + 1) ((x.next.lay sk).next.lay ⟨2, x.g + 1, r, bs0, Tree.z, [x.g]⟩)).g := by have := s2.1; rw [lay_g, next_g, lay_g, next_g] at this; omega
                have s3 := ih (ks ++ [x.g]) _ hl h0 (by omega) (fun k hk => by
                  rcases List.mem_append.1 hk with hk | hk
                  · exact ksn _ (by omega) k hk
                  · rw [List.mem_singleton.1 hk]; omega) hb a
                exact ((s0.trans s1).trans s2).trans s3
              split at hb
              · rename_i hm
                rw [if_pos hm]
                exact two _ rfl rfl rfl rfl hb
              · rename_i hm
                rw [if_neg hm]
                split at hb
                · rename_i hk
                  rw [if_pos hk]
                  split at hb
                  · rename_i hrm
                    rw [if_pos hrm]
                    exact two _ rfl rfl rfl rfl hb
                  · rename_i hrm
                    rw [if_neg hrm]
                    rw [apP_eq] at hb ⊢
                    have hb1 : (apB u.kids x.g (x.next.lay ⟨2, x.g, r, keyS (u.kids.getD 0 default), Tree.z, []⟩)).b = false := nb _ fun h => by rw [bad_all.2.2.2.1 _ _ _ _ _ h] at hb; cases hb
                    have s1 : Run x (x.next.lay ⟨2, x.g, r, keyS (u.kids.getD 0 default), Tree.z, []⟩) a a [] := Run.one (by rw [next_g]; omega) fun ops rest => .make (.inl rfl) ⟨h0, h1⟩ (by simp) rfl
                    have s2 := hB u.kids x.g _ (hkk u hu) (by omega) (by rw [lay_g, next_g]; omega) hb1 a
                    have s3 := ih ks _ hl h0 (by have := s1.1; have := s2.1; omega) (ksn _ (by have := s1.1; have := s2.1; omega)) hb a
                    exact (s1.trans s2).trans s3
                · rename_i hk
                  rw [bad_all.2.2.2.1 _ _ _ _ _ (show x.bad.b = true from rfl)] at hb
                  cases hb
            · rw [bad_all.2.2.2.1 _ _ _ _ _ (show x.bad.b = true from rfl)] at hb
              cases hb
      have hR : ∀ (l : List Tree) (it : Int) (x : Mk), (∀ c ∈ l, SizeOf.sizeOf c ≤ N) → 0 ≤ it → it < x.g → (arT l it x).b = false → ∀ a, Run x (arT l it x) (a ++ [it]) a (leavesK l) := by
        intro l it
        induction l with
        | nil =>
          intro x _ h0 h1 hb a
          rw [arT, leavesK]
          refine Run.one (x := x) (Int.le_refl _) fun ops rest => ?_
          rw [← List.append_assoc]
          exact .close (s := ⟨8, 0, it, bs0, Tree.z, []⟩) rfl ⟨h0, h1⟩ (by simp)
        | cons u l ih =>
          intro x h h0 h1 hb a
          have hu := h u (by simp)
          have hl : ∀ c ∈ l, SizeOf.sizeOf c ≤ N := fun c hc => h c (by simp [hc])
          have hx : x.b = false := nb _ fun h => by rw [bad_all.2.2.2.2 _ _ _ h] at hb; cases hb
          rw [arT] at hb ⊢
          rw [leavesK]
          simp only [hx, Bool.false_eq_true, if_false] at hb ⊢
          split at hb
          · rename_i h40
            rw [if_pos h40]
            have lt : leavesT u = [] := by rw [leavesT_eq, if_neg (by omega), if_neg (by omega), if_neg (by omega), if_neg (by omega)]
            rw [lt]
            have s1 : Run x (x.lay ⟨6, 0, it, bs0, Tree.z, []⟩) (a ++ [it]) (a ++ [it]) [] := Run.one (Int.le_refl _) fun ops rest => by
              rw [← List.append_assoc]
              exact .skip (s := ⟨6, 0, it, bs0, Tree.z, []⟩) (.inl rfl) ⟨h0, h1⟩ (by simp)
            exact s1.trans (ih (x.lay ⟨6, 0, it, bs0, Tree.z, []⟩) hl h0 h1 hb a)
          · rename_i h40
            rw [if_neg h40]
            split at hb
            · rename_i h64
              rw [if_pos h64]
              (try simp only at hb ⊢)
              split at hb
              · rename_i hc
                rw [if_pos hc]
                simp only [hx, Bool.false_eq_true, if_false] at hb ⊢
                rw [apR_eq] at hb ⊢
                have lt : leavesT u = leavesA u.kids := by rw [leavesT_eq, if_neg (by omega), if_pos (.inr h64)]
                rw [lt]
                have hb1 : (apA u.kids x.g (x.next.lay ⟨7, x.g, it, bs0, Tree.z, []⟩)).b = false := nb _ fun h => by rw [bad_all.2.2.2.2 _ _ _ h] at hb; cases hb
                have s1 : Run x (x.next.lay ⟨7, x.g, it, bs0, Tree.z, []⟩) (a ++ [it]) (a ++ [it]) [] := Run.one (by rw [next_g]; omega) fun ops rest => by
                  rw [← List.append_assoc]
                  exact .take (s := ⟨7, x.g, it, bs0, Tree.z, []⟩) (.inr rfl) ⟨h0, h1⟩ (by simp) rfl
                have s2 := hA u.kids x.g _ (hkk u hu) (by omega) (by rw [lay_g, next_g]; omega) hb1 (a ++ [it])
                exact (s1.trans s2).trans (ih _ hl h0 (by have := s1.1; have := s2.1; omega) hb a)
              · rename_i hc
                rw [if_pos (show x.bad.b = true from rfl), bad_all.2.2.2.2 _ _ _ (show x.bad.b = true from rfl)] at hb
                cases hb
            · rename_i h64
              rw [if_neg h64]
              have hb1 : (apT u x.g (x.next.lay ⟨5, x.g, it, bs0, Tree.z, []⟩)).b = false := nb _ fun h => by rw [bad_all.2.2.2.2 _ _ _ h] at hb; cases hb
              have s1 : Run x (x.next.lay ⟨5, x.g, it, bs0, Tree.z, []⟩) (a ++ [it]) (a ++ [it]) [] := Run.one (by rw [next_g]; omega) fun ops rest => by
                rw [← List.append_assoc]
                exact .take (s := ⟨5, x.g, it, bs0, Tree.z, []⟩) (.inl rfl) ⟨h0, h1⟩ (by simp) rfl
              have s2 := IH u hu x.g _ (by omega) (by rw [lay_g, next_g]; omega) hb1 (a ++ [it])
              exact (s1.trans s2).trans (ih _ hl h0 (by have := s1.1; have := s2.1; omega) hb a)
      have hk : ∀ c ∈ t.kids, SizeOf.sizeOf c ≤ N := fun c hc => by have := Tree.kid_lt hc; omega
      rw [apT_eq] at hb ⊢
      rw [leavesT_eq]
      split at hb
      · rename_i h1
        rw [if_pos h1, if_pos h1]
        exact Run.one (x := x) (Int.le_refl _) fun ops rest => .assign (s := ⟨10, 0, r, bs0, t, []⟩) rfl ⟨hr0, hr⟩ (by simp)
      · rename_i h1
        rw [if_neg h1, if_neg h1]
        split at hb
        · rename_i h2
          rw [if_pos h2, if_pos (show t.op = 63 ∨ t.op = 64 from .inl h2)]
          split at hb
          · rename_i h3
            rw [if_pos h3]
            have s1 : Run x (x.lay ⟨9, r, 0, bs0, t.kids.getD 1 default, []⟩) a a [] := Run.one (Int.le_refl _) fun ops rest => .dflt rfl ⟨hr0, hr⟩ (by simp)
            exact s1.trans (hA t.kids r (x.lay ⟨9, r, 0, bs0, t.kids.getD 1 default, []⟩) hk hr0 hr hb a)
          · cases hb
        · rename_i h2
          rw [if_neg h2]
          split at hb
          · rename_i h3
            rw [if_pos h3, if_neg (by omega), if_neg (by omega), if_pos (.inr h3)]
            have s1 : Run x (x.lay ⟨1, 0, r, bs0, Tree.z, []⟩) a a [] := Run.one (Int.le_refl _) fun ops rest => .need rfl ⟨hr0, hr⟩ (by simp)
            exact s1.trans (hO (restK t.kids) t.kids r [] (x.lay ⟨1, 0, r, bs0, Tree.z, []⟩) hk hr0 hr (by simp) hb a)
          · rename_i h3
            rw [if_neg h3]
            split at hb
            · rename_i h4
              rw [if_pos h4, if_neg (by omega), if_neg (by omega), if_pos (.inl h4)]
              have s1 : Run x ((x.next.lay ⟨4, x.g, r, bs0, Tree.z, []⟩).lay ⟨12, 0, x.g, bs0, Tree.z, []⟩) a (a ++ [x.g]) [] := by
                refine ⟨by rw [lay_g, lay_g, next_g]; omega, [⟨4, x.g, r, bs0, Tree.z, []⟩, ⟨12, 0, x.g, bs0, Tree.z, []⟩], by simp [Mk.lay, Mk.next], fun ops rest => ?_⟩
                refine .cons (.opn (e := ⟨12, 0, x.g, bs0, Tree.z, []⟩) rfl ⟨hr0, hr⟩ (by simp) rfl rfl rfl) (.cons ?_ (.nil _))
                have := Stp.skip (s := ⟨12, 0, x.g, bs0, Tree.z, []⟩) (nx := none) (g := x.g + 1) (o := ops ++ a) (lv := rest) (.inr rfl) (by show 0 ≤ x.g ∧ x.g < x.g + 1; omega) (by simp)
                rw [List.append_assoc] at this
                simpa [lay_g, next_g, List.append_assoc] using this
              exact s1.trans (hR t.kids x.g _ hk (by omega) (by rw [lay_g, lay_g, next_g]; omega) hb a)
            · cases hb
  exact main _ t (Nat.le_refl _)
/-- what Steps answers is in order -/
theorem steps_order (t : Tree) (l : List StepD) (n : Int) (h : stepsT t = (l, n, 0)) : Ord l ⟨1, [], leavesT t⟩ ⟨n, [], []⟩ := by
  unfold stepsT at h
  split at h
  · simp at h
  · split at h
    · simp at h
    · rename_i hb
      simp only [Prod.mk.injEq, and_true] at h
      obtain ⟨rfl, rfl⟩ := h
      obtain ⟨_, l', e, hr⟩ := run_ap t 0 ⟨[], 1, false⟩ (by omega) (by show (0 : Int) < 1; omega) (by simpa using hb) []
      have := hr [] []
      simp only [List.nil_append, List.append_nil] at this e
      rw [e]
      exact this
end Go.Proofs.YtiagegecnopfgaaDoor
