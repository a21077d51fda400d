/- Bounds of what the compiler of patterns lays down. -/
import Derived.Test.YtiagegecnopfgaaDoorPaA
namespace Go.Proofs.YtiagegecnopfgaaDoor
set_option linter.all false
open Go.ChangeShapes Go.WideShapes Go.ChangeAt Go.RowKit Go.Sort Go.Deep

/-- what a part of the pattern adds at most -/
def Adds (x y : Mk) (n : Nat) : Prop := y.l.length ≤ x.l.length + 4 * n ∧ x.g ≤ y.g ∧ y.g ≤ x.g + 2 * n
/-- .. with one less -/
def AddsT (x y : Mk) (n : Nat) : Prop := y.l.length + 1 ≤ x.l.length + 4 * n ∧ x.g ≤ y.g ∧ y.g + 1 ≤ x.g + 2 * n
theorem apR_eq (t : Tree) (r : Int) (x : Mk) : apR t r x = apA t.kids r x := by cases t; rw [apR]; rfl
theorem apP_eq (t : Tree) (r : Int) (x : Mk) : apP t r x = apB t.kids r x := by cases t; rw [apP]; rfl
theorem apT_eq (t : Tree) (r : Int) (x : Mk) : apT t r x =
    if t.op = 34 ∨ t.op = 51 ∨ t.op = 52 then x.lay ⟨10, 0, r, bs0, t, []⟩
    else if t.op = 63 then (if t.kids.length = 2 then apA t.kids r (x.lay ⟨9, r, 0, bs0, t.kids.getD 1 default, []⟩) else x.bad)
    else if t.op = 61 then obT (restK t.kids) t.kids r [] (x.lay ⟨1, 0, r, bs0, Tree.z, []⟩)
    else if t.op = 60 then arT t.kids x.g ((x.next.lay ⟨4, x.g, r, bs0, Tree.z, []⟩).lay ⟨12, 0, x.g, bs0, Tree.z, []⟩)
    else x.bad := by cases t; rw [apT]; rfl
theorem lay_len (x : Mk) (s : StepD) : (x.lay s).l.length = x.l.length + 1 := by simp [Mk.lay]
theorem lay_g (x : Mk) (s : StepD) : (x.lay s).g = x.g := rfl
theorem next_len (x : Mk) : x.next.l.length = x.l.length := rfl
theorem next_g (x : Mk) : x.next.g = x.g + 1 := rfl
theorem bad_len (x : Mk) : x.bad.l.length = x.l.length := rfl
theorem bad_g (x : Mk) : x.bad.g = x.g := rfl
theorem deepT_eq (t : Tree) : deepT t = if t.op = 60 ∨ t.op = 61 then deepK t.kids + 1 else if t.op = 63 ∨ t.op = 64 then deepA t.kids else if t.op = 62 then deepB t.kids else 0 := by cases t; rw [deepT]; rfl
theorem deepT_bound (t : Tree) : 0 ≤ deepT t ∧ deepT t ≤ (sizeT t : Int) := by
  induction t using Tree.ind with
  | h t ih =>
    have hk : ∀ l : List Tree, (∀ c ∈ l, 0 ≤ deepT c ∧ deepT c ≤ (sizeT c : Int)) → (0 ≤ deepK l ∧ deepK l ≤ (sizeK l : Int)) ∧ (0 ≤ deepA l ∧ deepA l ≤ (sizeK l : Int)) ∧ (0 ≤ deepB l ∧ deepB l ≤ (sizeK l : Int)) := by
      intro l
      induction l with
      | nil => intro _; simp [deepK, deepA, deepB, sizeK]
      | cons u l ih2 =>
        intro h
        have h1 := h u (by simp)
        obtain ⟨h2, h3, h4⟩ := ih2 fun c hc => h c (by simp [hc])
        rw [deepK, deepA, deepB, sizeK]
        omega
    obtain ⟨h1, h2, h3⟩ := hk t.kids ih
    rw [deepT_eq, sizeT_eq]
    split
    · omega
    · split
      · omega
      · split
        · omega
        · omega
theorem ap_bound (t : Tree) : ∀ (r : Int) (x : Mk), AddsT x (apT t r x) (sizeT t) := by
  have main : ∀ N (t : Tree), SizeOf.sizeOf t ≤ N → ∀ (r : Int) (x : Mk), AddsT x (apT t r x) (sizeT t) := by
    intro N
    induction N with
    | zero =>
      intro t ht
      cases t
      simp at ht
    | succ N IH =>
      intro t ht r x
      have hA : ∀ (l : List Tree) (r : Int) (x : Mk), (∀ c ∈ l, SizeOf.sizeOf c ≤ N) → Adds x (apA l r x) (sizeK l) := by
        intro l r x h
        cases l with
        | nil => rw [apA]; unfold Adds; omega
        | cons u l =>
          rw [apA, sizeK]
          have := IH u (h u (by simp)) r x
          unfold AddsT at this
          unfold Adds
          omega
      have hA1 : ∀ (l : List Tree) (r : Int) (x : Mk), (∀ c ∈ l, SizeOf.sizeOf c ≤ N) → l ≠ [] → AddsT x (apA l r x) (sizeK l) := by
        intro l r x h hn
        cases l with
        | nil => exact absurd rfl hn
        | cons u l =>
          rw [apA, sizeK]
          have := IH u (h u (by simp)) r x
          unfold AddsT at this ⊢
          omega
      have hB1 : ∀ (l : List Tree) (r : Int) (x : Mk), (∀ c ∈ l, SizeOf.sizeOf c ≤ N) → l.length = 2 → AddsT x (apB l r x) (sizeK l) := by
        intro l r x h hn
        match l, hn with
        | [u, v], _ =>
          rw [apB, apA, sizeK, sizeK, sizeK]
          have := IH v (h v (by simp)) r x
          unfold AddsT at this ⊢
          omega
      have hkk : ∀ c : Tree, SizeOf.sizeOf c ≤ N → ∀ d ∈ c.kids, SizeOf.sizeOf d ≤ N := fun c hc d hd => by have := Tree.kid_lt hd; omega
      have hO : ∀ (rm : Bool) (l : List Tree) (r : Int) (ks : List Int) (x : Mk), (∀ c ∈ l, SizeOf.sizeOf c ≤ N) → Adds x (obT rm l r ks x) (sizeK l) := by
        intro rm l r
        induction l with
        | nil => intro ks x _; rw [obT]; unfold Adds; omega
        | cons u l ih =>
          intro ks x h
          have hu := h u (by simp)
          have hl : ∀ c ∈ l, SizeOf.sizeOf c ≤ N := fun c hc => h c (by simp [hc])
          have su := sizeT_eq u
          rw [obT, sizeK]
          split
          · have key : ∀ y : Mk, y.l.length = x.l.length → y.g = x.g → Adds x (obT rm l r ks (if y.b then y else apR u y.g (y.next.lay ⟨3, y.g, r, bs0, Tree.z, ks⟩))) (sizeT u + sizeK l) := by
              intro y e1 e2
              split
              · have := ih ks y hl
                unfold Adds at this ⊢
                omega
              · rw [apR_eq]
                have h1 := hA u.kids y.g (y.next.lay ⟨3, y.g, r, bs0, Tree.z, ks⟩) (hkk u hu)
                have h2 := ih ks (apA u.kids y.g (y.next.lay ⟨3, y.g, r, bs0, Tree.z, ks⟩)) hl
                unfold Adds at h1 h2 ⊢
                rw [lay_len, next_len, lay_g, next_g] at h1
                omega
            simp only
            split
            · exact key x rfl rfl
            · exact key x.bad rfl rfl
          · split
            · rename_i h62
              split
              · rw [apP_eq]
                have h1 := hB1 u.kids (x.g + 1) ((x.next.lay ⟨11, x.g, 0, bs0, u.kids.getD 0 default, []⟩).next.lay ⟨2, x.g + 1, r, bs0, Tree.z, [x.g]⟩) (hkk u hu) h62.2
                have h2 := ih (ks ++ [x.g]) (apB u.kids (x.g + 1) ((x.next.lay ⟨11, x.g, 0, bs0, u.kids.getD 0 default, []⟩).next.lay ⟨2, x.g + 1, r, bs0, Tree.z, [x.g]⟩)) hl
                unfold Adds at h2 ⊢
                unfold AddsT at h1
                rw [lay_len, next_len, lay_len, next_len, lay_g, next_g, lay_g, next_g] at h1
                omega
              · split
                · split
                  · rw [apP_eq]
                    have h1 := hB1 u.kids (x.g + 1) ((x.next.lay ⟨11, x.g, 0, keyS (u.kids.getD 0 default), Tree.z, []⟩).next.lay ⟨2, x.g + 1, r, bs0, Tree.z, [x.g]⟩) (hkk u hu) h62.2
                    have h2 := ih (ks ++ [x.g]) (apB u.kids (x.g + 1) ((x.next.lay ⟨11, x.g, 0, keyS (u.kids.getD 0 default), Tree.z, []⟩).next.lay ⟨2, x.g + 1, r, bs0, Tree.z, [x.g]⟩)) hl
                    unfold Adds at h2 ⊢
                    unfold AddsT at h1
                    rw [lay_len, next_len, lay_len, next_len, lay_g, next_g, lay_g, next_g] at h1
                    omega
                  · rw [apP_eq]
                    have h1 := hB1 u.kids x.g (x.next.lay ⟨2, x.g, r, keyS (u.kids.getD 0 default), Tree.z, []⟩) (hkk u hu) h62.2
                    have h2 := ih ks (apB u.kids x.g (x.next.lay ⟨2, x.g, r, keyS (u.kids.getD 0 default), Tree.z, []⟩)) hl
                    unfold Adds at h2 ⊢
                    unfold AddsT at h1
                    rw [lay_len, next_len, lay_g, next_g] at h1
                    omega
                · have h2 := ih ks x.bad hl
                  unfold Adds at h2 ⊢
                  rw [bad_len, bad_g] at h2
                  omega
            · have h2 := ih ks x.bad hl
              unfold Adds at h2 ⊢
              rw [bad_len, bad_g] at h2
              omega
      have hR : ∀ (l : List Tree) (it : Int) (x : Mk), (∀ c ∈ l, SizeOf.sizeOf c ≤ N) → (arT l it x).l.length ≤ x.l.length + 4 * sizeK l + 1 ∧ x.g ≤ (arT l it x).g ∧ (arT l it x).g ≤ x.g + 2 * sizeK l := by
        intro l it
        induction l with
        | nil => intro x _; rw [arT, lay_len, lay_g]; omega
        | cons u l ih =>
          intro x h
          have hu := h u (by simp)
          have hl : ∀ c ∈ l, SizeOf.sizeOf c ≤ N := fun c hc => h c (by simp [hc])
          have su := sizeT_eq u
          rw [arT, sizeK]
          split
          · omega
          · split
            · have := ih (x.lay ⟨6, 0, it, bs0, Tree.z, []⟩) hl
              rw [lay_len, lay_g] at this
              omega
            · split
              · have key : ∀ y : Mk, y.l.length = x.l.length → y.g = x.g → (arT l it (if y.b then y else apR u y.g (y.next.lay ⟨7, y.g, it, bs0, Tree.z, []⟩))).l.length ≤ x.l.length + 4 * (sizeT u + sizeK l) + 1 ∧ x.g ≤ (arT l it (if y.b then y else apR u y.g (y.next.lay ⟨7, y.g, it, bs0, Tree.z, []⟩))).g ∧ (arT l it (if y.b then y else apR u y.g (y.next.lay ⟨7, y.g, it, bs0, Tree.z, []⟩))).g ≤ x.g + 2 * ((sizeT u + sizeK l : Nat) : Int) := by
                  intro y e1 e2
                  split
                  · have := ih y hl
                    omega
                  · rw [apR_eq]
                    have h1 := hA u.kids y.g (y.next.lay ⟨7, y.g, it, bs0, Tree.z, []⟩) (hkk u hu)
                    have h2 := ih (apA u.kids y.g (y.next.lay ⟨7, y.g, it, bs0, Tree.z, []⟩)) hl
                    unfold Adds at h1
                    rw [lay_len, next_len, lay_g, next_g] at h1
                    omega
                simp only
                split
                · have k := key x rfl rfl
                  simp only [if_neg ‹¬ x.b = true›] at k
                  exact ⟨k.1, k.2.1, by have := k.2.2; omega⟩
                · have k := key x.bad rfl rfl
                  first
                  | exact ⟨k.1, k.2.1, by have := k.2.2; omega⟩
                  | (simp only [if_pos (show x.bad.b = true from rfl)] at k; exact ⟨k.1, k.2.1, by have := k.2.2; omega⟩)
              · have h1 := IH u hu x.g (x.next.lay ⟨5, x.g, it, bs0, Tree.z, []⟩)
                have h2 := ih (apT u x.g (x.next.lay ⟨5, x.g, it, bs0, Tree.z, []⟩)) hl
                unfold AddsT at h1
                rw [lay_len, next_len, lay_g, next_g] at h1
                omega
      have hk : ∀ c ∈ t.kids, SizeOf.sizeOf c ≤ N := fun c hc => by have := Tree.kid_lt hc; omega
      have st := sizeT_eq t
      rw [apT_eq]
      split
      · unfold AddsT
        rw [lay_len, lay_g]
        omega
      · split
        · split
          · have := hA t.kids r (x.lay ⟨9, r, 0, bs0, t.kids.getD 1 default, []⟩) hk
            unfold Adds at this
            unfold AddsT
            rw [lay_len, lay_g] at this
            omega
          · unfold AddsT
            rw [bad_len, bad_g]
            omega
        · split
          · have := hO (restK t.kids) t.kids r [] (x.lay ⟨1, 0, r, bs0, Tree.z, []⟩) hk
            unfold Adds at this
            unfold AddsT
            rw [lay_len, lay_g] at this
            omega
          · split
            · have := hR t.kids x.g ((x.next.lay ⟨4, x.g, r, bs0, Tree.z, []⟩).lay ⟨12, 0, x.g, bs0, Tree.z, []⟩) hk
              unfold AddsT
              rw [lay_len, lay_len, next_len, lay_g, lay_g, next_g] at this
              omega
            · unfold AddsT
              rw [bad_len, bad_g]
              omega
  exact fun r x => main _ t (Nat.le_refl _) r x
end Go.Proofs.YtiagegecnopfgaaDoor
