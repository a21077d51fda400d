/- Plain laws of the compiler of patterns: related makers stay related (no program in sight). -/
import Derived.Test.YtiagegecnopfgaaDoorPaB
namespace Go.Proofs.YtiagegecnopfgaaDoor
set_option linter.all false
open Go.ChangeShapes Go.WideShapes Go.ChangeAt Go.RowKit Go.Sort Go.Deep

/-- key registers, one by one related -/
inductive KsR (RI : Int → Int → Prop) : List Int → List Int → Prop
  | nil : KsR RI [] []
  | snoc {l l' : List Int} {a b : Int} (h : KsR RI l l') (hi : RI a b) : KsR RI (l ++ [a]) (l' ++ [b])
theorem KsR.eq {l l' : List Int} (h : KsR Eq l l') : l = l' := by
  induction h with
  | nil => rfl
  | snoc _ hi ih => rw [ih, hi]
theorem KsR.one {RI : Int → Int → Prop} {a b : Int} (h : RI a b) : KsR RI [a] [b] := by
  have := KsR.snoc (l := []) (l' := []) .nil h
  simpa using this
theorem or_eq0 {a b : Int} (h : (a = 0 ∧ b = 0) ∨ a = b) : a = b := by omega
def StR (RI : Int → Int → Prop) (s s' : StepD) : Prop := s.k = s'.k ∧ s.s = s'.s ∧ s.nd = s'.nd ∧ ((s.r = 0 ∧ s'.r = 0) ∨ RI s.r s'.r) ∧ ((s.f = 0 ∧ s'.f = 0) ∨ RI s.f s'.f) ∧ KsR RI s.ks s'.ks
theorem ap_rel (R : Mk → Mk → Prop) (RI : Int → Int → Prop) (hb : ∀ x y, R x y → x.b = y.b) (hg : ∀ x y, R x y → RI x.g y.g) (hn : ∀ x y, R x y → R x.next y.next) (hd : ∀ x y, R x y → R x.bad y.bad)
    (hl : ∀ x y s s', R x y → StR RI s s' → R (x.lay s) (y.lay s')) : (∀ (t : Tree) (r r' : Int) (x y : Mk), RI r r' → R x y → R (apT t r x) (apT t r' y)) ∧
    (∀ (l : List Tree) (r r' : Int) (x y : Mk), RI r r' → R x y → R (apA l r x) (apA l r' y)) ∧ (∀ (l : List Tree) (r r' : Int) (x y : Mk), RI r r' → R x y → R (apB l r x) (apB l r' y)) ∧
    (∀ (rm : Bool) (l : List Tree) (r r' : Int) (ks ks' : List Int) (x y : Mk), RI r r' → KsR RI ks ks' → R x y → R (obT rm l r ks x) (obT rm l r' ks' y)) ∧
    (∀ (l : List Tree) (it it' : Int) (x y : Mk), RI it it' → R x y → R (arT l it x) (arT l it' y)) := by
  have gA : ∀ N, (∀ t : Tree, SizeOf.sizeOf t ≤ N → ∀ (r r' : Int) (x y : Mk), RI r r' → R x y → R (apT t r x) (apT t r' y)) → ∀ (l : List Tree) (r r' : Int) (x y : Mk), (∀ c ∈ l, SizeOf.sizeOf c ≤ N) → RI r r' → R x y → R (apA l r x) (apA l r' y) := by
    intro N IH l r r' x y h hr hx
    cases l with
    | nil => rw [apA, apA]; exact hx
    | cons u l => rw [apA, apA]; exact IH u (h u (by simp)) r r' x y hr hx
  have gB : ∀ N, (∀ t : Tree, SizeOf.sizeOf t ≤ N → ∀ (r r' : Int) (x y : Mk), RI r r' → R x y → R (apT t r x) (apT t r' y)) → ∀ (l : List Tree) (r r' : Int) (x y : Mk), (∀ c ∈ l, SizeOf.sizeOf c ≤ N) → RI r r' → R x y → R (apB l r x) (apB l r' y) := by
    intro N IH l r r' x y h hr hx
    cases l with
    | nil => rw [apB, apB]; exact hx
    | cons u l => rw [apB, apB]; exact gA N IH l r r' x y (fun c hc => h c (by simp [hc])) hr hx
  have hkk : ∀ N, ∀ c : Tree, SizeOf.sizeOf c ≤ N → ∀ d ∈ c.kids, SizeOf.sizeOf d ≤ N := fun N c hc d hd => by have := Tree.kid_lt hd; omega
  have s0 : ∀ (k : Int) (s : ByteArray) (nd : Tree) (a b c d : Int) (ks ks' : List Int), ((a = 0 ∧ b = 0) ∨ RI a b) → ((c = 0 ∧ d = 0) ∨ RI c d) → KsR RI ks ks' → StR RI ⟨k, a, c, s, nd, ks⟩ ⟨k, b, d, s, nd, ks'⟩ := fun k s nd a b c d ks ks' h1 h2 h3 => ⟨rfl, rfl, rfl, h1, h2, h3⟩
  have z0 : ((0 : Int) = 0 ∧ (0 : Int) = 0) ∨ RI 0 0 := .inl ⟨rfl, rfl⟩
  have gO : ∀ N, (∀ t : Tree, SizeOf.sizeOf t ≤ N → ∀ (r r' : Int) (x y : Mk), RI r r' → R x y → R (apT t r x) (apT t r' y)) → ∀ (rm : Bool) (l : List Tree) (r r' : Int) (ks ks' : List Int) (x y : Mk), (∀ c ∈ l, SizeOf.sizeOf c ≤ N) → RI r r' → KsR RI ks ks' → R x y → R (obT rm l r ks x) (obT rm l r' ks' y) := by
    intro N IH rm l r r'
    induction l with
    | nil => intro ks ks' x y _ _ _ hx; rw [obT, obT]; exact hx
    | cons u l ih =>
      intro ks ks' x y h hr hk hx
      have hu := hkk N u (h u (by simp))
      have hl' : ∀ c ∈ l, SizeOf.sizeOf c ≤ N := fun c hc => h c (by simp [hc])
      have e1 := hg _ _ hx
      have e2 := hg _ _ (hn _ _ hx)
      rw [obT, obT]
      split
      · have key : ∀ x y : Mk, R x y → R (obT rm l r ks (if x.b then x else apR u x.g (x.next.lay ⟨3, x.g, r, bs0, Tree.z, ks⟩))) (obT rm l r' ks' (if y.b then y else apR u y.g (y.next.lay ⟨3, y.g, r', bs0, Tree.z, ks'⟩))) := by
          intro x y hx
          rw [hb _ _ hx]
          split
          · exact ih ks ks' x y hl' hr hk hx
          · rw [apR_eq, apR_eq]
            exact ih ks ks' _ _ hl' hr hk (gA N IH u.kids _ _ _ _ hu (hg _ _ hx) (hl _ _ _ _ (hn _ _ hx) (s0 _ _ _ _ _ _ _ _ _ (.inr (hg _ _ hx)) (.inr hr) hk)))
        simp only
        split
        · exact key x y hx
        · exact key x.bad y.bad (hd _ _ hx)
      · split
        · split
          · rw [apP_eq, apP_eq]
            exact ih _ _ _ _ hl' hr (hk.snoc e1) (gB N IH u.kids _ _ _ _ hu e2 (hl _ _ _ _ (hn _ _ (hl _ _ _ _ (hn _ _ hx) (s0 _ _ _ _ _ _ _ _ _ (.inr e1) z0 .nil))) (s0 _ _ _ _ _ _ _ _ _ (.inr e2) (.inr hr) (.one e1))))
          · split
            · split
              · rw [apP_eq, apP_eq]
                exact ih _ _ _ _ hl' hr (hk.snoc e1) (gB N IH u.kids _ _ _ _ hu e2 (hl _ _ _ _ (hn _ _ (hl _ _ _ _ (hn _ _ hx) (s0 _ _ _ _ _ _ _ _ _ (.inr e1) z0 .nil))) (s0 _ _ _ _ _ _ _ _ _ (.inr e2) (.inr hr) (.one e1))))
              · rw [apP_eq, apP_eq]
                exact ih _ _ _ _ hl' hr hk (gB N IH u.kids _ _ _ _ hu e1 (hl _ _ _ _ (hn _ _ hx) (s0 _ _ _ _ _ _ _ _ _ (.inr e1) (.inr hr) .nil)))
            · exact ih _ _ _ _ hl' hr hk (hd _ _ hx)
        · exact ih _ _ _ _ hl' hr hk (hd _ _ hx)
  have gR : ∀ N, (∀ t : Tree, SizeOf.sizeOf t ≤ N → ∀ (r r' : Int) (x y : Mk), RI r r' → R x y → R (apT t r x) (apT t r' y)) → ∀ (l : List Tree) (it it' : Int) (x y : Mk), (∀ c ∈ l, SizeOf.sizeOf c ≤ N) → RI it it' → R x y → R (arT l it x) (arT l it' y) := by
    intro N IH l it it'
    induction l with
    | nil => intro x y _ hr hx; rw [arT, arT]; exact hl _ _ _ _ hx (s0 _ _ _ _ _ _ _ _ _ z0 (.inr hr) .nil)
    | cons u l ih =>
      intro x y h hr hx
      have hu := h u (by simp)
      have hl' : ∀ c ∈ l, SizeOf.sizeOf c ≤ N := fun c hc => h c (by simp [hc])
      rw [arT, arT, hb _ _ hx]
      split
      · exact hx
      · split
        · exact ih _ _ hl' hr (hl _ _ _ _ hx (s0 _ _ _ _ _ _ _ _ _ z0 (.inr hr) .nil))
        · split
          · have key : ∀ x y : Mk, R x y → R (arT l it (if x.b then x else apR u x.g (x.next.lay ⟨7, x.g, it, bs0, Tree.z, []⟩))) (arT l it' (if y.b then y else apR u y.g (y.next.lay ⟨7, y.g, it', bs0, Tree.z, []⟩))) := by
              intro x y hx
              rw [hb _ _ hx]
              split
              · exact ih x y hl' hr hx
              · rw [apR_eq, apR_eq]
                exact ih _ _ hl' hr (gA N IH u.kids _ _ _ _ (hkk N u hu) (hg _ _ hx) (hl _ _ _ _ (hn _ _ hx) (s0 _ _ _ _ _ _ _ _ _ (.inr (hg _ _ hx)) (.inr hr) .nil)))
            simp only
            split
            · have k := key x y hx
              simp only [if_neg ‹¬ y.b = true›] at k
              exact k
            · exact key x.bad y.bad (hd _ _ hx)
          · exact ih _ _ hl' hr (IH u hu _ _ _ _ (hg _ _ hx) (hl _ _ _ _ (hn _ _ hx) (s0 _ _ _ _ _ _ _ _ _ (.inr (hg _ _ hx)) (.inr hr) .nil)))
  have main : ∀ N (t : Tree), SizeOf.sizeOf t ≤ N → ∀ (r r' : Int) (x y : Mk), RI r r' → R x y → R (apT t r x) (apT t r' y) := by
    intro N
    induction N with
    | zero =>
      intro t ht
      cases t
      simp at ht
    | succ N IH =>
      intro t ht r r' x y hr hx
      have hk : ∀ c ∈ t.kids, SizeOf.sizeOf c ≤ N := fun c hc => by have := Tree.kid_lt hc; omega
      rw [apT_eq, apT_eq]
      split
      · exact hl _ _ _ _ hx (s0 _ _ _ _ _ _ _ _ _ z0 (.inr hr) .nil)
      · split
        · split
          · exact gA N IH t.kids _ _ _ _ hk hr (hl _ _ _ _ hx (s0 _ _ _ _ _ _ _ _ _ (.inr hr) z0 .nil))
          · exact hd _ _ hx
        · split
          · exact gO N IH _ t.kids _ _ _ _ _ _ hk hr .nil (hl _ _ _ _ hx (s0 _ _ _ _ _ _ _ _ _ z0 (.inr hr) .nil))
          · split
            · exact gR N IH t.kids _ _ _ _ hk (hg _ _ hx) (hl _ _ _ _ (hl _ _ _ _ (hn _ _ hx) (s0 _ _ _ _ _ _ _ _ _ (.inr (hg _ _ hx)) (.inr hr) .nil)) (s0 _ _ _ _ _ _ _ _ _ z0 (.inr (hg _ _ hx)) .nil))
            · exact hd _ _ hx
  have bnd : ∀ l : List Tree, ∀ c ∈ l, SizeOf.sizeOf c ≤ SizeOf.sizeOf l := fun l c hc => by have := List.sizeOf_lt_of_mem hc; omega
  exact ⟨fun t r r' x y => main _ t (Nat.le_refl _) r r' x y, fun l r r' x y => gA _ (main _) l r r' x y (bnd l), fun l r r' x y => gB _ (main _) l r r' x y (bnd l), fun rm l r r' ks ks' x y => gO _ (main _) rm l r r' ks ks' x y (bnd l), fun l it it' x y => gR _ (main _) l it it' x y (bnd l)⟩

/-- steps put in front -/
def Mk.pre (s : List StepD) (x : Mk) : Mk := ⟨s ++ x.l, x.g, x.b⟩
def PreR (s : List StepD) (x y : Mk) : Prop := y = x.pre s
theorem ap_pre_all (s : List StepD) : (∀ (t : Tree) (r r' : Int) (x y : Mk), r = r' → PreR s x y → PreR s (apT t r x) (apT t r' y)) ∧
    (∀ (l : List Tree) (r r' : Int) (x y : Mk), r = r' → PreR s x y → PreR s (apA l r x) (apA l r' y)) ∧ (∀ (l : List Tree) (r r' : Int) (x y : Mk), r = r' → PreR s x y → PreR s (apB l r x) (apB l r' y)) ∧
    (∀ (rm : Bool) (l : List Tree) (r r' : Int) (ks ks' : List Int) (x y : Mk), r = r' → KsR Eq ks ks' → PreR s x y → PreR s (obT rm l r ks x) (obT rm l r' ks' y)) ∧
    (∀ (l : List Tree) (it it' : Int) (x y : Mk), it = it' → PreR s x y → PreR s (arT l it x) (arT l it' y)) := by
  refine ap_rel (PreR s) Eq ?_ ?_ ?_ ?_ ?_
  · rintro x y rfl; rfl
  · rintro x y rfl; rfl
  · rintro x y rfl; rfl
  · rintro x y rfl; rfl
  · rintro x y ⟨k, r, f, t, n, ks⟩ ⟨k', r', f', t', n', ks'⟩ rfl ⟨h1, h2, h3, h4, h5, h6⟩
    have e6 := h6.eq
    simp only at h1 h2 h3 h4 h5 e6
    have e4 : r = r' := or_eq0 h4
    have e5 : f = f' := or_eq0 h5
    subst h1 h2 h3 e4 e5 e6
    simp [PreR, Mk.pre, Mk.lay]
theorem ap_pre (s : List StepD) (t : Tree) (r : Int) (x : Mk) : apT t r (x.pre s) = (apT t r x).pre s := (ap_pre_all s).1 t r r x _ rfl rfl
theorem ar_pre (s : List StepD) (l : List Tree) (it : Int) (x : Mk) : arT l it (x.pre s) = (arT l it x).pre s := (ap_pre_all s).2.2.2.2 l it it x _ rfl rfl
theorem KsR.rfl' : ∀ (l : List Int), KsR Eq l l := by
  intro l
  rw [← List.reverse_reverse l]
  induction l.reverse with
  | nil => exact .nil
  | cons a m ih => rw [List.reverse_cons]; exact ih.snoc rfl
theorem ob_pre (s : List StepD) (rm : Bool) (l : List Tree) (r : Int) (ks : List Int) (x : Mk) : obT rm l r ks (x.pre s) = (obT rm l r ks x).pre s := (ap_pre_all s).2.2.2.1 rm l r r ks ks x _ rfl (KsR.rfl' ks) rfl
/-- what stands ahead stays -/
theorem ap_front (t : Tree) (r : Int) (x : Mk) : (apT t r x).l = x.l ++ (apT t r ⟨[], x.g, x.b⟩).l := by
  have := ap_pre x.l t r ⟨[], x.g, x.b⟩
  have e : Mk.pre x.l ⟨[], x.g, x.b⟩ = x := by simp [Mk.pre]
  rw [e] at this
  rw [this]
  rfl
/-- an error stays -/
theorem bad_all : (∀ (t : Tree) (r : Int) (x : Mk), x.b = true → (apT t r x).b = true) ∧ (∀ (l : List Tree) (r : Int) (x : Mk), x.b = true → (apA l r x).b = true) ∧ (∀ (l : List Tree) (r : Int) (x : Mk), x.b = true → (apB l r x).b = true) ∧
    (∀ (rm : Bool) (l : List Tree) (r : Int) (ks : List Int) (x : Mk), x.b = true → (obT rm l r ks x).b = true) ∧ (∀ (l : List Tree) (it : Int) (x : Mk), x.b = true → (arT l it x).b = true) := by
  have h := ap_rel (fun x y => x.b = true ∧ y.b = true) (fun _ _ => True) (fun x y h => by rw [h.1, h.2]) (fun _ _ _ => trivial) (fun _ _ h => h) (fun _ _ h => ⟨rfl, rfl⟩) (fun _ _ _ _ h _ => h)
  have hks : ∀ l : List Int, KsR (fun _ _ => True) l l := by
    intro l
    rw [← List.reverse_reverse l]
    induction l.reverse with
    | nil => exact .nil
    | cons a m ih => rw [List.reverse_cons]; exact ih.snoc trivial
  exact ⟨fun t r x hx => (h.1 t r r x x trivial ⟨hx, hx⟩).1, fun l r x hx => (h.2.1 l r r x x trivial ⟨hx, hx⟩).1, fun l r x hx => (h.2.2.1 l r r x x trivial ⟨hx, hx⟩).1, fun rm l r ks x hx => (h.2.2.2.1 rm l r r ks ks x x trivial (hks ks) ⟨hx, hx⟩).1, fun l it x hx => (h.2.2.2.2 l it it x x trivial ⟨hx, hx⟩).1⟩
/-- lengths and registers differ by the same as before -/
theorem ap_shift (d e : Int) (t : Tree) (r r' : Int) (x y : Mk) (h1 : (y.l.length : Int) = x.l.length + d) (h2 : y.g = x.g + e) (h3 : x.b = y.b) :
    ((apT t r' y).l.length : Int) = (apT t r x).l.length + d ∧ (apT t r' y).g = (apT t r x).g + e ∧ (apT t r x).b = (apT t r' y).b := by
  refine (ap_rel (fun x y => (y.l.length : Int) = x.l.length + d ∧ y.g = x.g + e ∧ x.b = y.b) (fun _ _ => True) (fun x y h => h.2.2) (fun _ _ _ => trivial) (fun x y h => ⟨h.1, ?_, h.2.2⟩) (fun x y h => ⟨h.1, h.2.1, rfl⟩) (fun x y s s' h _ => ⟨?_, h.2.1, h.2.2⟩)).1 t r r' x y trivial ⟨h1, h2, h3⟩
  · rw [next_g, next_g]
    omega
  · rw [lay_len, lay_len]
    omega
/-- a default value -/
theorem deep_def (t p v : Tree) (ho : t.op = 63) (hk : t.kids = [p, v]) : deepT t = deepT p := by
  rw [deepT_eq, ho, hk]
  simp [deepA]
theorem steps_def (t p v : Tree) (ho : t.op = 63) (hk : t.kids = [p, v]) : stepsT t = if (stepsT p).2.2 = 0 then (⟨9, 0, 0, bs0, v, []⟩ :: (stepsT p).1, (stepsT p).2.1, 0) else ([], (stepsT p).2.1, (stepsT p).2.2) := by
  have e : apT t 0 ⟨[], 1, false⟩ = (apT p 0 ⟨[], 1, false⟩).pre [⟨9, 0, 0, bs0, v, []⟩] := by
    rw [apT_eq, ho, hk]
    simp only [apA]
    rw [if_neg (by decide), if_pos trivial, if_pos (by simp)]
    exact ap_pre [⟨9, 0, 0, bs0, v, []⟩] p 0 ⟨[], 1, false⟩
  unfold stepsT
  rw [deep_def t p v ho hk, e]
  split
  · simp
  · have : ((apT p 0 ⟨[], 1, false⟩).pre [⟨9, 0, 0, bs0, v, []⟩]).b = (apT p 0 ⟨[], 1, false⟩).b := rfl
    rw [this]
    split
    · simp
    · simp [Mk.pre]
end Go.Proofs.YtiagegecnopfgaaDoor
