/- does and model, as one contract each. -/
import Derived.Test.YtgajmhklinolmaaSpZh
namespace Go.Proofs.Ytgajmhklinolmaa
set_option linter.all false
open Go.RowKit Go.Sort Go.Deep

/-- one operation: what the arena holds behind it, and its two results -/
def stepD (room : Int) (l : List CellD) (a : ActD) : List CellD × Int × Int :=
  if a.kd = 0 then if room ≤ l.length then (l, 0, 5) else (l ++ [a.c], l.length, 0)
  else if a.kd = 1 then if a.n < 0 ∨ l.length ≤ a.n then (l, 0, 3) else (l.set a.n.toNat a.c, 0, 0)
  else if a.kd = 2 then ([], 0, 0) else (l, 0, 0)
theorem stepD_len (room : Int) (l : List CellD) (a : ActD) : (stepD room l a).1.length ≤ l.length + 1 := by
  unfold stepD
  split
  · split <;> simp
  · split
    · split <;> simp
    · split <;> simp

theorem does_any (F : Nat → Prop) (s : Nat) (room : Int) (l : List CellD) (a : ActD) (A B : Option Addr) (ca cb : Nat) (w : World) (h : Arena w F s room l) (hr : room ≤ 1048576)
    (h1 : IsV w (.slice A a.c.sl.length ca) a.c.sl) (h2 : IsV w (.slice B a.c.mo.length cb) a.c.mo) (hf : a.c.fit) :
    Calls Try.prog 11 #[.pointer (some ⟨s, 0, none⟩), actV a.kd a.n a.c.k a.c.sh a.c.fl a.c.ag (.slice A a.c.sl.length ca) (.slice B a.c.mo.length cb)] w fun e w' =>
      e = .returned (.tuple #[.int .i64 (stepD room l a).2.1, .int .i64 (stepD room l a).2.2]) ∧ (∃ F', Arena w' F' s room (stepD room l a).1 ∧ ∀ b, F' b → F b ∨ w.heap.size ≤ b) ∧ Touch F w w' := by
  obtain ⟨kd, n, c⟩ := a
  simp only at h1 h2 hf
  by_cases h0 : kd = 0
  · subst h0
    by_cases hl : room ≤ l.length
    · simp only [stepD, hl, if_true]
      exact does_full F s room l n c A B ca cb w h h1 h2 hf hl
    · simp only [stepD, hl, if_true, if_false]
      exact does_put F s room l n c A B ca cb w h h1 h2 hf (by omega) hr
  · by_cases h1' : kd = 1
    · subst h1'
      by_cases hl : n < 0 ∨ l.length ≤ n
      · simp only [stepD, hl, if_true, if_false, h0]
        exact does_sout F s room l n c A B ca cb w h h1 h2 hf hl
      · simp only [stepD, hl, if_true, if_false, h0]
        exact does_set F s room l n c A B ca cb w h h1 h2 hf n.toNat (by omega) (by omega)
    · by_cases h2' : kd = 2
      · subst h2'
        simp only [stepD, h0, h1', if_true, if_false]
        exact does_clear F s room l n c A B ca cb w h h1 h2 hf
      · simp only [stepD, h0, h1', h2', if_false]
        exact does_none F s room l kd n c A B ca cb w h h1 h2 hf (by simpa using h0) (by simpa using h1') (by simpa using h2')

/-- the reference's row, what it may be behind an operation -/
def RowS (K : KC) (w w' : World) (lv lv' : Value) (l : List CellD) : Prop := RowK K w' lv' l ∧ ∀ b, lv'.ownBlock = some b → lv.ownBlock = some b ∨ w.heap.size ≤ b ∧ b < w'.heap.size

theorem model_any {K : KC} (hK : KOne K) (room : Int) (lv : Value) (l : List CellD) (a : ActD) (A B : Option Addr) (ca cb : Nat) (w : World) (h : RowK K w lv l) (hl : l.length ≤ 1000000) (hr : room ≤ 1048576)
    (h1 : K ⟨a.c.k, a.c.sh, a.c.fl, a.c.ag, .slice A a.c.sl.length ca, .slice B a.c.mo.length cb⟩ a.c) :
    Calls Try.prog 12 #[spV room lv, actV a.kd a.n a.c.k a.c.sh a.c.fl a.c.ag (.slice A a.c.sl.length ca) (.slice B a.c.mo.length cb)] w fun e w' =>
      ∃ lv', e = .returned (.tuple #[spV room lv', .int .i64 (stepD room l a).2.1, .int .i64 (stepD room l a).2.2]) ∧ RowS K w w' lv lv' (stepD room l a).1 ∧ Below w.heap.size w w' := by
  obtain ⟨kd, n, c⟩ := a
  simp only at h1
  have same : ∀ {w'}, Below w.heap.size w w' → RowS K w w' lv lv l := fun hb => ⟨h.below hb, fun b hb => .inl hb⟩
  have new : ∀ {w' lv' l'}, RowN K w w' lv' l' → RowS K w w' lv lv' l' := fun hn => ⟨hn.rowK.1, fun b hb => .inr (hn.rowK.2 b hb)⟩
  by_cases h0 : kd = 0
  · subst h0
    by_cases hl : room ≤ l.length
    · simp only [stepD, hl, if_true]
      exact (model_full hK room lv l 0 n c A B ca cb w h h1 hl).mono fun _ _ ⟨e, hb⟩ => ⟨_, e, same hb, hb⟩
    · simp only [stepD, hl, if_true, if_false]
      exact (model_put hK room lv l 0 n c A B ca cb w h h1 (by omega) hr).mono fun _ _ ⟨_, e, hn, hb⟩ => ⟨_, e, new hn, hb⟩
  · by_cases h1' : kd = 1
    · subst h1'
      by_cases hi : n < 0 ∨ l.length ≤ n
      · simp only [stepD, hi, if_true, if_false, h0]
        exact (model_sout hK room lv l 0 n c A B ca cb w h h1 hi).mono fun _ _ ⟨e, hb⟩ => ⟨_, e, same hb, hb⟩
      · simp only [stepD, hi, if_true, if_false, h0]
        exact (model_set hK room lv l 0 n c A B ca cb w h h1 n.toNat (by omega) (by omega) (by omega)).mono fun _ _ ⟨_, e, hn, hb⟩ => ⟨_, e, new hn, hb⟩
    · by_cases h2' : kd = 2
      · subst h2'
        simp only [stepD, h0, h1', if_true, if_false]
        exact (model_clear hK room lv l 0 n c A B ca cb w h h1).mono fun _ _ ⟨e, hb⟩ => ⟨_, e, ⟨.nil_, fun b hb => by simp [Value.ownBlock] at hb⟩, hb⟩
      · simp only [stepD, h0, h1', h2', if_false]
        exact (model_none hK room lv l kd n c A B ca cb w h h1 (by simpa using h0) (by simpa using h1') (by simpa using h2')).mono fun _ _ ⟨e, hb⟩ => ⟨_, e, same hb, hb⟩
end Go.Proofs.Ytgajmhklinolmaa
