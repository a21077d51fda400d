/- The plain laws of descriptors: what package desc computes is what the reference computes. -/
import Derived.Test.YtippimonpdeioaaDescP
namespace Go.Proofs.Ytippimonpdeioaa
set_option linter.all false
open Go.RowKit Go.Sort

theorem rr1_of {d : Dsc} (h : rightR d = true) : (0 ≤ d.h ∧ d.h < 64) ∧ (0 ≤ d.a ∧ d.a < 8) ∧ (dataR d.h && accR d.h) = false ∧ rr2 d = false ∧ rr3 d = false ∧ halfR d.g (bt d.h 4) = true ∧ halfR d.t (bt d.h 8) = true := by
  simp only [rightR, rr1, Bool.and_eq_true, Bool.not_eq_true', Bool.or_eq_false_iff, decide_eq_false_iff_not] at h
  exact ⟨⟨by omega, by omega⟩, ⟨by omega, by omega⟩, h.1.1.1.1.2, h.1.1.1.2, h.1.1.2, h.1.2, h.2⟩

theorem eq_half {v : Val} (h : v.eq .zero = true) : halfM v = true := by
  have := Val.eq_iff.1 h
  subst this
  rfl

theorem right_eq (d : Dsc) (hn : i64ok d.h) (ha : i64ok d.a) : rightM d = rightR d := by
  by_cases hh : 0 ≤ d.h ∧ d.h < 64
  · by_cases haa : 0 ≤ d.a ∧ d.a < 8
    · obtain ⟨m, hm, em⟩ := nat_of (n := 64) hh.1 hh.2
      obtain ⟨n, hn', en⟩ := nat_of (n := 8) haa.1 haa.2
      obtain ⟨f1, f2, f4, f8, f16, f32, f3, f12, f63, _, _⟩ := fin_h m hm
      have f := fin_a m hm n hn'
      have e1 : pr1 d = (rr1 d || rr2 d) := by
        have e0 : (bits .andNot .i64 d.a (askedM d.h) != 0) = rr2 d := by
          rw [bne, em, en, f, rr2, em, en]
          simp
        have r1 : rr1 d = (dataR d.h && accR d.h) := by
          have a1 : decide (d.h < 0) = false := by simp; omega
          have a2 : decide (63 < d.h) = false := by simp; omega
          have a3 : decide (d.a < 0) = false := by simp; omega
          have a4 : decide (7 < d.a) = false := by simp; omega
          simp [rr1, a1, a2, a3, a4]
        rw [pr1, e0, r1, em, f63, f3, f12]
        simp
      have e2 : pr3 d = ((bt d.h 1 || d.v.eq .zero) && (bt d.h 4 || d.g.eq .zero) && (bt d.h 8 || d.t.eq .zero)) := by
        rw [pr3, em, f1, f4, f8]
      rw [rightM, rightR, e1, e2, pr2, rr3, halfR, halfR]
      have hg := @eq_half d.g
      have ht := @eq_half d.t
      have mg : (d.g.k == 0 || d.g.k == 7) = halfM d.g := rfl
      have mt : (d.t.k == 0 || d.t.k == 7) = halfM d.t := rfl
      rw [mg, mt]
      generalize halfM d.g = G at *
      generalize halfM d.t = T at *
      generalize d.g.eq .zero = x at *
      generalize d.t.eq .zero = y at *
      generalize d.v.eq .zero = z at *
      generalize rr1 d = r1 at *
      generalize rr2 d = r2 at *
      generalize decide (d.v.k < 0) = c1 at *
      generalize decide (7 < d.v.k) = c2 at *
      generalize bt d.h 1 = b1 at *
      generalize bt d.h 4 = b4 at *
      generalize bt d.h 8 = b8 at *
      clear f e1 e2 mg mt f1 f2 f4 f8 f16 f32 f3 f12 f63
      revert hg ht
      cases G <;> cases T <;> cases x <;> cases y <;> simp <;> cases b4 <;> cases b8 <;> cases z <;> cases b1 <;> cases r1 <;> cases r2 <;> cases c1 <;> cases c2 <;> rfl
    · have e1 : pr1 d = true := by
        obtain ⟨m, hm, em⟩ := nat_of (n := 64) hh.1 hh.2
        obtain ⟨_, _, _, _, _, _, _, _, _, b0, b1⟩ := fin_h m hm
        rw [← em] at b0 b1
        have : (bits .andNot .i64 d.a (askedM d.h) != 0) = true := by
          rw [bne_iff_ne]
          intro he
          have := small_of_andNot ha 3 (by omega) b0 (by simpa using b1) he
          simp at this
          omega
        simp [pr1, this]
      have e2 : rr1 d = true := by
        have : d.a < 0 ∨ 7 < d.a := by omega
        rcases this with h | h <;> simp [rr1, h]
      simp [rightM, rightR, e1, e2]
  · have e1 : pr1 d = true := by
      have : (bits .andNot .i64 d.h 63 != 0) = true := by
        rw [bne_iff_ne]
        intro he
        have := small_of_andNot hn 6 (by omega) (by omega) (by omega) he
        simp at this
        omega
      simp [pr1, this]
    have e2 : rr1 d = true := by
      have : d.h < 0 ∨ 63 < d.h := by omega
      rcases this with h | h <;> simp [rr1, h]
    simp [rightM, rightR, e1, e2]

abbrev mkP (q : Int) : Prp := ⟨.zero, q, .zero, .zero, .zero⟩
abbrev mkD (h a : Int) : Dsc := ⟨h, a, .zero, .zero, .zero⟩
def okha (h a : Nat) : Bool := !(dataR h && accR h) && !rr2 (mkD h a)
def okq (q : Nat) : Bool := !(bt q 8 && bt q 1)
def aR (q h a : Int) : Int := if isAcc (mkP q) (mkD h a) then outA (mkP q) (mkD h a) + 8 else outA (mkP q) (mkD h a) + attrR (mkD h a) 2 1 (!bt q 8 && bt q 1)
def bars0 (q h a : Int) : Bool :=
  if bt h 32 && bt a 4 then true
  else if bt h 16 && (!bt a 2 == bt q 2) then true
  else if bt q 8 then dataR h
  else if accR h then true
  else if bt q 1 then false
  else bt h 2 && bt a 1

def attrOk (h a q : Nat) : Bool := !okha h a || !okq q || (chA3 (mkP q) (mkD h a) == aR q h a && (bt q 4 || bars0 q h a || ((chA3 (mkP q) (mkD h a) == q || chA3 (mkP q) (mkD h a) == bits .andNot .i64 q 1) && (bt q 1 || chA3 (mkP q) (mkD h a) == q))))
set_option maxRecDepth 100000 in
theorem fin_attr0 : ∀ h, h < 64 → ∀ a, a < 8 → ∀ q, q < 16 → attrOk h a q = true := by decide +kernel
theorem fin_attr (h : Nat) (hh : h < 64) (a : Nat) (ha : a < 8) (ho : okha h a = true) (q : Nat) (hq : q < 16) (hoq : okq q = true) : chA3 (mkP (q : Nat)) (mkD (h : Nat) (a : Nat)) = aR q h a ∧
    (bt q 4 = false → bars0 q h a = false → (chA3 (mkP (q : Nat)) (mkD (h : Nat) (a : Nat)) = q ∨ chA3 (mkP (q : Nat)) (mkD (h : Nat) (a : Nat)) = bits .andNot .i64 q 1) ∧ (bt q 1 = false → chA3 (mkP (q : Nat)) (mkD (h : Nat) (a : Nat)) = q)) := by
  have f := fin_attr0 h hh a ha q hq
  simp only [attrOk, ho, hoq, Bool.not_true, Bool.false_or, Bool.and_eq_true, beq_iff_eq, Bool.or_eq_true] at f
  refine ⟨f.1, fun h4 hb => ?_⟩
  rcases f.2 with (h | h) | h
  · rw [h4] at h; cases h
  · rw [hb] at h; cases h
  · refine ⟨h.1, fun h1 => ?_⟩
    rcases h.2 with h' | h'
    · rw [h1] at h'; cases h'
    · exact h'
def fullOk (h a : Nat) : Bool := !okha h a || chA3 (mkP 0) (mkD (h : Nat) (a : Nat)) == if accR h then fullA (mkD h a) + 8 else fullA (mkD h a) + (if bt h 2 && bt a 1 then 1 else 0)
theorem fin_full0 : ∀ h, h < 64 → ∀ a, a < 8 → fullOk h a = true := by decide +kernel
theorem fin_full (h : Nat) (hh : h < 64) (a : Nat) (ha : a < 8) (ho : okha h a = true) : chA3 (mkP 0) (mkD (h : Nat) (a : Nat)) = if accR h then fullA (mkD h a) + 8 else fullA (mkD h a) + (if bt h 2 && bt a 1 then 1 else 0) := by
  have f := fin_full0 h hh a ha
  simpa only [fullOk, ho, Bool.not_true, Bool.false_or, beq_iff_eq] using f
theorem fin_q : ∀ q, q < 16 → (bits .and .i64 (q : Nat) 8 != 0) = bt q 8 ∧ (bits .and .i64 (q : Nat) 1 == 0) = !bt q 1 ∧ (bits .and .i64 (q : Nat) 4 == 0) = !bt q 4 ∧ hs q 8 = bt q 8 := by decide +kernel
def ofOk (q : Nat) : Bool := !okq q || (
    (!bt q 8 || (chA3 (mkP (q : Nat)) (mkD 60 (bits .and .i64 q 6)) == q && chA3 (mkP 0) (mkD 60 (bits .and .i64 q 6)) == q && !pr1 (mkD 60 (bits .and .i64 q 6)) && (bt q 4 || bits .and .i64 (bits .and .i64 q 6) 4 == 0) && bits .and .i64 (bits .xor .i64 (bits .and .i64 q 6) q) 2 == 0 && bits .and .i64 q 6 == (q : Int) - 8)) &&
    (bt q 8 || (chA3 (mkP (q : Nat)) (mkD 51 (bits .and .i64 q 7)) == q && chA3 (mkP 0) (mkD 51 (bits .and .i64 q 7)) == q && !pr1 (mkD 51 (bits .and .i64 q 7)) && (bt q 4 || bits .and .i64 (bits .and .i64 q 7) 4 == 0) && bits .and .i64 (bits .xor .i64 (bits .and .i64 q 7) q) 2 == 0 && (bt q 1 || bits .and .i64 (bits .and .i64 q 7) 1 == 0) && bits .and .i64 q 7 == (q : Int))))
theorem fin_of : ∀ q, q < 16 → ofOk q = true := by decide +kernel

theorem rightP_of {p : Prp} (h : rightP p = true) : (0 ≤ p.a ∧ p.a < 16) ∧ (bt p.a 8 && bt p.a 1) = false ∧ (bt p.a 8 = true → p.v = .zero ∧ halfR p.g true = true ∧ halfR p.t true = true) ∧ (bt p.a 8 = false → p.g = .zero ∧ p.t = .zero ∧ 0 ≤ p.v.k ∧ p.v.k ≤ 7) := by
  unfold rightP at h
  split at h
  · cases h
  · rename_i hb
    simp only [Bool.or_eq_true, decide_eq_true_eq] at hb
    split at h
    · rename_i h8
      simp only [Bool.and_eq_true, Bool.not_eq_true', Val.eq_iff] at h
      exact ⟨by omega, by simp [h8, h.1.1.1], fun _ => ⟨h.1.1.2, h.1.2, h.2⟩, fun h' => (by rw [h8] at h'; cases h')⟩
    · rename_i h8
      have h8' : bt p.a 8 = false := by simpa using h8
      simp only [Bool.and_eq_true, decide_eq_true_eq, Val.eq_iff] at h
      exact ⟨by omega, by simp [h8'], fun h' => (by rw [h8'] at h'; cases h'), fun _ => ⟨h.1.1.1, h.1.1.2, h.1.2, h.2⟩⟩

theorem chA3_eq (p : Prp) (d : Dsc) : chA3 p d = chA3 (mkP p.a) (mkD d.h d.a) := rfl

theorem ok_of {d : Dsc} {m n : Nat} (hr : rightR d = true) (em : d.h = m) (en : d.a = n) : okha m n = true := by
  obtain ⟨_, _, h1, h2, _⟩ := rr1_of hr
  have h3 : rr2 (mkD m n) = rr2 d := by simp only [rr2, em, en]
  rw [em] at h1
  simp [okha, h1, h3, h2]

theorem change_apply {p : Prp} {d : Dsc} (hd : rightR d = true) (hp : rightP p = true) (k : Val) : changeM p k d = applyT p k d := by
  obtain ⟨hh, haa, hda, h2, h3, _⟩ := rr1_of hd
  obtain ⟨hq, hqq, hp1, hp2⟩ := rightP_of hp
  obtain ⟨m, hm, em⟩ := nat_of (n := 64) hh.1 hh.2
  obtain ⟨n, hn, en⟩ := nat_of (n := 8) haa.1 haa.2
  obtain ⟨q, hq', eqq⟩ := nat_of (n := 16) hq.1 hq.2
  obtain ⟨f1, f2, f4, f8, f16, f32, f3, f12, f63, _, _⟩ := fin_h m hm
  obtain ⟨g8, g1, g4, _⟩ := fin_q q hq'
  have hA := (fin_attr m hm n hn (ok_of hd em en) q hq' (by rw [okq, ← eqq, hqq]; rfl)).1
  rw [← em, ← en, ← eqq] at hA
  have eA : chA3 p d = aR p.a d.h d.a := hA
  have eI : chIs p d = isAcc p d := by rw [chIs, isAcc, eqq, em, f12, f3, g8]
  have hI : isAcc p d = true → bt d.h 1 = false := by
    intro h
    rw [isAcc, Bool.or_eq_true] at h
    rcases h with h | h
    · have hd' : dataR d.h = false := by rw [h] at hda; simpa using hda
      simp only [dataR, Bool.or_eq_false_iff] at hd'
      exact hd'.1
    · simp only [Bool.and_eq_true, Bool.not_eq_true', dataR, Bool.or_eq_false_iff] at h
      exact h.2.1
  have hI2 : isAcc p d = false → bt d.h 4 = false ∧ bt d.h 8 = false := by
    intro h
    simp only [isAcc, Bool.or_eq_false_iff, accR] at h
    exact h.1
  have w8 : (bits .and .i64 p.a 8 != 0) = bt p.a 8 := by rw [eqq]; exact g8
  have s1 : hs d.h 1 = bt d.h 1 := by rw [em]; exact f1
  have s4 : hs d.h 4 = bt d.h 4 := by rw [em]; exact f4
  have s8 : hs d.h 8 = bt d.h 8 := by rw [em]; exact f8
  have eo : outA (mkP p.a) (mkD d.h d.a) = outA p d := rfl
  have ei : isAcc (mkP p.a) (mkD d.h d.a) = isAcc p d := rfl
  have et : attrR (mkD d.h d.a) 2 1 = attrR d 2 1 := rfl
  rw [changeM, applyT, eA, aR, eI, eo, ei, et, w8, s1, s4, s8]
  cases hi : isAcc p d
  · obtain ⟨i1, i2⟩ := hI2 hi
    have hb : bt p.a 8 = true → bt d.h 1 = true ∨ bt d.h 2 = true := by
      intro h8
      simp only [isAcc, Bool.or_eq_false_iff, h8, Bool.true_and, Bool.not_eq_false', dataR, Bool.or_eq_true] at hi
      exact hi.2
    simp [i1, i2, pickR]
  · have i1 := hI hi
    simp [i1, pickR]

theorem change_full {d : Dsc} (hd : rightR d = true) (k : Val) : changeM .zero' k d = fullR d k := by
  obtain ⟨hh, haa, hda, h2, h3, _⟩ := rr1_of hd
  obtain ⟨m, hm, em⟩ := nat_of (n := 64) hh.1 hh.2
  obtain ⟨n, hn, en⟩ := nat_of (n := 8) haa.1 haa.2
  obtain ⟨f1, f2, f4, f8, f16, f32, f3, f12, f63, _, _⟩ := fin_h m hm
  have hA := fin_full m hm n hn (ok_of hd em en)
  rw [← em, ← en] at hA
  have eA : chA3 .zero' d = if accR d.h then fullA d + 8 else fullA d + (if bt d.h 2 && bt d.a 1 then 1 else 0) := hA
  have w8 : (bits .and .i64 (Prp.zero').a 8 != 0) = false := by decide
  have eI : chIs .zero' d = accR d.h := by rw [chIs, w8, em, f12]; simp
  have s1 : hs d.h 1 = bt d.h 1 := by rw [em]; exact f1
  have s4 : hs d.h 4 = bt d.h 4 := by rw [em]; exact f4
  have s8 : hs d.h 8 = bt d.h 8 := by rw [em]; exact f8
  have hz : bt d.h 1 = false → d.v = .zero := by
    intro h1
    simp only [rr3, h1, Bool.not_false, Bool.true_and, Bool.or_eq_false_iff, Bool.not_eq_false', Val.eq_iff] at h3
    exact h3.1.1
  have hg : bt d.h 4 = false → d.g = .zero := by
    intro h1
    have := (rr1_of hd).2.2.2.2.2.1
    simpa [halfR, h1, Val.eq_iff] using this
  have ht : bt d.h 8 = false → d.t = .zero := by
    intro h1
    have := (rr1_of hd).2.2.2.2.2.2
    simpa [halfR, h1, Val.eq_iff] using this
  rw [changeM, fullR, eA, eI, w8, s1, s4, s8]
  cases hacc : accR d.h
  · simp only [accR, Bool.or_eq_false_iff] at hacc
    cases h1 : bt d.h 1
    · simp [hacc.1, hacc.2, hz h1]
    · simp [hacc.1, hacc.2]
  · have hd' : dataR d.h = false := by rw [hacc] at hda; simpa using hda
    simp only [dataR, Bool.or_eq_false_iff] at hd'
    cases h4 : bt d.h 4 <;> cases h8 : bt d.h 8 <;> simp [hd'.1, h4, h8, hg, ht]

theorem bars_eq {p : Prp} {d : Dsc} (hd : rightR d = true) (hp : rightP p = true) : barsM p d = barsR p d := by
  obtain ⟨hh, haa, hda, h2, h3, _⟩ := rr1_of hd
  obtain ⟨hq, hqq, hp1, hp2⟩ := rightP_of hp
  obtain ⟨m, hm, em⟩ := nat_of (n := 64) hh.1 hh.2
  obtain ⟨n, hn, en⟩ := nat_of (n := 8) haa.1 haa.2
  obtain ⟨q, hq', eqq⟩ := nat_of (n := 16) hq.1 hq.2
  obtain ⟨f1, f2, f4, f8, f16, f32, f3, f12, f63, _, _⟩ := fin_h m hm
  obtain ⟨a1, a2, a3, a4, a5, a6⟩ := fin_aq n hn q hq'
  rw [← em] at f1 f2 f4 f8 f16 f32 f3 f12
  rw [← en, ← eqq] at a3
  rw [← en] at a1 a2
  rw [← eqq] at a4 a5
  rw [barsM, barsR, f1, f2, f4, f8, f16, f32, f3, f12, a1, a2, a3, a4, a5]
  cases bt p.a 1 <;> simp [Bool.or_assoc]
end Go.Proofs.Ytippimonpdeioaa
