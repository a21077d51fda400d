/- The plain laws of descriptors, as the five statements need them. -/
import Derived.Test.YtippimonpdeioaaDescQ
namespace Go.Proofs.Ytippimonpdeioaa
set_option linter.all false
open Go.RowKit Go.Sort

theorem apply_eq {p : Prp} {d : Dsc} (hd : rightR d = true) (hp : rightP p = true) (has ext : Bool) (k : Val) : applyM p has ext k d = applyR p has ext k d := by
  obtain ⟨hq, _⟩ := rightP_of hp
  obtain ⟨q, hq', eqq⟩ := nat_of (n := 16) hq.1 hq.2
  obtain ⟨_, _, g4, _⟩ := fin_q q hq'
  rw [← eqq] at g4
  rw [applyM, applyR, g4, bars_eq hd hp, change_apply hd hp, change_full hd]

theorem data_eq (v : Val) (a : Int) (ha : i64ok a) : dataM v a = rdatM v a := by
  have e : bits .and .i64 a 7 = if a.tmod 8 < 0 then a.tmod 8 + 8 else a.tmod 8 := by
    have e1 : bits .and .i64 a 7 = a % 8 := by
      show IntKind.wrap .i64 ((BitVec.ofInt 64 a &&& BitVec.ofInt 64 7).toNat : Int) = a % 8
      have e2 : (BitVec.ofInt 64 a &&& BitVec.ofInt 64 7).toNat = (BitVec.ofInt 64 a).toNat % 8 := by
        rw [BitVec.toNat_and]
        exact Nat.and_two_pow_sub_one_eq_mod _ 3
      rw [e2, BitVec.toNat_ofInt]
      have h0 : 0 ≤ a % ((2 ^ 64 : Nat) : Int) := Int.emod_nonneg _ (by decide)
      have h1 : (((a % ((2 ^ 64 : Nat) : Int)).toNat % 8 : Nat) : Int) = a % 8 := by
        have h9 := Int.toNat_of_nonneg h0
        omega
      rw [h1]
      simp only [IntKind.wrap, IntKind.bits, IntKind.signed]
      simp
      omega
    rw [e1]
    rcases Int.lt_or_le a 0 with h | h
    · have h2 : a.tmod 8 = -((-a) % 8) := by
        rw [← Int.tmod_eq_emod_of_nonneg (a := -a) (b := 8) (by omega), Int.neg_tmod]
        omega
      rw [h2]
      split <;> omega
    · rw [Int.tmod_eq_emod_of_nonneg h]
      split <;> omega
  rw [dataM, rdatM, e]

theorem okq_of {p : Prp} {q : Nat} (hp : rightP p = true) (e : p.a = q) : okq q = true := by
  obtain ⟨_, h, _⟩ := rightP_of hp
  rw [okq, ← e, h]
  rfl

/-- What is known of the complete descriptor of a property. -/
theorem of_of {p : Prp} (hp : rightP p = true) :
    (bt p.a 8 = true ∧ ofM p = ⟨60, bits .and .i64 p.a 6, .zero, p.g, p.t⟩ ∧ p.v = .zero ∧ chA3 p (ofM p) = p.a ∧ chA3 .zero' (ofM p) = p.a ∧ pr1 (ofM p) = false ∧ (bt p.a 4 = false → bits .and .i64 (ofM p).a 4 = 0) ∧ bits .and .i64 (bits .xor .i64 (ofM p).a p.a) 2 = 0 ∧ bits .and .i64 p.a 6 = p.a - 8) ∨
    (bt p.a 8 = false ∧ ofM p = ⟨51, bits .and .i64 p.a 7, p.v, .zero, .zero⟩ ∧ (p.g = .zero ∧ p.t = .zero ∧ 0 ≤ p.v.k ∧ p.v.k ≤ 7) ∧ chA3 p (ofM p) = p.a ∧ chA3 .zero' (ofM p) = p.a ∧ pr1 (ofM p) = false ∧ (bt p.a 4 = false → bits .and .i64 (ofM p).a 4 = 0) ∧ bits .and .i64 (bits .xor .i64 (ofM p).a p.a) 2 = 0 ∧ (bt p.a 1 = false → bits .and .i64 (ofM p).a 1 = 0) ∧ bits .and .i64 p.a 7 = p.a) := by
  obtain ⟨hq, _, h1, h2⟩ := rightP_of hp
  obtain ⟨q, hq', eqq⟩ := nat_of (n := 16) hq.1 hq.2
  have f := fin_of q hq'
  obtain ⟨_, _, _, g8⟩ := fin_q q hq'
  rw [ofOk, okq_of hp eqq] at f
  rw [← eqq] at f g8
  simp only [Bool.not_true, Bool.false_or, Bool.and_eq_true] at f
  cases h8 : bt p.a 8
  · right
    have e : ofM p = ⟨51, bits .and .i64 p.a 7, p.v, .zero, .zero⟩ := by simp [ofM, dataM, g8, h8]
    have f' := f.2
    rw [h8] at f'
    simp only [Bool.false_or, Bool.and_eq_true, beq_iff_eq, Bool.not_eq_true', Bool.or_eq_true] at f'
    obtain ⟨⟨⟨⟨⟨⟨f1, f2⟩, f3⟩, f4⟩, f5⟩, f6⟩, f7⟩ := f'
    refine ⟨rfl, e, h2 h8, ?_, ?_, ?_, ?_, ?_, ?_, f7⟩ <;> rw [e]
    · exact f1
    · exact f2
    · exact f3
    · intro h; rcases f4 with f4 | f4
      · rw [h] at f4; cases f4
      · exact f4
    · exact f5
    · intro h; rcases f6 with f6 | f6
      · rw [h] at f6; cases f6
      · exact f6
  · left
    have e : ofM p = ⟨60, bits .and .i64 p.a 6, .zero, p.g, p.t⟩ := by simp [ofM, g8, h8]
    have f' := f.1
    rw [h8] at f'
    simp only [Bool.not_true, Bool.false_or, Bool.and_eq_true, beq_iff_eq, Bool.not_eq_true', Bool.or_eq_true] at f'
    obtain ⟨⟨⟨⟨⟨f1, f2⟩, f3⟩, f4⟩, f5⟩, f7⟩ := f'
    refine ⟨rfl, e, (h1 h8).1, ?_, ?_, ?_, ?_, ?_, f7⟩ <;> rw [e]
    · exact f1
    · exact f2
    · exact f3
    · intro h; rcases f4 with f4 | f4
      · rw [h] at f4; cases f4
      · exact f4
    · exact f5

theorem of_eq {p : Prp} (hp : rightP p = true) : ofM p = rofM p := by
  rcases of_of hp with ⟨h8, e, hv, _, _, _, _, _, f⟩ | ⟨h8, e, _, _, _, _, _, _, _, f⟩
  · rw [e, rofM, h8, f]; rfl
  · rw [e, rofM, h8, f]; rfl

theorem halfM_of {v : Val} (h : halfR v true = true) : halfM v = true := by simpa [halfR, halfM] using h

theorem c60 : hs 60 1 = false ∧ hs 60 2 = false ∧ hs 60 4 = true ∧ hs 60 8 = true ∧ hs 60 16 = true ∧ hs 60 32 = true ∧ hs 60 3 = false ∧ hs 60 12 = true := by decide
theorem c51 : hs 51 1 = true ∧ hs 51 2 = true ∧ hs 51 4 = false ∧ hs 51 8 = false ∧ hs 51 16 = true ∧ hs 51 32 = true ∧ hs 51 3 = true ∧ hs 51 12 = false := by decide

theorem same_right {p : Prp} (hp : rightP p = true) : rightM (ofM p) = true := by
  obtain ⟨_, _, hh, _⟩ := rightP_of hp
  obtain ⟨a1, a2, a3, a4, a5, a6, a7, a8⟩ := c60
  obtain ⟨b1, b2, b3, b4, b5, b6, b7, b8⟩ := c51
  rcases of_of hp with ⟨h8, e, hv, _, _, f3, _⟩ | ⟨h8, e, hv, _, _, f3, _⟩
  · have g := halfM_of (hh h8).2.1
    have t := halfM_of (hh h8).2.2
    rw [rightM, f3, e]
    simp [pr2, pr3, g, t, a1, a3, a4, Val.eq_self]
  · rw [rightM, f3, e]
    have h1 : ¬ p.v.k < 0 := by omega
    have h2 : ¬ 7 < p.v.k := by omega
    simp [pr2, pr3, b1, Val.eq_self, h1, h2, halfM]

theorem same_change {p : Prp} (hp : rightP p = true) : changeM p p.k (ofM p) = p ∧ changeM .zero' p.k (ofM p) = p := by
  obtain ⟨hq, _⟩ := rightP_of hp
  obtain ⟨q, hq', eqq⟩ := nat_of (n := 16) hq.1 hq.2
  obtain ⟨g8, _⟩ := fin_q q hq'
  rw [← eqq] at g8
  have z8 : (bits .and .i64 (Prp.zero').a 8 != 0) = false := by decide
  obtain ⟨a1, a2, a3, a4, a5, a6, a7, a8⟩ := c60
  obtain ⟨b1, b2, b3, b4, b5, b6, b7, b8⟩ := c51
  obtain ⟨pk, pa, pv, pg, pt⟩ := p
  rcases of_of hp with ⟨h8, e, hv, f1, f2, _⟩ | ⟨h8, e, hv, f1, f2, _⟩
  · dsimp only at hv h8 g8 e f1 f2 ⊢
    rw [changeM, changeM, f1, f2, chIs, chIs, g8, z8, h8, e, hv]
    simp [a1, a3, a4, a8]
  · dsimp only at hv h8 g8 e f1 f2 ⊢
    obtain ⟨hg, ht, _⟩ := hv
    rw [changeM, changeM, f1, f2, chIs, chIs, g8, z8, h8, e, hg, ht]
    simp [b1, b3, b4, b7, b8]

theorem same_bars {p : Prp} (hp : rightP p = true) (h4 : bt p.a 4 = false) : barsM p (ofM p) = false := by
  obtain ⟨hq, _⟩ := rightP_of hp
  obtain ⟨q, hq', eqq⟩ := nat_of (n := 16) hq.1 hq.2
  obtain ⟨g8, g1, _, _⟩ := fin_q q hq'
  rw [← eqq] at g8 g1
  obtain ⟨a1, a2, a3, a4, a5, a6, a7, a8⟩ := c60
  obtain ⟨b1, b2, b3, b4, b5, b6, b7, b8⟩ := c51
  rcases of_of hp with ⟨h8, e, hv, _, _, _, f4, f5, _⟩ | ⟨h8, e, hv, _, _, _, f4, f5, f6, _⟩
  · rw [barsM, f4 h4, f5, g8, h8, e]
    simp [a6, a5, a7, a3, a4, Val.eq_self]
  · rw [barsM, f4 h4, f5, g8, h8, g1, e]
    cases h1 : bt p.a 1
    · have := f6 h1
      rw [e] at this
      simp [b8, this, Val.eq_self]
    · simp [b8]

theorem same_apply {p : Prp} (hp : rightP p = true) : applyM p true false p.k (ofM p) = (p, true) ∧ applyM .zero' false true p.k (ofM p) = (p, true) := by
  obtain ⟨hq, _⟩ := rightP_of hp
  obtain ⟨q, hq', eqq⟩ := nat_of (n := 16) hq.1 hq.2
  obtain ⟨_, _, g4, _⟩ := fin_q q hq'
  rw [← eqq] at g4
  obtain ⟨c1, c2⟩ := same_change hp
  refine ⟨?_, by simp [applyM, c2]⟩
  rw [applyM, g4, c1]
  cases h4 : bt p.a 4
  · simp [same_bars hp h4]
  · simp

/-- What an accepted definition does to a property that is not configurable. -/
theorem hard_plain {p : Prp} {d : Dsc} (hd : rightR d = true) (hp : rightP p = true) (h4 : bt p.a 4 = false) (hb : barsM p d = false) :
    ((changeM p p.k d).a = p.a ∨ (changeM p p.k d).a = bits .andNot .i64 p.a 1) ∧ (changeM p p.k d).k = p.k ∧ (bt p.a 1 = false → changeM p p.k d = p) := by
  obtain ⟨hh, haa, hda, h2, h3, _⟩ := rr1_of hd
  obtain ⟨hq, hqq, hp1, hp2⟩ := rightP_of hp
  obtain ⟨m, hm, em⟩ := nat_of (n := 64) hh.1 hh.2
  obtain ⟨n, hn, en⟩ := nat_of (n := 8) haa.1 haa.2
  obtain ⟨q, hq', eqq⟩ := nat_of (n := 16) hq.1 hq.2
  have f := (fin_attr m hm n hn (ok_of hd em en) q hq' (okq_of hp eqq)).2
  rw [← em, ← en, ← eqq] at f
  rw [bars_eq hd hp] at hb
  have hb0 : bars0 p.a d.h d.a = false := by
    unfold barsR at hb
    unfold bars0
    repeat' split at hb
    all_goals simp_all
  obtain ⟨fa, fb⟩ := f h4 hb0
  refine ⟨fa, rfl, fun h1 => ?_⟩
  have eA : chA3 p d = p.a := fb h1
  have hb' := hb
  rw [change_apply hd hp]
  have eA' : (applyT p p.k d).a = p.a := by rw [← change_apply hd hp]; exact eA
  have hdat : dataR d.h = false → bt d.h 1 = false := fun h => by simp only [dataR, Bool.or_eq_false_iff] at h; exact h.1
  have hacc' : accR d.h = false → bt d.h 4 = false ∧ bt d.h 8 = false := fun h => by simpa only [accR, Bool.or_eq_false_iff] using h
  obtain ⟨pk, pa, pv, pg, pt⟩ := p
  unfold barsR at hb
  cases h8 : bt pa 8
  · obtain ⟨hg, ht, _⟩ := hp2 h8
    dsimp only at hg ht h1
    subst hg ht
    cases hac : accR d.h
    · have hi : isAcc ⟨pk, pa, pv, .zero, .zero⟩ d = false := by simp [isAcc, hac, h8]
      simp only [h8, hac, h1, Bool.false_eq_true, if_false] at hb
      have hv : bt d.h 1 = true → d.v = pv := by
        intro h
        have := hb
        repeat' split at this
        all_goals simp_all [Val.eq_iff, Val.eq_false]
      rw [applyT, hi] at eA' ⊢
      simp only [Bool.false_eq_true, if_false] at eA' ⊢
      rw [eA']
      cases hb1 : bt d.h 1
      · simp [pickR, h8]
      · simp [pickR, hv hb1]
    · simp only [h8, hac, Bool.false_eq_true, if_false, if_true] at hb
      repeat' split at hb
      all_goals cases hb
  · obtain ⟨hv, _, _⟩ := hp1 h8
    dsimp only at hv
    subst hv
    have hdd : dataR d.h = false ∧ (bt d.h 4 = true → d.g = pg) ∧ (bt d.h 8 = true → d.t = pt) := by
      simp only [h8, if_true] at hb
      repeat' split at hb
      all_goals simp_all [Val.eq_iff, Val.eq_false]
    obtain ⟨d1, d2, d3⟩ := hdd
    have hi : isAcc ⟨pk, pa, .zero, pg, pt⟩ d = true := by simp [isAcc, h8, d1]
    rw [applyT, hi] at eA' ⊢
    simp only [if_true] at eA' ⊢
    rw [eA']
    cases hb4 : bt d.h 4 <;> cases hb8 : bt d.h 8 <;> simp [pickR, h8, hb4, hb8, d2, d3]
end Go.Proofs.Ytippimonpdeioaa
