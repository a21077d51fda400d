/- Registries: the law FinregOnce, walked. -/
import Derived.Test.YtokoigjcakgpdaaFinX
import Derived.Test.YtokoigjcakgpdaaFinU
namespace Go.Proofs.Ytokoigjcakgpdaa
set_option linter.all false
open Go.RowKit Go.Sort Go.Deep

theorem keep_mem {L : Int → Bool} {es : List E4} {x : Val} (h : x ∈ fl (keepL L es)) : x ∈ fl es ∨ x = Val.zero := by
  unfold fl at h
  obtain ⟨e, he, hx⟩ := List.mem_flatMap.1 h
  obtain ⟨y, hy, hk⟩ := List.mem_filterMap.1 he
  have hin : ∀ z, z = y.1 ∨ z = y.2.1 ∨ z = y.2.2.1 ∨ z = y.2.2.2 → z ∈ fl es := fun z hz => List.mem_flatMap.2 ⟨y, hy, by simp; exact hz⟩
  unfold keepE at hk
  split at hk
  · cases hk
    have ht : tokD L y.2.2.1 = Val.zero ∨ tokD L y.2.2.1 = y.2.2.1 := by
      unfold tokD
      cases (y.2.2.1.k == 7 && !L y.2.2.1.n) <;> simp
    simp only [List.mem_cons, List.not_mem_nil, or_false] at hx
    rcases hx with hx | hx | hx | hx
    · exact .inl (hin _ (.inl hx))
    · exact .inl (hin _ (.inr (.inl hx)))
    · rcases ht with ht | ht
      · exact .inr (hx.trans ht)
      · exact .inl (hin _ (.inr (.inr (.inl (hx.trans ht)))))
    · exact .inl (hin _ (.inr (.inr (.inr hx))))
  · cases hk
theorem rem_mem {tk : Val} {es : List E4} {x : Val} (h : x ∈ fl (remL tk es)) : x ∈ fl es := by
  obtain ⟨e, he, hx⟩ := List.mem_flatMap.1 h
  exact List.mem_flatMap.2 ⟨e, (List.mem_filter.1 he).1, hx⟩
theorem regD_ok {c : CellD} {v0 : Val} {es es' : List E4} (hc : c.ok) (hm : c.mo = v0 :: fl es) (h : ∀ x ∈ fl es', x ∈ fl es ∨ x = Val.zero) : (regD c v0 es').ok := by
  refine ⟨hc.1, hc.2.1, hc.2.2.1, hc.2.2.2.1, hc.2.2.2.2.1, fun x hx => ?_⟩
  have hin : ∀ y, y = v0 ∨ y ∈ fl es → y.ok := fun y hy => hc.2.2.2.2.2 y (by rw [hm]; simpa using hy)
  rcases List.mem_cons.1 hx with h1 | h1
  · exact hin x (.inl h1)
  · rcases h x h1 with h2 | h2
    · exact hin x (.inr h2)
    · subst h2; exact ⟨⟨by decide, by decide⟩, ⟨by decide, by decide⟩, Nat.zero_le _⟩
/-- all that FinregOnce leans on -/
structure OnceF (c : CellD) (live : List Int) (tk : Val) : Prop where
  okD : (cleanC c live).ok
  okG : (remC c tk).ok
  lenD : (cleanC c live).sl.length ≤ 100 ∧ (cleanC c live).mo.length ≤ 400
  lenG : (remC c tk).sl.length ≤ 100 ∧ (remC c tk).mo.length ≤ 400
  isD : isB (cleanC c live) = true
  isG : isB (remC c tk) = true
  cc : cleanC (cleanC c live) live = cleanC c live
  ct : cleanT (cleanC c live) live = []
  cnt : 3 * lenF (cleanC c live) + (cleanT c live).length = 3 * lenF c
  rr : remC (remC c tk) tk = remC c tk
  rg : remG (remC c tk) tk = false
  lt : remG c tk = decide (0 < lenF c - lenF (remC c tk))
  le : lenF (remC c tk) ≤ lenF c
  all : (cleanT (remC c tk) []).length = 3 * lenF (remC c tk)
  bnd : lenF c ≤ 100
theorem once_facts {c : CellD} (live : List Int) (tk : Val) (hc : c.ok) (h : isB c = true) (ls : c.sl.length ≤ 100 ∧ c.mo.length ≤ 400) : OnceF c live tk := by
  obtain ⟨es, hm, h1, h2⟩ := reg_view h
  have he : es.length ≤ 100 := by omega
  obtain ⟨c1, c2⟩ := clean_reg live h hm
  obtain ⟨r1, r2⟩ := rem_reg tk h hm
  have kl := keep_len (inB live) es
  have rl := rem_len tk es
  have iD : isB (regD c (vAt c.mo 0) (keepL (inB live) es)) = true := isB_with h hm (by omega) (by omega) (keep_ok _ _)
  have iG : isB (regD c (vAt c.mo 0) (remL tk es)) = true := isB_with h hm (by omega) (by omega) (rem_ok _ _)
  have lc : lenF c = es.length := by unfold lenF; rw [if_pos h, h1]
  have lD := lenF_reg iD
  have lG := lenF_reg iG
  have vD : vAt (regD c (vAt c.mo 0) (keepL (inB live) es)).mo 0 = vAt c.mo 0 := vAt_zero _ _
  have vG : vAt (regD c (vAt c.mo 0) (remL tk es)).mo 0 = vAt c.mo 0 := vAt_zero _ _
  obtain ⟨cc1, cc2⟩ := clean_reg live iD (es := keepL (inB live) es) (by rw [vD])
  obtain ⟨cn1, cn2⟩ := clean_reg [] iG (es := remL tk es) (by rw [vG])
  obtain ⟨rr1, rr2⟩ := rem_reg tk iG (es := remL tk es) (by rw [vG])
  rw [vD] at cc1 cc2
  rw [vG] at cn1 cn2 rr1
  have cnt := keep_count (inB live) (vAt c.mo 0) es
  exact {
    okD := by rw [c1]; exact regD_ok hc hm fun x hx => keep_mem hx
    okG := by rw [r1]; exact regD_ok hc hm fun x hx => .inl (rem_mem hx)
    lenD := by rw [c1]; exact ⟨ls.1, by show (vAt c.mo 0 :: fl (keepL (inB live) es)).length ≤ 400; rw [List.length_cons, fl_len]; omega⟩
    lenG := by rw [r1]; exact ⟨ls.1, by show (vAt c.mo 0 :: fl (remL tk es)).length ≤ 400; rw [List.length_cons, fl_len]; omega⟩
    isD := by rw [c1]; exact iD
    isG := by rw [r1]; exact iG
    cc := by rw [c1, cc1, keep_idem]
    ct := by rw [c1, cc2, told_keep]
    cnt := by rw [c1, c2, lD, lc]; omega
    rr := by rw [r1, rr1, rem_idem]
    rg := by rw [r1, rr2, rem_none]
    lt := by rw [r2, r1, lc, lG]; exact rem_less tk es
    le := by rw [r1, lc, lG]; exact rl
    all := by rw [r1, cn2, lG]; exact told_all _ _
    bnd := by rw [lc]; exact he }
end Go.Proofs.Ytokoigjcakgpdaa
