/- Registries: what FinregLast leans on. -/
import Derived.Test.YtokoigjcakgpdaaFinY
namespace Go.Proofs.Ytokoigjcakgpdaa
set_option linter.all false
open Go.RowKit Go.Sort Go.Deep

theorem fl_snoc (es : List E4) (e : E4) : fl (es ++ [e]) = fl es ++ [e.1, e.2.1, e.2.2.1, e.2.2.2] := by rw [fl_append]; rfl
/-- all that FinregLast leans on -/
structure LastF (c : CellD) (live : List Int) (t : Int) (h : Val) (s : Int) : Prop where
  okD : (addC c (objV t) h Val.zero s).ok
  lenD : (addC c (objV t) h Val.zero s).sl.length ≤ 100 ∧ (addC c (objV t) h Val.zero s).mo.length ≤ 404
  okX : (cleanC (addC c (objV t) h Val.zero s) live).ok
  lenX : (cleanC (addC c (objV t) h Val.zero s) live).mo.length ≤ 1000
  c0 : 0 < c.mo.length
  yes : inB live t = true → cleanT (addC c (objV t) h Val.zero s) live = cleanT c live ∧ isB (cleanC (addC c (objV t) h Val.zero s) live) = true ∧ 0 < lenF (cleanC (addC c (objV t) h Val.zero s) live) ∧
    4 ≤ (cleanC (addC c (objV t) h Val.zero s) live).mo.length ∧ vAt (cleanC (addC c (objV t) h Val.zero s) live).mo ((cleanC (addC c (objV t) h Val.zero s) live).mo.length - 3) = h
  no : inB live t = false → cleanT (addC c (objV t) h Val.zero s) live = cleanT c live ++ [vAt c.mo 0, h, numV s]
  lenT : (cleanT c live).length ≤ 400
theorem vAt_end (l : List Val) (a b c d : Val) : vAt (l ++ [a, b, c, d]) ((l ++ [a, b, c, d]).length - 3) = b := by
  have e : (l ++ [a, b, c, d]).length - 3 = l.length + 1 := by simp
  unfold vAt
  rw [e, List.getElem?_append_right (by omega)]
  have : l.length + 1 - l.length = 1 := by omega
  rw [this]
  rfl
theorem last_facts {c : CellD} (live : List Int) (t : Int) (h : Val) (s : Int) (hc : c.ok) (ho : h.ok) (ht : i64ok t) (hs : i64ok s) (hi : isB c = true) (ha : okAdd (objV t) h Val.zero s = true) (ls : c.sl.length ≤ 100 ∧ c.mo.length ≤ 400) : LastF c live t h s := by
  obtain ⟨es, hm, h1, h2⟩ := reg_view hi
  have he : es.length ≤ 100 := by omega
  obtain ⟨q1, q2, q3, q4, q5, q6, q7⟩ := okAdd_yes ha
  have hD : addC c (objV t) h Val.zero s = regD c (vAt c.mo 0) (es ++ [(objV t, h, Val.zero, numV s)]) := by
    unfold addC
    rw [hi, ha, if_pos (by rfl)]
    unfold regD
    rw [fl_snoc, ← List.cons_append, ← hm]
  have hn : eOK (objV t, h, Val.zero, numV s) = true := by
    simp only [List.all_cons, List.all_nil, Bool.and_true, Bool.and_eq_true] at q3
    unfold eOK entB eMay
    have m1 : mayB (numV s) = true := by simp [mayB]; omega
    have m2 : numB (numV s) 0 9007199254740992 = true := by simp [numB]; omega
    have m3 : orNoneB Val.zero 7 = true := rfl
    simp only [q3.1, q3.2.1, q3.2.2, m1, m2, m3, q4]
    rfl
  have hlen : (es ++ [(objV t, h, Val.zero, numV s)]).length = es.length + 1 := by simp
  have iD : isB (regD c (vAt c.mo 0) (es ++ [(objV t, h, Val.zero, numV s)])) = true := isB_with hi hm (by omega) (by omega) (fun q => by rw [List.all_append, q]; simp [hn])
  have vD : vAt (regD c (vAt c.mo 0) (es ++ [(objV t, h, Val.zero, numV s)])).mo 0 = vAt c.mo 0 := vAt_zero _ _
  obtain ⟨d1, d2⟩ := clean_reg live iD (es := es ++ [(objV t, h, Val.zero, numV s)]) (by rw [vD])
  rw [vD] at d1 d2
  obtain ⟨c1, c2⟩ := clean_reg live hi hm
  have kl := keep_len (inB live) (es ++ [(objV t, h, Val.zero, numV s)])
  have iX : isB (regD c (vAt c.mo 0) (keepL (inB live) (es ++ [(objV t, h, Val.zero, numV s)]))) = true := isB_with (c := regD c (vAt c.mo 0) (es ++ [(objV t, h, Val.zero, numV s)])) iD rfl (by omega) (by omega) (keep_ok _ _)
  have okD : (regD c (vAt c.mo 0) (es ++ [(objV t, h, Val.zero, numV s)])).ok := by
    refine ⟨hc.1, hc.2.1, hc.2.2.1, hc.2.2.2.1, hc.2.2.2.2.1, fun x hx => ?_⟩
    have hx' : x ∈ vAt c.mo 0 :: (fl es ++ [objV t, h, Val.zero, numV s]) := by rw [← fl_snoc es (objV t, h, Val.zero, numV s)]; exact hx
    rw [← List.cons_append, ← hm, List.mem_append] at hx'
    rcases hx' with hx | hx
    · exact hc.2.2.2.2.2 x hx
    · simp only [List.mem_cons, List.not_mem_nil, or_false] at hx
      rcases hx with rfl | rfl | rfl | rfl
      · exact ⟨(⟨by decide, by decide⟩ : i64ok 7), ht, Nat.zero_le _⟩
      · exact ho
      · exact ⟨⟨by decide, by decide⟩, ⟨by decide, by decide⟩, Nat.zero_le _⟩
      · exact ⟨(⟨by decide, by decide⟩ : i64ok 3), hs, Nat.zero_le _⟩
  have cnt := keep_count (inB live) (vAt c.mo 0) es
  exact {
    okD := by rw [hD]; exact okD
    lenD := by rw [hD]; exact ⟨ls.1, by show (vAt c.mo 0 :: fl _).length ≤ 404; rw [List.length_cons, fl_len]; omega⟩
    okX := by rw [hD, d1]; exact regD_ok (c := regD c (vAt c.mo 0) (es ++ [(objV t, h, Val.zero, numV s)])) okD rfl (fun x hx => keep_mem hx)
    lenX := by rw [hD, d1]; show (vAt c.mo 0 :: fl _).length ≤ 1000; rw [List.length_cons, fl_len]; omega
    c0 := by rw [hm]; simp
    yes := fun hl => by
      have k1 : keepL (inB live) (es ++ [(objV t, h, Val.zero, numV s)]) = keepL (inB live) es ++ [(objV t, h, tokD (inB live) Val.zero, numV s)] := keep_append _ _ _ hl
      have l1 := lenF_reg iX
      rw [k1] at l1 iX
      rw [hD, d1, d2, c2, told_append, k1]
      refine ⟨by simp [hl], iX, by rw [l1]; simp, ?_, ?_⟩
      · show 4 ≤ (vAt c.mo 0 :: fl _).length
        rw [List.length_cons, fl_len]; simp; omega
      · show vAt (vAt c.mo 0 :: fl _) ((vAt c.mo 0 :: fl _).length - 3) = h
        rw [fl_snoc, ← List.cons_append]
        exact vAt_end _ _ _ _ _
    no := fun hl => by rw [hD, d2, c2, told_append]; simp [hl]
    lenT := by rw [c2]; omega }
end Go.Proofs.Ytokoigjcakgpdaa
