/- Weak maps: what the laws say of them. No program here. -/
import Derived.Test.YtdikdkllbhanfaaWkU
import Derived.Test.YtdikdkllbhanfaaWkT
namespace Go.Proofs.Ytdikdkllbhanfaa
set_option linter.all false
open Go.RowKit Go.Sort Go.Deep

def valP : Option PV → Val | some p => p.2 | none => Val.zero
theorem getV_ent {mo : List Val} {m : Nat} (o : Option (Fin m)) : getV mo o = valP (o.map (ent mo)) := by cases o <;> rfl
theorem map_isSome {α β : Type} (f : α → β) (o : Option α) : (o.map f).isSome = o.isSome := by cases o <;> rfl
theorem isW_ps {c : CellD} (h : isW c = true) : ∃ ps : List PV, c.mo = fl ps ∧ c.mo.length / 2 = ps.length ∧ baseB c = true ∧ (fl ps).length ≤ 1048576 ∧ ps.all okP = true := by
  obtain ⟨m, hm, _, _⟩ := isW_len h
  obtain ⟨ps, h1, h2⟩ := cut2 m c.mo hm
  have := h
  rw [isW_fl h2, Bool.and_eq_true, Bool.and_eq_true, decide_eq_true_iff] at this
  exact ⟨ps, h2, by omega, this.1, this.2.1, this.2.2⟩
theorem isW_of {c : CellD} {ps : List PV} (h : c.mo = fl ps) (hb : baseB c = true) (hl : (fl ps).length ≤ 1048576) (ho : ps.all okP = true) : isW c = true := by
  rw [isW_fl h, hb, ho, decide_eq_true hl]
  rfl
theorem getC_ps {c : CellD} {ps : List PV} (hb : isW c = true) (h : c.mo = fl ps) (key : Val) : getC c key = valP (ps.find? (hasP key)) ∧ getB c key = (ps.find? (hasP key)).isSome := by
  have hl : c.mo.length / 2 = ps.length := by rw [h, fl_len]; omega
  unfold getC getB
  rw [if_pos hb, hb, hl, h, ← getW_fl, getV_ent, map_isSome, Bool.true_and]
  exact ⟨rfl, rfl⟩
theorem lenW_ps {c : CellD} {ps : List PV} (hb : isW c = true) (h : c.mo = fl ps) : lenW c = ps.length := by
  unfold lenW
  rw [if_pos hb, h, fl_len]
  omega
theorem setC_ps {c : CellD} {ps : List PV} {key v : Val} (hb : isW c = true) (ho : okSet key v = true) (h : c.mo = fl ps) : setC c key v = ⟨c.k, c.sh, c.fl, c.ag, c.sl, fl (setP key v ps)⟩ := by
  unfold setC
  rw [hb, ho, h, setL_fl]
  rfl
theorem keptL_fl (p : Val → Bool) (ps : List PV) : keptL p (fl ps) = fl (ps.filter fun q => p q.1) := by
  unfold keptL
  rw [show (fl ps).length / 2 = ps.length by rw [fl_len]; omega]
  exact keptW_fl p ps
theorem delC_ps {c : CellD} {ps : List PV} (key : Val) (hb : isW c = true) (h : c.mo = fl ps) : delC c key = ⟨c.k, c.sh, c.fl, c.ag, c.sl, fl (ps.filter fun q => !q.1.eq key)⟩ := by
  unfold delC
  rw [if_pos hb, h, keptL_fl]
theorem cleanC_ps {c : CellD} {ps : List PV} (live : List Int) (hb : isW c = true) (h : c.mo = fl ps) : cleanC c live = ⟨c.k, c.sh, c.fl, c.ag, c.sl, fl (ps.filter fun q => inB live q.1.n)⟩ := by
  unfold cleanC
  rw [if_pos hb, h, keptL_fl]
theorem base_mo {c : CellD} (h : baseB c = true) (mo : List Val) : baseB ⟨c.k, c.sh, c.fl, c.ag, c.sl, mo⟩ = true := h
theorem mem_setP {key v : Val} {q : PV} : ∀ {ps : List PV}, q ∈ setP key v ps → q = (key, v) ∨ q ∈ ps
  | [], h => .inl (List.mem_singleton.1 h)
  | p :: ps, h => by
    unfold setP at h
    cases he : p.1.eq key
    · simp only [he, if_false, Bool.false_eq_true, List.mem_cons] at h
      rcases h with h | h
      · exact .inr (by rw [h]; exact List.mem_cons_self ..)
      · exact (mem_setP h).imp id (List.mem_cons_of_mem _)
    · simp only [he, if_true, List.mem_cons] at h
      rcases h with h | h
      · exact .inl (by rw [h, Val.eq_iff.1 he])
      · exact .inr (List.mem_cons_of_mem _ h)
theorem setP_len {key v : Val} : ∀ ps : List PV, (setP key v ps).length ≤ ps.length + 1
  | [] => by simp [setP]
  | p :: ps => by
    unfold setP
    have := setP_len (key := key) (v := v) ps
    split <;> simp <;> omega
theorem okP_key {key v : Val} (h : okSet key v = true) : okP (key, v) = true := by
  unfold okSet at h
  unfold okP
  cases h1 : key.k == 7 <;> cases h2 : mayB key <;> cases h3 : mayB v <;> cases h4 : v.k == 8 <;> simp_all
theorem setP_ok {key v : Val} {ps : List PV} (h : ps.all okP = true) (ho : okSet key v = true) : (setP key v ps).all okP = true := by
  rw [List.all_eq_true] at h ⊢
  intro q hq
  rcases mem_setP hq with rfl | hq
  · exact okP_key ho
  · exact h q hq
theorem filter_ok {ps : List PV} (p : PV → Bool) (h : ps.all okP = true) : (ps.filter p).all okP = true := by
  rw [List.all_eq_true] at h ⊢
  exact fun q hq => h q (List.mem_filter.1 hq).1
theorem isW_set {c : CellD} {key v : Val} (hb : isW c = true) (ho : okSet key v = true) (hl : c.mo.length + 2 ≤ 1048576) : isW (setC c key v) = true := by
  obtain ⟨ps, h, hlen, hbase, hle, hok⟩ := isW_ps hb
  rw [setC_ps hb ho h]
  refine isW_of (ps := setP key v ps) rfl (base_mo hbase _) ?_ (setP_ok hok ho)
  rw [h, fl_len] at hl
  have := setP_len (key := key) (v := v) ps
  rw [fl_len]
  omega
theorem isW_del {c : CellD} {key : Val} (hb : isW c = true) : isW (delC c key) = true := by
  obtain ⟨ps, h, hlen, hbase, hle, hok⟩ := isW_ps hb
  rw [delC_ps key hb h]
  refine isW_of (ps := ps.filter fun q => !q.1.eq key) rfl (base_mo hbase _) ?_ (filter_ok _ hok)
  have := List.length_filter_le (fun q : PV => !q.1.eq key) ps
  rw [fl_len] at hle ⊢
  omega
theorem isW_clean {c : CellD} {live : List Int} (hb : isW c = true) : isW (cleanC c live) = true := by
  obtain ⟨ps, h, hlen, hbase, hle, hok⟩ := isW_ps hb
  rw [cleanC_ps live hb h]
  refine isW_of (ps := ps.filter fun q => inB live q.1.n) rfl (base_mo hbase _) ?_ (filter_ok _ hok)
  have := List.length_filter_le (fun q : PV => inB live q.1.n) ps
  rw [fl_len] at hle ⊢
  omega
theorem right_of_isW {c : CellD} (h : isW c = true) : rightB c = true := by
  unfold isW at h
  rw [Bool.and_eq_true] at h
  exact h.2
theorem isW_zero : isW zeroC = false := by first | rfl | kernel_rfl | decide +kernel
/-! ### the law on look-ups -/
theorem tells {c : CellD} {key v : Val} (hb : isW c = true) (ho : okSet key v = true) (hl : c.mo.length + 2 ≤ 1048576) : getC (setC c key v) key = v ∧ getB (setC c key v) key = true ∧ rightB (setC c key v) = true := by
  obtain ⟨ps, h, _⟩ := isW_ps hb
  have hs := isW_set hb ho hl
  have e := setC_ps (key := key) (v := v) hb ho h
  have := getC_ps (ps := setP key v ps) hs (by rw [e]) key
  rw [find_set] at this
  exact ⟨this.1, this.2, right_of_isW hs⟩
theorem del_get (c : CellD) (key : Val) : delB c key = getB c key := by
  unfold delB
  cases hb : isW c
  · simp [getB, hb]
  · obtain ⟨ps, h, _⟩ := isW_ps hb
    rw [(getC_ps hb h key).2, h, keptL_fl, fl_len, fl_len, ← del_some, Bool.true_and]
    exact decide_eq_decide.2 (by omega)
/-! ### the law on cleaning -/
theorem cleans (c : CellD) (live : List Int) : cleanC (cleanC c live) live = cleanC c live ∧ opC (cleanC c live) live = opC c live := by
  cases hb : isW c
  · have e : cleanC c live = zeroC := by simp [cleanC, hb]
    have e2 : opC c live = [] := by simp [opC, hb]
    rw [e, e2]
    exact ⟨by simp [cleanC, isW_zero], by simp [opC, isW_zero]⟩
  · obtain ⟨ps, h, _⟩ := isW_ps hb
    have hc := isW_clean (live := live) hb
    have e := cleanC_ps live hb h
    have hm : (cleanC c live).mo = fl (ps.filter fun q => inB live q.1.n) := by rw [e]
    refine ⟨?_, ?_⟩
    · rw [cleanC_ps live hc hm, List.filter_filter]
      simp only [Bool.and_self]
      rw [e]
    · unfold opC
      rw [if_pos hb, if_pos hc, hm, h, fl_len, fl_len, show 2 * (ps.filter fun q => inB live q.1.n).length / 2 = (ps.filter fun q => inB live q.1.n).length by omega, show 2 * ps.length / 2 = ps.length by omega, opL_fl, opL_fl, List.filter_filter]
      congr 1
      apply List.filter_congr
      intro q _
      cases inB live q.1.n <;> cases leadsB q.2 <;> rfl
/-! ### the law on moves -/
theorem moves {c : CellD} {key v : Val} (hb : isW c = true) (ho : okSet key v = true) (hl : c.mo.length + 2 ≤ 1048576) :
    lenW (setC (delC c key) key v) = lenW (delC c key) + 1 ∧ (setC (delC c key) key v).mo = (delC c key).mo ++ [key, v] ∧
    ∀ o, key.eq o = false → getC (setC (delC c key) key v) o = getC c o ∧ getB (setC (delC c key) key v) o = getB c o := by
  obtain ⟨ps, h, _⟩ := isW_ps hb
  have hd := isW_del (key := key) hb
  have e := delC_ps key hb h
  have hm : (delC c key).mo = fl (ps.filter fun q => !q.1.eq key) := by rw [e]
  have hl2 : (delC c key).mo.length + 2 ≤ 1048576 := by
    have := List.length_filter_le (fun q : PV => !q.1.eq key) ps
    rw [hm, fl_len]
    rw [h, fl_len] at hl
    omega
  have hs := isW_set hd ho hl2
  have es := setC_ps (key := key) (v := v) hd ho hm
  have ep := setP_none key v _ (find_del key ps)
  have hx : (setC (delC c key) key v).mo = fl ((ps.filter fun q => !q.1.eq key) ++ [(key, v)]) := by rw [es, ← ep]
  refine ⟨?_, ?_, fun o hko => ?_⟩
  · rw [lenW_ps hs hx, lenW_ps hd hm, List.length_append]
    rfl
  · rw [hx, hm, fl_append]
    rfl
  · have g1 := getC_ps hs hx o
    have g2 := getC_ps hb h o
    rw [← ep, find_set_other key v o hko, find_del_other key o hko] at g1
    exact ⟨g1.1.trans g2.1.symm, g1.2.trans g2.2.symm⟩
/-! ### what a contract asks -/
theorem fl_mem {q : Val} {ps : List PV} (h : q ∈ fl ps) : ∃ p ∈ ps, q = p.1 ∨ q = p.2 := by
  obtain ⟨p, hp, hq⟩ := List.mem_flatMap.1 h
  simp only [List.mem_cons, List.not_mem_nil, or_false] at hq
  exact ⟨p, hp, hq⟩
theorem mem_fl {p : PV} {ps : List PV} (h : p ∈ ps) : p.1 ∈ fl ps ∧ p.2 ∈ fl ps :=
  ⟨List.mem_flatMap.2 ⟨p, h, by simp⟩, List.mem_flatMap.2 ⟨p, h, by simp⟩⟩
theorem ok_zero : zeroC.ok := ⟨(⟨by decide, by decide⟩ : i64ok 0), (⟨by decide, by decide⟩ : i64ok 0), (⟨by decide, by decide⟩ : i64ok 0), (⟨by decide, by decide⟩ : i64ok 0), fun x hx => (by cases hx), fun x hx => (by cases hx)⟩
theorem set_ok {c : CellD} {key v : Val} (hc : c.ok) (hk : key.ok) (hv : v.ok) : (setC c key v).ok ∧ (setC c key v).sl.length ≤ c.sl.length ∧ (setC c key v).mo.length ≤ c.mo.length + 2 := by
  cases hb : isW c && okSet key v
  · have e : setC c key v = zeroC := by unfold setC; rw [hb]; rfl
    rw [e]
    exact ⟨ok_zero, Nat.zero_le _, Nat.zero_le _⟩
  · rw [Bool.and_eq_true] at hb
    obtain ⟨ps, h, _⟩ := isW_ps hb.1
    rw [setC_ps hb.1 hb.2 h]
    refine ⟨⟨hc.1, hc.2.1, hc.2.2.1, hc.2.2.2.1, hc.2.2.2.2.1, fun x hx => ?_⟩, Nat.le_refl _, ?_⟩
    · obtain ⟨p, hp, hx⟩ := fl_mem hx
      have hmo := hc.2.2.2.2.2
      rw [h] at hmo
      rcases mem_setP hp with rfl | hp
      · rcases hx with rfl | rfl
        · exact hk
        · exact hv
      · rcases hx with rfl | rfl
        · exact hmo _ (mem_fl hp).1
        · exact hmo _ (mem_fl hp).2
    · have := setP_len (key := key) (v := v) ps
      rw [h, fl_len, fl_len]
      omega
theorem sub_ok {c : CellD} (p : Val → Bool) (D : CellD) (hc : c.ok) (hD : D = if isW c then ⟨c.k, c.sh, c.fl, c.ag, c.sl, keptL p c.mo⟩ else zeroC) : D.ok ∧ D.sl.length ≤ c.sl.length ∧ D.mo.length ≤ c.mo.length := by
  subst hD
  cases hb : isW c
  · exact ⟨ok_zero, Nat.zero_le _, Nat.zero_le _⟩
  · obtain ⟨ps, h, _⟩ := isW_ps hb
    rw [if_pos rfl, h, keptL_fl]
    refine ⟨⟨hc.1, hc.2.1, hc.2.2.1, hc.2.2.2.1, hc.2.2.2.2.1, fun x hx => ?_⟩, Nat.le_refl _, ?_⟩
    · obtain ⟨q, hq, hx⟩ := fl_mem hx
      have hmo := hc.2.2.2.2.2
      rw [h] at hmo
      have hq := (List.mem_filter.1 hq).1
      rcases hx with rfl | rfl
      · exact hmo _ (mem_fl hq).1
      · exact hmo _ (mem_fl hq).2
    · have := List.length_filter_le (fun q : PV => p q.1) ps
      show (fl (ps.filter fun q => p q.1)).length ≤ _
      rw [fl_len, fl_len]
      omega
theorem del_ok {c : CellD} (key : Val) (hc : c.ok) : (delC c key).ok ∧ (delC c key).sl.length ≤ c.sl.length ∧ (delC c key).mo.length ≤ c.mo.length := sub_ok _ _ hc rfl
theorem clean_ok {c : CellD} (live : List Int) (hc : c.ok) : (cleanC c live).ok ∧ (cleanC c live).sl.length ≤ c.sl.length ∧ (cleanC c live).mo.length ≤ c.mo.length := sub_ok _ _ hc rfl
theorem few_ok {c : CellD} (hc : c.ok) : (fewC c).ok ∧ (fewC c).sl.length ≤ 60 ∧ (fewC c).mo.length ≤ 120 :=
  ⟨⟨hc.1, hc.2.1, hc.2.2.1, hc.2.2.2.1, fun x hx => hc.2.2.2.2.1 x (List.mem_of_mem_take hx), fun x hx => hc.2.2.2.2.2 x (List.mem_of_mem_take hx)⟩, by show (c.sl.take 60).length ≤ _; rw [List.length_take]; omega, by show (c.mo.take 120).length ≤ _; rw [List.length_take]; omega⟩
theorem fit_of {c : CellD} (h1 : c.sl.length ≤ 1000) (h2 : c.mo.length ≤ 1000) : c.fit := by unfold CellD.fit fitV; omega
end Go.Proofs.Ytdikdkllbhanfaa
