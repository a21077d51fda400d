/- Plain laws: what Read makes of what Quote made. -/
import Derived.Test.YtkbbgnmhfkilgaaLitN
namespace Go.Proofs.Ytkbbgnmhfkilgaa
set_option linter.all false

theorem byI_mid (p r : List UInt8) (x : UInt8) : byI (strL (p ++ x :: r)) p.length = (x.toNat : Int) := by
  unfold byI strL
  simp [List.getD_eq_getElem?_getD]
theorem byI_mid1 (p r : List UInt8) (x y : UInt8) : byI (strL (p ++ x :: y :: r)) (p.length + 1) = (y.toNat : Int) := by
  have := byI_mid (p ++ [x]) r y
  simpa using this
theorem byI_mid2 (p r : List UInt8) (x y z : UInt8) : byI (strL (p ++ x :: y :: z :: r)) (p.length + 2) = (z.toNat : Int) := by
  have := byI_mid (p ++ [x, y]) r z
  simpa using this
theorem byI_mid3 (p r : List UInt8) (x y z u : UInt8) : byI (strL (p ++ x :: y :: z :: u :: r)) (p.length + 3) = (u.toNat : Int) := by
  have := byI_mid (p ++ [x, y, z]) r u
  simpa using this
theorem digI_hexB (n : Nat) (h : n < 16) : digI ((hexB n).toNat : Int) = n := by
  have : ∀ k : Fin 16, digI ((hexB k.val).toNat : Int) = (k.val : Nat) := by decide +kernel
  exact this ⟨n, h⟩
theorem u8n (c d : UInt8) (h : c ≠ d) : ¬ (c.toNat : Int) = (d.toNat : Int) := fun e => h (UInt8.toNat_inj.1 (by omega))

/-- what stands behind the quoted form of a byte is read as that byte -/
theorem one_qb (p r : List UInt8) (c : UInt8) : (byI (strL (p ++ (qb c ++ r))) p.length == 34) = false ∧ (byI (strL (p ++ (qb c ++ r))) p.length == 10 || byI (strL (p ++ (qb c ++ r))) p.length == 13) = false ∧
    oneM (strL (p ++ (qb c ++ r))) p.length = ⟨(c.toNat : Int), ((qb c).length : Nat), 0⟩ := by
  by_cases h10 : c = 10
  · subst h10
    rw [show qb 10 = [92, 110] from rfl]
    simp only [List.cons_append, List.nil_append]
    have e0 := byI_mid p (110 :: r) 92
    have e1 := byI_mid1 p r 92 110
    rw [oneM, e0]
    refine ⟨rfl, rfl, ?_⟩
    rw [if_pos (by decide), escM, if_neg (by rw [strL_size]; simp), escC, e1]
    rfl
  by_cases h9 : c = 9
  · subst h9
    rw [show qb 9 = [92, 116] from rfl]
    simp only [List.cons_append, List.nil_append]
    have e0 := byI_mid p (116 :: r) 92
    have e1 := byI_mid1 p r 92 116
    rw [oneM, e0]
    refine ⟨rfl, rfl, ?_⟩
    rw [if_pos (by decide), escM, if_neg (by rw [strL_size]; simp), escC, e1]
    rfl
  by_cases h13 : c = 13
  · subst h13
    rw [show qb 13 = [92, 114] from rfl]
    simp only [List.cons_append, List.nil_append]
    have e0 := byI_mid p (114 :: r) 92
    have e1 := byI_mid1 p r 92 114
    rw [oneM, e0]
    refine ⟨rfl, rfl, ?_⟩
    rw [if_pos (by decide), escM, if_neg (by rw [strL_size]; simp), escC, e1]
    rfl
  by_cases h0 : c = 0
  · subst h0
    rw [show qb 0 = [92, 48] from rfl]
    simp only [List.cons_append, List.nil_append]
    have e0 := byI_mid p (48 :: r) 92
    have e1 := byI_mid1 p r 92 48
    rw [oneM, e0]
    refine ⟨rfl, rfl, ?_⟩
    rw [if_pos (by decide), escM, if_neg (by rw [strL_size]; simp), escC, e1]
    rfl
  by_cases hq : c = 34 ∨ c = 92
  · rcases hq with rfl | rfl
    · rw [show qb 34 = [92, 34] from rfl]
      simp only [List.cons_append, List.nil_append]
      have e0 := byI_mid p (34 :: r) 92
      have e1 := byI_mid1 p r 92 34
      rw [oneM, e0]
      refine ⟨rfl, rfl, ?_⟩
      rw [if_pos (by decide), escM, if_neg (by rw [strL_size]; simp), escC, e1]
      rfl
    · rw [show qb 92 = [92, 92] from rfl]
      simp only [List.cons_append, List.nil_append]
      have e0 := byI_mid p (92 :: r) 92
      have e1 := byI_mid1 p r 92 92
      rw [oneM, e0]
      refine ⟨rfl, rfl, ?_⟩
      rw [if_pos (by decide), escM, if_neg (by rw [strL_size]; simp), escC, e1]
      rfl
  by_cases hx : c < 32 ∨ 126 < c
  · have hb : qb c = [92, 120, hexB (c.toNat / 16), hexB (c.toNat % 16)] := by
      unfold qb
      rw [if_neg h10, if_neg h9, if_neg h13, if_neg h0, if_neg hq, if_pos hx]
    have hlt := c.toNat_lt
    have d1 := digI_hexB (c.toNat / 16) (by omega)
    have d2 := digI_hexB (c.toNat % 16) (by omega)
    rw [hb]
    simp only [List.cons_append, List.nil_append]
    have e0 := byI_mid p (120 :: hexB (c.toNat / 16) :: hexB (c.toNat % 16) :: r) 92
    have e1 := byI_mid1 p (hexB (c.toNat / 16) :: hexB (c.toNat % 16) :: r) 92 120
    have e2 := byI_mid2 p (hexB (c.toNat % 16) :: r) 92 120 (hexB (c.toNat / 16))
    have e3 := byI_mid3 p r 92 120 (hexB (c.toNat / 16)) (hexB (c.toNat % 16))
    rw [oneM, e0]
    refine ⟨rfl, rfl, ?_⟩
    rw [if_pos (by decide), escM, if_neg (by rw [strL_size]; simp), e1, escC_x _ _ _ rfl, hexM_5 (by rw [strL_size]; simp) (by rw [e2, d1]; omega) (by rw [strL_size]; simp; try omega) (by rw [e3, d2]; omega), e2, e3, d1, d2]
    simp only [One.mk.injEq, List.length_cons, List.length_nil, and_true]
    omega
  · have hb : qb c = [c] := by
      unfold qb
      rw [if_neg h10, if_neg h9, if_neg h13, if_neg h0, if_neg hq, if_neg hx]
    rw [hb]
    simp only [List.cons_append, List.nil_append]
    have e0 := byI_mid p r c
    rw [oneM, e0]
    have n34 := u8_ne c 34 (fun h => hq (.inl h))
    have n92 := u8_ne c 92 (fun h => hq (.inr h))
    have n10 := u8_ne c 10 h10
    have n13 := u8_ne c 13 h13
    refine ⟨n34, by rw [show ((c.toNat : Int) == 10) = false from n10, show ((c.toNat : Int) == 13) = false from n13]; rfl, ?_⟩
    rw [show ((c.toNat : Int) == 92) = false from n92]
    rfl

theorem push_qb (out : List UInt8) (c : UInt8) (n e : Int) : push out ⟨(c.toNat : Int), n, e⟩ = out ++ [c] := by
  unfold push
  simp
theorem read_qbs : ∀ (ls : List UInt8) (p r out : List UInt8) (f : Nat), ls.length < f → out.length + ls.length ≤ 65536 →
    readGo (strL (p ++ (qbs ls ++ 34 :: r))) 34 f p.length out = ⟨out ++ ls, ((p.length + (qbs ls).length + 1 : Nat) : Int), false, 0⟩
  | [], p, r, out, f, hf, hl => by
    obtain ⟨f, rfl⟩ : ∃ g, f = g + 1 := ⟨f - 1, by simp at hf; omega⟩
    rw [show qbs [] ++ 34 :: r = 34 :: r from rfl, readGo_q _ _ _ _ _ (by rw [strL_size]; simp) (by rw [byI_mid]; rfl)]
    simp [qbs]
  | c :: ls, p, r, out, f, hf, hl => by
    obtain ⟨f, rfl⟩ : ∃ g, f = g + 1 := ⟨f - 1, by simp at hf; omega⟩
    have e : qbs (c :: ls) ++ 34 :: r = qb c ++ (qbs ls ++ 34 :: r) := by simp [qbs]
    rw [e]
    obtain ⟨h1, h2, h3⟩ := one_qb p (qbs ls ++ 34 :: r) c
    simp only [List.length_cons] at hf hl
    have hlt : p.length < (strL (p ++ (qb c ++ (qbs ls ++ 34 :: r)))).size := by
      rw [strL_size]
      simp
      omega
    rw [readGo_s _ _ _ _ _ hlt h1 h2 (by rw [h3]) (by omega), h3, push_qb]
    have ih := read_qbs ls (p ++ qb c) r (out ++ [c]) f (by omega) (by simp; omega)
    rw [List.append_assoc, List.length_append] at ih
    simp only [Int.toNat_natCast]
    rw [ih]
    simp [qbs]
    omega
theorem read_qbs_long : ∀ (ls : List UInt8) (p r out : List UInt8) (f : Nat), ls.length < f → out.length ≤ 65536 → 65536 < out.length + ls.length →
    readGo (strL (p ++ (qbs ls ++ 34 :: r))) 34 f p.length out = redE 9
  | [], p, r, out, f, hf, h0, hl => by simp at hl; omega
  | c :: ls, p, r, out, f, hf, h0, hl => by
    obtain ⟨f, rfl⟩ : ∃ g, f = g + 1 := ⟨f - 1, by simp at hf; omega⟩
    have e : qbs (c :: ls) ++ 34 :: r = qb c ++ (qbs ls ++ 34 :: r) := by simp [qbs]
    rw [e]
    obtain ⟨h1, h2, h3⟩ := one_qb p (qbs ls ++ 34 :: r) c
    simp only [List.length_cons] at hf hl
    have hlt : p.length < (strL (p ++ (qb c ++ (qbs ls ++ 34 :: r)))).size := by
      rw [strL_size]
      simp
      omega
    by_cases hfull : 65536 ≤ out.length
    · rw [readGo_l _ _ _ _ _ hlt h1 h2 (by rw [h3]) hfull]
    · rw [readGo_s _ _ _ _ _ hlt h1 h2 (by rw [h3]) hfull, h3, push_qb]
      have ih := read_qbs_long ls (p ++ qb c) r (out ++ [c]) f (by omega) (by simp; omega) (by simp; omega)
      rw [List.append_assoc, List.length_append] at ih
      simp only [Int.toNat_natCast]
      exact ih

theorem qb_pos (c : UInt8) : 1 ≤ (qb c).length := by
  unfold qb
  repeat' split
  all_goals simp
theorem qbs_ge : ∀ l : List UInt8, l.length ≤ (qbs l).length
  | [] => by simp
  | c :: l => by
    have h1 := qbs_ge l
    have h2 := qb_pos c
    simp only [qbs, List.flatMap_cons, List.length_append, List.length_cons] at *
    omega
theorem read_quoted (a ls b : List UInt8) (hl : ls.length ≤ 65536) : readM (strL (a ++ (quoteM ls ++ b))) (a.length : Int) = ⟨ls, ((a.length + (quoteM ls).length : Nat) : Int), false, 0⟩ := by
  have hb : byI (strL (a ++ (quoteM ls ++ b))) a.length = 34 := byI_mid a _ 34
  have hs : (strL (a ++ (quoteM ls ++ b))).size = a.length + ((qbs ls).length + 2 + b.length) := by
    rw [strL_size]
    simp [quoteM]
    omega
  have hg := qbs_ge ls
  rw [readM, if_neg (by omega)]
  simp only [Int.toNat_natCast]
  rw [hb, if_neg (by decide)]
  have h := read_qbs ls (a ++ [34]) b [] (strL (a ++ (quoteM ls ++ b))).size (by omega) (by simpa using hl)
  rw [List.append_assoc, List.length_append] at h
  have e : [34] ++ (qbs ls ++ 34 :: b) = quoteM ls ++ b := by simp [quoteM]
  rw [e] at h
  rw [show (a.length + 1 : Nat) = a.length + [(34 : UInt8)].length from rfl, h]
  simp [quoteM]
  omega
theorem read_quoted_long (ls : List UInt8) (hl : 65536 < ls.length) : readM (strL (quoteM ls)) 0 = redE 9 := by
  have hb : byI (strL (quoteM ls)) 0 = 34 := byI_mid [] _ 34
  have hs : (strL (quoteM ls)).size = (qbs ls).length + 2 := by
    rw [strL_size]
    simp [quoteM]
  have hg := qbs_ge ls
  rw [readM, if_neg (by omega)]
  rw [show (0 : Int).toNat = 0 from rfl, hb, if_neg (by decide)]
  have h := read_qbs_long ls [34] [] [] (strL (quoteM ls)).size (by omega) (by simp) (by simpa using hl)
  exact h
end Go.Proofs.Ytkbbgnmhfkilgaa
