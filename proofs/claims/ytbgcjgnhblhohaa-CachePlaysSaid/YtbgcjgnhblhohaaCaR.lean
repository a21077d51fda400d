/- Inline caches: the reference's with. -/
import Derived.Test.YtbgcjgnhblhohaaCaQ
namespace Go.Proofs.Ytbgcjgnhblhohaa
set_option linter.all false
open Go.RowKit Go.Sort Go.Deep Go.Shelf

theorem wp_post {P : Program} {fn : Func} {R : Ending → World → Prop} {e : Exit} {a : Act} {w : World} (C : World → Prop) (hC : C w) (h : ∀ w', C w' → bodyPost P fn R e a w') : bodyPost P fn R e a w := h w hC
theorem flat_set2 {rs : List SiteR} {j : Nat} (r : SiteR) (hj : j < rs.length) : flat SiteR.cs (rs.set j r) = ((flat SiteR.cs rs).set (j * 2) (.bool r.many)).set (j * 2 + 1) r.lv := by
  induction rs generalizing j with
  | nil => simp at hj
  | cons a rs ih =>
    cases j with
    | zero => simp [flat]
    | succ j =>
      have := ih (j := j) (by simpa using hj)
      simp only [flat, List.flatMap_cons, List.set_cons_succ] at this ⊢
      rw [this, show (j + 1) * 2 = j * 2 + 1 + 1 by omega]
      rfl
theorem fines {w : World} {rs : List SiteR} {l : List SiteD} (h2 : rs.length = l.length) (h3 : ∀ (i : Nat) (r : SiteR) (s : SiteD), rs[i]? = some r → l[i]? = some s → HoldsR w r s) : ∀ r ∈ rs, r.fine := fun r hr => by
  obtain ⟨i, hi, rfl⟩ := List.getElem_of_mem hr
  obtain ⟨A, n, e, _⟩ := (h3 i _ _ (List.getElem?_eq_getElem hi) (List.getElem?_eq_getElem (by omega))).2.1.form
  exact ⟨A, _, n, e⟩
def toF (rs : List SiteR) (h : ∀ r ∈ rs, r.fine) : List SiteF := rs.pmap (fun r hr => ⟨r, hr⟩) h
theorem toF_len (rs : List SiteR) (h : ∀ r ∈ rs, r.fine) : (toF rs h).length = rs.length := by simp [toF]
theorem toF_flat (rs : List SiteR) (h : ∀ r ∈ rs, r.fine) : flat (fun r : SiteF => r.1.cs) (toF rs h) = flat SiteR.cs rs := by
  unfold flat toF
  rw [List.flatMap_def, List.map_pmap, List.flatMap_def]
  congr 1
  apply List.ext_getElem
  · simp
  · intro i h1 h2
    simp
theorem toF_sl {w : World} {v : Value} {rs : List SiteR} (h : ∀ r ∈ rs, r.fine) (hs : SlOf w 2 SiteR.cs v rs) : SlOf w 2 (fun r : SiteF => r.1.cs) v (toF rs h) := by
  obtain ⟨hm, A, cap, e, hc, hx⟩ := hs
  refine ⟨by rw [toF_len]; exact hm, A, cap, by rw [toF_len]; exact e, by rw [toF_len]; exact hc, fun h0 => ?_⟩
  obtain ⟨b, off, hA, hb, hx⟩ := hx (by rw [toF_len] at h0; exact h0)
  refine ⟨b, off, hA, hb, fun i x hi j u hu => hx i x.1 ?_ j u hu⟩
  obtain ⟨hlt, rfl⟩ := List.getElem?_eq_some_iff.1 hi
  rw [toF_len] at hlt
  rw [List.getElem?_eq_getElem hlt]
  simp [toF]
theorem cells4 {w : World} {b : Nat} {T : TypeId} {x y z u : Value} (h : w.heap[b]? = some (.cells #[x, y, z, u] T)) : (w.cell? ⟨b, 0, none⟩ = some x ∧ w.cell? ⟨b, 1, none⟩ = some y ∧ w.cell? ⟨b, 2, none⟩ = some z ∧ w.cell? ⟨b, 3, none⟩ = some u) ∧
    w.frozen? ⟨b, 0, none⟩ = false ∧ w.frozen? ⟨b, 1, none⟩ = false ∧ w.frozen? ⟨b, 2, none⟩ = false ∧ w.frozen? ⟨b, 3, none⟩ = false := by
  refine ⟨?_, ?_⟩
  · and_intros <;> (rw [cell_of_row w b _ _ _ _ h]; rfl)
  · and_intros <;> exact frozen_of_row w b _ _ _ h
theorem owns_at {w : World} {lo : Nat} {e : TypeId} {size n cap : Nat} {g : Nat} {xs : List Value} (h : w.ownsRow lo e size (.slice (some ⟨g, 0, none⟩) n cap) n xs) : lo ≤ g ∧ g < w.heap.size ∧ (∀ k, w.frozen? ⟨g, k, none⟩ = false) ∧ ∀ k, k < n * size → ∃ v, w.cell? ⟨g, k, none⟩ = some v := by
  obtain ⟨h1, h2⟩ := h
  rcases h2 with ⟨h0, _⟩ | ⟨g', cap', cur, e1, h3, h4, h5, h6, h7, h8⟩
  · cases h0
  · simp only [Value.slice.injEq, Option.some.injEq, Addr.mk.injEq, true_and, and_true] at e1
    obtain ⟨rfl, rfl⟩ := e1
    exact ⟨h3, (Array.getElem?_eq_some_iff.1 h4).1, fun k => frozen_of_row w g k _ _ h4, fun k hk => ⟨_, by
      rw [cell_of_row w g _ _ _ _ h4]
      exact Array.getElem?_eq_getElem (by rw [h7]; exact Nat.lt_of_lt_of_le hk (Nat.mul_le_mul_right _ h5))⟩⟩

set_option maxRecDepth 100000 in
set_option maxHeartbeats 8000000 in
theorem with_any (m h s : Int) (sv lv : Value) (l : List SiteD) (j : Nat) (b : Bool) (L : List Ent) (hj : j < l.length) (hl : l.length ≤ 1000) (w : World) (hR : IsR w sv l) (hL : IsL w lv L) :
    Calls Try.prog 32 #[refV m sv h s, .int .i64 j, .agg #[.bool b, lv]] w fun e w' => ∃ A n, e = .returned (refV m (.slice A l.length n) h s) ∧ IsR w' (.slice A l.length n) (l.set j ⟨L, b⟩) ∧ Below w.heap.size w w' := by
  obtain ⟨A0, n0, rfl, _, _⟩ := hR.form
  obtain ⟨A1, n1, rfl, _, _⟩ := hL.1.form
  obtain ⟨rs, q1, q2, q3⟩ := hR
  have hfin := fines q2 q3
  have QF := Lib.hid (toF_sl hfin q1.1)
  have FL := Lib.hid (And.intro (toF_len rs hfin) (toF_flat rs hfin))
  have HR := Lib.hid (And.intro q2 q3)
  have HL := Lib.hid hL
  generalize toF rs hfin = fs at *
  clear q1 q2 q3 hfin hL
  go_enter Try.func32, Try.ntmps32
  go_upto_region 1 with fail
  refine wp_world (fun W => W.heap[w.heap.size]? = some (refO m (.slice A0 l.length n0) h s) ∧ W.heap[w.heap.size + 1]? = some (.cells #[.bool b, .slice A1 L.length n1] 79) ∧ W.heap[w.heap.size + 1 + 1]? = some (refO 0 (.slice none 0 0) 0 0) ∧ Below w.heap.size w W) (by
    obtain ⟨_, h2, h3⟩ := heapN w [refO m (.slice A0 l.length n0) h s, .cells #[.bool b, .slice A1 L.length n1] 79, refO 0 (.slice none 0 0) 0 0]
    exact ⟨h3 0 _ rfl, h3 1 _ rfl, h3 2 _ rfl, h2⟩) ?_
  rintro W ⟨j1, j2, j3, jb⟩
  have l0 : w.heap.size < W.heap.size := (Array.getElem?_eq_some_iff.1 j1).1
  have l1 : w.heap.size + 1 < W.heap.size := (Array.getElem?_eq_some_iff.1 j2).1
  have l2 : w.heap.size + 1 + 1 < W.heap.size := (Array.getElem?_eq_some_iff.1 j3).1
  have J := Lib.hid (And.intro j1 (And.intro j2 (And.intro j3 jb)))
  obtain ⟨⟨a0, a1, a2, a3⟩, _⟩ := cells4 j1
  clear j1 j2 j3 jb
  go_upto_region 2 with (at_builtin; refine wpList_appG elem_site rfl _ _ rfl W.heap.size [] fs (yv := .slice (some ⟨W.heap.size, 0, none⟩) 0 0) (sv := .slice A0 l.length n0) rfl rfl (own_empty (heap_alloc_new _ _) (Nat.le_refl _)) (by simp) ((QF.out.below J.out.2.2.2).below (bl_al (Below.refl _ _) _)) (by have := FL.out.1; have := HR.out.1; simp; omega) (by have := FL.out.1; have := HR.out.1; simp; omega) ?_; intro A5 n5 w3 o3 g3; have O3 := Lib.hid (And.intro o3 (show Below W.heap.size W w3 from app_2 rfl g3)); clear o3 g3)
  have e1 : fs.length = l.length := by rw [FL.out.1, HR.out.1]
  have ho := O3.out.1
  simp only [List.nil_append] at ho
  rw [e1, FL.out.2] at ho
  rw [e1]
  obtain ⟨g, rfl⟩ : ∃ g, A5 = some ⟨g, 0, none⟩ := by
    rcases ho.2 with ⟨h0, h1⟩ | ⟨g, cap, cur, e, _⟩
    · omega
    · simp only [Value.slice.injEq] at e
      exact ⟨g, e.1⟩
  obtain ⟨g0, g1, gf, gc⟩ := owns_at ho
  have B3 := O3.out.2
  have k1 := (B3.block _ l1).trans J.out.2.1
  obtain ⟨b0, b1, _, _⟩ := cells2 k1
  obtain ⟨u0, v0⟩ := gc (j * 2) (by omega)
  obtain ⟨u1, v1⟩ := gc (j * 2 + 1) (by omega)
  have f0 := gf (j * 2)
  have f1 := gf (j * 2 + 1)
  have j0 : ¬ (j : Int) < 0 := by omega
  have j1 : (j : Int) < l.length := by omega
  have HO := Lib.hid ho
  have g2 := B3.size
  clear ho k1 gf gc a0 a1 a2 a3 B3
  go_upto_region 3 with fail
  refine wp_world (fun X => X.heap[w.heap.size]? = some (refO m (.slice A0 l.length n0) h s) ∧ X.heap[w.heap.size + 1 + 1]? = some (refO 0 (.slice none 0 0) 0 0) ∧ X.ownsRow W.heap.size 79 2 (.slice (some ⟨g, 0, none⟩) l.length n5) l.length (flat SiteR.cs (rs.set j ⟨b, .slice A1 L.length n1⟩)) ∧ Below w.heap.size w X ∧ W.heap.size ≤ X.heap.size) ?_ ?_
  · have T := ((Touch.refl (fun k => k = g) w3).set1 (j * 2) (.bool b)).set1 (j * 2 + 1) (.slice A1 L.length n1)
    refine ⟨(T.block _ (by omega) (by omega)).trans ((O3.out.2.block _ l0).trans J.out.1), (T.block _ (by omega) (by omega)).trans ((O3.out.2.block _ l2).trans J.out.2.2.1), ?_, (bl_tr J.out.2.2.2 O3.out.2).trans (T.below (bl_tr J.out.2.2.2 O3.out.2).size (by omega)), by have := T.size; omega⟩
    rw [flat_set2 _ (by rw [HR.out.1]; exact hj)]
    exact ownsRow_set (ownsRow_set HO.out rfl (by omega) _) rfl (by omega) _
  rintro X ⟨x0, x2, xo, xb, xs⟩
  have XX := Lib.hid (And.intro x0 (And.intro x2 (And.intro xo (And.intro xb xs))))
  obtain ⟨⟨a0, a1, a2, a3⟩, y0, y1, y2, y3⟩ := cells4 x0
  clear x0 x2 xo xb b0 b1 u0 v0 u1 v1 f0 f1
  go_upto_region 4 with fail
  refine wp_world (fun Y => Y.heap[w.heap.size]? = some (refO m (.slice (some ⟨g, 0, none⟩) l.length n5) h s) ∧ Y.heap[w.heap.size + 1 + 1]? = some (refO 0 (.slice none 0 0) 0 0) ∧ Y.ownsRow W.heap.size 79 2 (.slice (some ⟨g, 0, none⟩) l.length n5) l.length (flat SiteR.cs (rs.set j ⟨b, .slice A1 L.length n1⟩)) ∧ Below w.heap.size w Y ∧ W.heap.size ≤ Y.heap.size) ?_ ?_
  · have T := (Touch.refl (fun k => k = w.heap.size) X).set1 1 (.slice (some ⟨g, 0, none⟩) l.length n5)
    exact ⟨heap_setCell_same _ _ _ _ _ _ XX.out.1, (T.block _ (Array.getElem?_eq_some_iff.1 XX.out.2.1).1 (by omega)).trans XX.out.2.1, ownsRow_touch XX.out.2.2.1 T (fun g' hg e => by have := (XX.out.2.2.1.lt _ hg).1; omega), XX.out.2.2.2.1.trans (T.below XX.out.2.2.2.1.size (by omega)), by have := T.size; have := XX.out.2.2.2.2; omega⟩
  rintro Y ⟨x0, x2, xo, xb, xs'⟩
  have YY := Lib.hid (And.intro xo (And.intro xb (And.intro x2 xs')))
  clear a0 a1 a2 a3 y0 y1 y2 y3
  obtain ⟨⟨a0, a1, a2, a3⟩, _⟩ := cells4 x0
  obtain ⟨⟨b0, b1, b2, b3⟩, y0, y1, y2, y3⟩ := cells4 x2
  clear x0 x2 xo xb
  go_wp2
  refine wp_post (fun Z => Z.heap[w.heap.size + 1 + 1]? = some (refO m (.slice (some ⟨g, 0, none⟩) l.length n5) h s) ∧ Touch (fun k => k = w.heap.size + 1 + 1) Y Z) ?_ ?_
  · exact ⟨heap_setCell_same _ _ _ _ _ _ (heap_setCell_same _ _ _ _ _ _ (heap_setCell_same _ _ _ _ _ _ (heap_setCell_same _ _ _ _ _ _ YY.out.2.2.1))), ((((Touch.refl (fun k => k = w.heap.size + 1 + 1) Y).set1 0 _).set1 1 _).set1 2 _).set1 3 _⟩
  rintro Z ⟨z, T⟩
  have ZZ := Lib.hid T
  clear T a0 a1 a2 a3 b0 b1 b2 b3 y0 y1 y2 y3
  obtain ⟨⟨a0, a1, a2, a3⟩, _⟩ := cells4 z
  refine bodyPost_ret (v := refV m (.slice (some ⟨g, 0, none⟩) l.length n5) h s) (by clear z; simp [results, Try.results32, go_sem, *]) rfl ⟨_, _, rfl, ?_, ?_⟩
  · have T := ZZ.out
    have o := ownsRow_touch YY.out.1 T (fun g' hg e => by have := (YY.out.1.lt _ hg).1; omega)
    have hlen : (rs.set j ⟨b, .slice A1 L.length n1⟩).length = l.length := by rw [List.length_set, HR.out.1]
    rw [← hlen] at o
    have hsl := ownsRow_slOf siter_len o
    have htg := tag_own o
    rw [hlen] at hsl htg
    have BL : Below w.heap.size w Z := YY.out.2.1.trans (T.below YY.out.2.1.size (by omega))
    refine ⟨_, ⟨hsl, htg⟩, by rw [hlen, List.length_set], fun i r s' hr hs' => ?_⟩
    by_cases hi : i = j
    · subst hi
      rw [List.getElem?_set_self (by rw [HR.out.1]; exact hj)] at hr
      rw [List.getElem?_set_self hj] at hs'
      cases hr
      cases hs'
      exact ⟨rfl, HL.out.below BL⟩
    · rw [List.getElem?_set_ne (fun e => hi e.symm)] at hr hs'
      exact (HR.out.2 i r s' hr hs').below BL
  · exact YY.out.2.1.trans (ZZ.out.below YY.out.2.1.size (by omega))
end Go.Proofs.Ytbgcjgnhblhohaa
