/- Cells: moved of the reference. -/
import Derived.Test.YteifcgffeplkkaaCelAA
import Derived.Test.YteifcgffeplkkaaCelX
namespace Go.Proofs.Yteifcgffeplkkaa
set_option linter.all false
open Go.RowKit Go.Sort Go.Deep

def pairsM (fr tl : List Int) : List (Int × Int) := fr.mapIdx fun i x => (x, (tl[i]?).getD x)
def lookP (l : List (Int × Int)) (a : Int) : Option Int := (l.find? fun p => p.1 == a).map (·.2)
def movV (l : List (Int × Int)) (v : Val) : Val := if leadsB v then ⟨v.k, (lookP l v.n).getD v.n, v.s⟩ else v
theorem pairsM_len (fr tl : List Int) : (pairsM fr tl).length = fr.length := by simp [pairsM]
theorem pairsM_at {fr tl : List Int} {k : Nat} {x : Int} (h : fr[k]? = some x) : (pairsM fr tl)[k]? = some (x, (tl[k]?).getD x) := by simp [pairsM, h]
theorem lookP_step {l : List (Int × Int)} {k : Nat} {x y : Int} (h : l[k]? = some (x, y)) (a : Int) : lookP (l.take (k + 1)) a = (lookP (l.take k) a).or (if x == a then some y else none) := by
  unfold lookP
  rw [List.take_add_one, h, List.find?_append, Option.toList_some]
  cases (l.take k).find? fun p => p.1 == a with
  | some p => simp
  | none => cases hx : (x == a) <;> simp [hx]
theorem lookP_all {l : List (Int × Int)} {k : Nat} (h : l.length ≤ k) (a : Int) : lookP (l.take k) a = lookP l a := by rw [List.take_of_length_le h]
theorem lookP_more {l : List (Int × Int)} {k : Nat} {a y : Int} (h : lookP (l.take k) a = some y) : lookP l a = some y := by
  unfold lookP at h ⊢
  rw [← List.take_append_drop k l, List.find?_append]
  cases hf : (l.take k).find? fun p => p.1 == a with
  | some p => rw [hf] at h; simpa using h
  | none => rw [hf] at h; simp at h
theorem movV_no {l : List (Int × Int)} {v : Val} (h : leadsB v = false) : movV l v = v := by simp [movV, h]
theorem movV_yes {l : List (Int × Int)} {v : Val} (h : leadsB v = true) : movV l v = ⟨v.k, (lookP l v.n).getD v.n, v.s⟩ := by simp [movV, h]

theorem cells3f {w : World} {b : Nat} {T : TypeId} {x y z : Value} (h : w.heap[b]? = some (.cells #[x, y, z] T)) : (w.cell? ⟨b, 0, none⟩ = some x ∧ w.cell? ⟨b, 1, none⟩ = some y ∧ w.cell? ⟨b, 2, none⟩ = some z) ∧ w.frozen? ⟨b, 0, none⟩ = false ∧ w.frozen? ⟨b, 1, none⟩ = false ∧ w.frozen? ⟨b, 2, none⟩ = false := by
  refine ⟨⟨?_, ?_, ?_⟩, ?_, ?_, ?_⟩
  all_goals first | (rw [cell_of_row w b _ _ _ _ h]; rfl) | exact frozen_of_row w b _ _ _ h
abbrev valO (v : Val) : Obj := .cells #[.int .i64 v.k, .int .i64 v.n, .string v.s] 32

set_option maxRecDepth 100000 in
set_option maxHeartbeats 4000000 in
theorem rmoved_any (v : Val) (fv tv : Value) (fr tl : List Int) (w : World) (h1 : IsI w fv fr) (h2 : IsI w tv tl) :
    Calls Try.prog 39 #[v.agg, fv, tv] w fun e w' => e = .returned (movV (pairsM fr tl) v).agg ∧ Below w.heap.size w w' := by
  have H1 := Lib.hid h1
  have H2 := Lib.hid h2
  obtain ⟨A1, n1, rfl, _, hm1⟩ := h1.form
  obtain ⟨A2, n2, rfl, _, hm2⟩ := h2.form
  clear h1 h2
  unfold maxLen at hm1 hm2
  go_enter Try.func39, Try.ntmps39
  go_upto_region 1 with fail
  have j1 : ((w.alloc (valO v)).alloc (valO ⟨0, 0, ⟨#[]⟩⟩)).heap[w.heap.size]? = some (valO v) := (heap_alloc_old _ _ (by simp)).trans (heap_alloc_new _ _)
  have j2 : ((w.alloc (valO v)).alloc (valO ⟨0, 0, ⟨#[]⟩⟩)).heap[w.heap.size + 1]? = some (valO ⟨0, 0, ⟨#[]⟩⟩) := by
    have := heap_alloc_new (w.alloc (valO v)) (valO ⟨0, 0, ⟨#[]⟩⟩)
    simpa using this
  have jb : Below w.heap.size w ((w.alloc (valO v)).alloc (valO ⟨0, 0, ⟨#[]⟩⟩)) := by (repeat (with_reducible first | exact Below.refl _ _ | (refine bl_set ?_ (by first | omega | (simp; done) | (simp; omega)) _) | refine bl_gr ?_ _ | refine bl_al ?_ _ | refine below_setRow ?_ (by first | omega | (simp; done) | (simp; omega)) _ | refine bl_drewN ?_ _ | refine Below.drew ?_ | (refine bl_tr ?_ (by assumption))))
  generalize hW : (w.alloc _).alloc _ = W at j1 j2 jb ⊢
  clear hW
  have l0 : w.heap.size < W.heap.size := (Array.getElem?_eq_some_iff.1 j1).1
  have l1 : w.heap.size + 1 < W.heap.size := (Array.getElem?_eq_some_iff.1 j2).1
  obtain ⟨⟨a0, a1, a2⟩, f0, f1, f2⟩ := cells3f j1
  obtain ⟨⟨b0, b1, b2⟩, g0, g1, g2⟩ := cells3f j2
  have JJ := Lib.hid (And.intro j1 (And.intro j2 jb))
  clear j1 j2 jb
  cases hl : leadsB v
  · have HR := Lib.hid (movV_no (l := pairsM fr tl) hl)
    have LB := Lib.hid (fun (W : World) => by have := rhas_any v W; rw [hl] at this; exact this : ∀ W : World, Calls Try.prog 26 #[v.agg] W fun e w' => e = .returned (.bool false) ∧ Below W.heap.size W w')
    clear hl
    go_wp2_with (go_at_call 26; refine (callGr (LB.out _)).mono ?_; rintro e w' ⟨pp, rfl, rfl⟩)
    rw [HR.out]
    have K := JJ.out.2.2
    refine bodyPost_ret (v := v.agg) (by clear K; simp [results, Try.results39, go_sem, *]) rfl ⟨rfl, ?_⟩
    (repeat (with_reducible first | exact K | refine bl_rapp ?_ | (refine bl_set ?_ (by first | omega | (simp; done) | (simp; omega)) _) | refine bl_gr ?_ _ | refine bl_al ?_ _ | refine bl_drewN ?_ _ | refine Below.drew ?_))
  · have HL := Lib.hid hl
    have LB := Lib.hid (fun (W : World) => by have := rhas_any v W; rw [hl] at this; exact this : ∀ W : World, Calls Try.prog 26 #[v.agg] W fun e w' => e = .returned (.bool true) ∧ Below W.heap.size W w')
    clear hl
    go_wp2_with (go_at_call 26; refine (callGr (LB.out _)).mono ?_; rintro e w' ⟨pp, rfl, rfl⟩)
    obtain ⟨W2, hW2⟩ : ∃ W2, W2 = gr W pp := ⟨_, rfl⟩
    rw [← hW2]
    have kb : Below W.heap.size W W2 := by rw [hW2]; exact below_gr _ _
    clear hW2
    have K0 := Lib.hid (And.intro ((kb.block _ l0).trans JJ.out.1) (And.intro ((kb.block _ l1).trans JJ.out.2.1) (bl_tr JJ.out.2.2 kb)))
    clear kb a0 a1 a2 f0 f1 f2 b0 b1 b2 g0 g1 g2 l0 l1 JJ
    go_loopw [7] (fun i wr => ∃ k : Nat, k ≤ fr.length ∧ i = .int .i64 k ∧ Hid (lookP ((pairsM fr tl).take k) v.n = none) ∧ wr.heap[w.heap.size]? = some (valO v) ∧ wr.heap[w.heap.size + 1]? = some (valO ⟨0, 0, ⟨#[]⟩⟩) ∧ Below w.heap.size w wr) (fun i _ => fr.length - (intOf i).toNat)
    case atStart => exact ⟨0, by omega, rfl, Lib.hid rfl, K0.out.1, K0.out.2.1, K0.out.2.2⟩
    case round =>
      clear K0
      obtain ⟨k, hk, rfl, hn, j1, j2, jb⟩ := hrel
      have l0 : w.heap.size < wr.heap.size := (Array.getElem?_eq_some_iff.1 j1).1
      have l1 : w.heap.size + 1 < wr.heap.size := (Array.getElem?_eq_some_iff.1 j2).1
      obtain ⟨⟨a0, a1, a2⟩, f0, f1, f2⟩ := cells3f j1
      obtain ⟨⟨b0, b1, b2⟩, g0, g1, g2⟩ := cells3f j2
      have JJ := Lib.hid (And.intro j1 (And.intro j2 jb))
      clear j1 j2
      by_cases hlt : k < fr.length
      · obtain ⟨b1', o1, _, e1, _, hb1, hx⟩ := (H1.out.below jb).at_ (by omega)
        simp only [Value.slice.injEq] at e1
        obtain ⟨rfl, _, rfl⟩ := e1
        obtain ⟨x, ex⟩ : ∃ x, fr[k]? = some x := ⟨_, List.getElem?_eq_getElem hlt⟩
        have cx0 : wr.cell? ⟨b1', o1 + k, none⟩ = some (.int .i64 x) := by have := hx k x ex 0 _ rfl; simpa using this
        have LS := Lib.hid (lookP_step (pairsM_at (tl := tl) ex) v.n)
        have q1 : (k : Int) < fr.length := by omega
        have HN := hn
        clear hx ex jb hn
        cases hq : (x == v.n)
        · go_wp2
          ((first | (with_reducible refine wp_quiet_gr Try.mixed ?_ ?_) | (with_reducible refine wp_quiet_any Try.mixed ?_ ?_)); (next => kernel_rfl); (repeat (with_reducible refine wpQuiet_step (fun K hK => ?_); go_simp; first | (refine hK _ ?_; clear hK K) | (apply Exists.intro; refine ⟨fun _ => ?_, hK _ ?_⟩; (fail); clear hK K))); refine wpQuiet_nil ?_; intro pq)
          go_wp2
          go_roundw
          case rel => exact ⟨k + 1, by omega, by go_num, Lib.hid (by rw [LS.out, HN.out, hq]; rfl), ((below_gr _ _).block _ l0).trans JJ.out.1, ((below_gr _ _).block _ l1).trans JJ.out.2.1, bl_gr JJ.out.2.2 _⟩
          case measure => simp [intOf]; omega
        · have LK := Lib.hid (lookP_more (show lookP ((pairsM fr tl).take (k + 1)) v.n = some ((tl[k]?).getD x) by rw [LS.out, HN.out, hq]; rfl))
          have xe : x = v.n := by simpa using hq
          by_cases hlt2 : k < tl.length
          · obtain ⟨b2', o2, _, e2, _, hb2, hy⟩ := (H2.out.below JJ.out.2.2).at_ (by omega)
            simp only [Value.slice.injEq] at e2
            obtain ⟨rfl, _, rfl⟩ := e2
            obtain ⟨y, ey⟩ : ∃ y, tl[k]? = some y := ⟨_, List.getElem?_eq_getElem hlt2⟩
            have cy0 : wr.cell? ⟨b2', o2 + k, none⟩ = some (.int .i64 y) := by have := hy k y ey 0 _ rfl; simpa using this
            have q2 : (k : Int) < tl.length := by omega
            have HR := Lib.hid (show movV (pairsM fr tl) v = ⟨v.k, y, v.s⟩ by rw [movV_yes HL.out, LK.out, ey]; rfl)
            clear hy ey xe
            go_wp2
            ((first | (with_reducible refine wp_quiet_gr Try.mixed ?_ ?_) | (with_reducible refine wp_quiet_any Try.mixed ?_ ?_)); (next => kernel_rfl); (repeat (with_reducible refine wpQuiet_step (fun K hK => ?_); go_simp; first | (refine hK _ ?_; clear hK K) | (apply Exists.intro; refine ⟨fun _ => ?_, hK _ ?_⟩; (fail); clear hK K))); refine wpQuiet_nil ?_; intro pq)
            go_wp2
            have K := JJ.out.2.2
            rw [HR.out]
            refine bodyPost_ret (v := (⟨v.k, y, v.s⟩ : Val).agg) (by clear K; simp [results, Try.results39, go_sem, *]) rfl ⟨rfl, ?_⟩
            (repeat (with_reducible first | exact K | refine bl_rapp ?_ | (refine bl_set ?_ (by first | omega | (simp; done) | (simp; omega)) _) | refine bl_gr ?_ _ | refine bl_al ?_ _ | refine bl_drewN ?_ _ | refine Below.drew ?_))
          · have q2 : ¬ (k : Int) < tl.length := by omega
            have HR := Lib.hid (show movV (pairsM fr tl) v = v by rw [movV_yes HL.out, LK.out, List.getElem?_eq_none (by omega), xe]; rfl)
            clear xe
            go_wp2
            ((first | (with_reducible refine wp_quiet_gr Try.mixed ?_ ?_) | (with_reducible refine wp_quiet_any Try.mixed ?_ ?_)); (next => kernel_rfl); (repeat (with_reducible refine wpQuiet_step (fun K hK => ?_); go_simp; first | (refine hK _ ?_; clear hK K) | (apply Exists.intro; refine ⟨fun _ => ?_, hK _ ?_⟩; (fail); clear hK K))); refine wpQuiet_nil ?_; intro pq)
            go_wp2
            have K := JJ.out.2.2
            rw [HR.out]
            refine bodyPost_ret (v := v.agg) (by clear K; simp [results, Try.results39, go_sem, *]) rfl ⟨rfl, ?_⟩
            (repeat (with_reducible first | exact K | refine bl_rapp ?_ | (refine bl_set ?_ (by first | omega | (simp; done) | (simp; omega)) _) | refine bl_gr ?_ _ | refine bl_al ?_ _ | refine bl_drewN ?_ _ | refine Below.drew ?_))
      · have q1 : ¬ (k : Int) < fr.length := by omega
        have HR := Lib.hid (show movV (pairsM fr tl) v = v by
          have e := hn.out
          rw [lookP_all (by rw [pairsM_len]; omega)] at e
          rw [movV_yes HL.out, e]; rfl)
        clear jb
        go_wp2
        have K := JJ.out.2.2
        rw [HR.out]
        refine bodyPost_ret (v := v.agg) (by clear K; simp [results, Try.results39, go_sem, *]) rfl ⟨rfl, ?_⟩
        (repeat (with_reducible first | exact K | refine bl_rapp ?_ | (refine bl_set ?_ (by first | omega | (simp; done) | (simp; omega)) _) | refine bl_gr ?_ _ | refine bl_al ?_ _ | refine bl_drewN ?_ _ | refine Below.drew ?_))
end Go.Proofs.Yteifcgffeplkkaa
