/- Cells: entries of a fixed size, by the program. -/
import Derived.Test.YtdikdkllbhanfaaCelG
namespace Go.Proofs.Ytdikdkllbhanfaa
set_option linter.all false
open Go.RowKit Go.Sort Go.Deep Go.Shelf
attribute [local go_sem] Oper.semAt_some

def entryB (each : Nat) (l : List Val) (k : Nat) : Bool :=
  !((vAt l (k * each)).k != 7 || (vAt l (k * each + 1)).k == 8) && !((each : Int) == 4 && (!orNoneB (vAt l (k * each + 2)) 7 || !numB (vAt l (k * each + 3)) 0 9007199254740992))
theorem entryB_def (each : Nat) (l : List Val) (k : Nat) : entryB each l k = (!((vAt l (k * each)).k != 7 || (vAt l (k * each + 1)).k == 8) && !((each : Int) == 4 && (!orNoneB (vAt l (k * each + 2)) 7 || !numB (vAt l (k * each + 3)) 0 9007199254740992))) := rfl
def entriesB (each : Nat) (l : List Val) : Bool := l.length % each == 0 && (List.range (l.length / each)).all (entryB each l)

set_option maxHeartbeats 1000000 in
theorem chunk_any (A : Option Addr) (n cap each : Nat) (h1 : 1 ≤ each) (w : World) :
    Calls Try.prog 60 #[.slice A n cap, .int .i64 each] w fun e w' => e = .returned (.func (.func 61) #[] #[.pointer (some ⟨w.heap.size, 0, none⟩), .pointer (some ⟨w.heap.size + 1, 0, none⟩)]) ∧
      w' = (w.alloc (.cells #[.slice A n cap] 22)).alloc (.cells #[.int .i64 each] 3) := by
  have h0 : ¬ (each : Int) < 1 := by omega
  go_enter Try.func60, Try.ntmps60
  go_wp2
  go_ret
  exact ⟨rfl, rfl⟩

theorem chunk_stops (m each b off cap : Nat) (A : Option Addr) (hA : 0 < m → A = some ⟨b, off, none⟩) (h1 : 1 ≤ each) (h4 : each ≤ 4) (hcap : m * each ≤ cap) (hm : m * each ≤ maxLen) (Bs Bn : Nat) (w : World)
    (hBs : w.heap[Bs]? = some (.cells #[.slice A (m * each) cap] 22)) (hBn : w.heap[Bn]? = some (.cells #[.int .i64 each] 3)) :
    SeqStopsK Fence.wide 8 Try.prog 61 #[.pointer (some ⟨Bs, 0, none⟩), .pointer (some ⟨Bn, 0, none⟩)] (fun x : Fin m => #[.slice (some ⟨b, off + x.val * each * 3, none⟩) each each]) (Below w.heap.size) (fun ys => ys = List.finRange m) (fun pre => pre <+: List.finRange m) m w := fun l J Jx W hW hJ hJx hY h0 =>
  chunk1_in l Bs Bn w.heap.size m each b off cap A hA h1 h4 hcap hm J Jx W.heap.size hJ hJx hY W ((hW.block Bs (Array.getElem?_eq_some_iff.1 hBs).1).trans hBs) ((hW.block Bn (Array.getElem?_eq_some_iff.1 hBn).1).trans hBn) (Array.getElem?_eq_some_iff.1 hBs).1 (Array.getElem?_eq_some_iff.1 hBn).1 hW.size h0

/-- a round has stored its answer: what it keeps -/
theorem ret_touch {w W : World} {r : Nat} {x : Value} {T : TypeId} (hB : Below w.heap.size w W) (hr : W.heap[r]? = some (.cells #[x] T)) (hlo : w.heap.size ≤ r) (B : Nat) (u : Value) :
    KeepsFrom B W (W.setCell ⟨r, 0, none⟩ u) ∧ (W.setCell ⟨r, 0, none⟩ u).heap[r]? = some (.cells #[u] T) ∧ Below w.heap.size w (W.setCell ⟨r, 0, none⟩ u) := by
  have T1 : Touch (fun k => k = r) W (W.setCell ⟨r, 0, none⟩ u) := (Touch.refl _ W).set1 0 _
  exact ⟨keeps_touch T1 (fun k hk => by subst hk; exact ⟨_, _, hr⟩), heap_setCell_same _ _ _ _ _ _ hr, hB.trans (T1.below hB.size fun k hk => by rw [hk]; exact hlo)⟩
theorem ret_touch_gr {w W : World} {r : Nat} {x : Value} {T : TypeId} (hB : Below w.heap.size w W) (hr : W.heap[r]? = some (.cells #[x] T)) (hlo : w.heap.size ≤ r) (B : Nat) (u : Value) (pp : Regrown) :
    KeepsFrom B W (gr (W.setCell ⟨r, 0, none⟩ u) pp) ∧ (gr (W.setCell ⟨r, 0, none⟩ u) pp).heap[r]? = some (.cells #[u] T) ∧ Below w.heap.size w (gr (W.setCell ⟨r, 0, none⟩ u) pp) := by
  obtain ⟨h1, h2, h3⟩ := ret_touch hB hr hlo B u
  have hg := below_gr (W.setCell ⟨r, 0, none⟩ u) pp
  exact ⟨h1.trans ((KeepsOthers.from ⟨hg.size, fun k o hk _ => (hg.block k (Array.getElem?_eq_some_iff.1 hk).1).trans hk⟩ B)), (hg.block r (Array.getElem?_eq_some_iff.1 h2).1).trans h2, h3.trans (hg.mono h3.size)⟩
theorem keeps_gr (B : Nat) (W : World) (pp : Regrown) : KeepsFrom B W (gr W pp) := (KeepsOthers.from ⟨(below_gr W pp).size, fun k o hk _ => ((below_gr W pp).block k (Array.getElem?_eq_some_iff.1 hk).1).trans hk⟩ B)

set_option maxRecDepth 100000 in
set_option maxHeartbeats 4000000 in
theorem entriesRight_any (v : Value) (l : List Val) (each : Nat) (he : each = 2 ∨ each = 4) (w : World) (h : IsV w v l) :
    Calls Try.prog 59 #[v, .int .i64 each] w fun e w' => e = .returned (.bool (entriesB each l)) ∧ Below w.heap.size w w' := by
  obtain ⟨A, cap, rfl, hcap, hm⟩ := h.form
  have H := Lib.hid h
  have HE := Lib.hid he
  have h1 : 1 ≤ each := by omega
  have h4 : each ≤ 4 := by omega
  have HM := Lib.hid hm
  unfold maxLen at hm
  clear h he
  refine callsIn_wide.1 (callsIn_of_wp_marks (n := 9) Try.func59 rfl trivial ?_ rfl)
  refine wpIn_wide.2 ?_
  simp only [Try.ntmps59, List.size_toArray, List.length_cons, List.length_nil, Nat.reduceAdd, Nat.reduceSub, Array.replicate_succ, Array.replicate_zero, List.push_toArray, List.append_toArray, List.nil_append, List.cons_append]
  by_cases hmod : l.length % each = 0
  case neg =>
    have hm1 : ((l.length : Int) % (each : Int) != 0) = true := bne_iff_ne.2 (by omega)
    have HMD := Lib.hid (show entriesB each l = false by simp [entriesB, hmod])
    have e0 : ¬ each = 0 := by omega
    clear hmod
    go_wp2
    refine marks_ret0 (v := .bool false) (by simp [results, Try.results59, go_sem]) rfl ⟨ret_bool HMD.out.symm, by (repeat (with_reducible first | exact Below.refl _ _ | (refine bl_set ?_ (by first | omega | (simp; done) | (simp; omega)) _) | refine bl_gr ?_ _ | refine bl_al ?_ _ | refine below_setRow ?_ (by first | omega | (simp; done) | (simp; omega)) _ | refine bl_drewN ?_ _ | refine Below.drew ?_ | (refine bl_tr ?_ (by assumption))))⟩
  have hm1 : ((l.length : Int) % (each : Int) != 0) = false := by
    have : ((l.length : Int) % (each : Int)) = 0 := by omega
    simp [this]
  have HMD := Lib.hid hmod
  have e0 : ¬ each = 0 := by omega
  clear hmod
  go_wp2_with (go_at_call 60; refine (chunk_any _ _ _ _ h1 _).mono ?_; rintro e w1 ⟨rfl, hw1⟩; have W1 := Lib.hid hw1; clear hw1)
  obtain ⟨hb0, hb1, hb2, hb3, hsz, hB0⟩ : w1.heap[w.heap.size]? = some (.cells #[.int .i64 each] 3) ∧ w1.heap[w.heap.size + 1]? = some (.cells #[.bool false] 4) ∧ w1.heap[w.heap.size + 1 + 1]? = some (.cells #[.slice A l.length cap] 22) ∧
      w1.heap[w.heap.size + 1 + 1 + 1]? = some (.cells #[.int .i64 each] 3) ∧ w1.heap.size = w.heap.size + 4 ∧ Below w.heap.size w w1 := by
    rw [W1.out]
    exact heap4 w _ _ _ _
  obtain ⟨b, off, hA⟩ : ∃ b off, 0 < l.length → A = some ⟨b, off, none⟩ := by
    by_cases h0 : 0 < l.length
    · obtain ⟨b, off, rfl⟩ := isV_addr H.out h0
      exact ⟨b, off, fun _ => rfl⟩
    · exact ⟨0, 0, fun h => absurd h h0⟩
  obtain ⟨m, hml⟩ : ∃ m, m = l.length / each := ⟨_, rfl⟩
  have hme : m * each = l.length := by rw [hml]; have := Nat.div_add_mod l.length each; rw [HMD.out, Nat.mul_comm] at this; omega
  have hs1 := Nat.le_of_eq hsz
  have hs2 := Nat.le_of_eq hsz.symm
  have HA := Lib.hid hA
  have HME := Lib.hid (And.intro hme hml)
  have hBs : w1.heap[w.heap.size + 1 + 1]? = some (.cells #[.slice A (m * each) cap] 22) := by rw [hme]; exact hb2
  clear W1 hsz hme hml hA
  refine (wpIn_wide (n := 9)).1 ?_
  refine wpIn_rangeFunc_ownH rfl (by omega) (gf := 61) (lb := #[.pointer (some ⟨w.heap.size + 1 + 1, 0, none⟩), .pointer (some ⟨w.heap.size + 1 + 1 + 1, 0, none⟩)]) rfl trivial (enters_of Try.func61 (by kernel_rfl) rfl)
    (chunk_stops m each b off cap A (fun h => HA.out (by rw [← HME.out.1]; exact Nat.mul_pos h h1)) h1 h4 (by rw [HME.out.1]; exact hcap) (by rw [HME.out.1]; exact HM.out) _ _ w1 hBs hb3) belowK_t (belowK_b (Nat.le_refl _)) (Below.refl _ _) (fun _ => rfl)
    (fun pre W => (∀ x ∈ pre, entryB each l x.val = true) ∧ W.heap[w.heap.size]? = some (.cells #[.int .i64 each] 3) ∧ W.heap[w.heap.size + 1]? = some (.cells #[.bool false] 4) ∧ Below w.heap.size w W ∧ w1.heap.size ≤ W.heap.size)
    (fun c pre W => c = .ret ∧ (∃ x ∈ pre, entryB each l x.val = false) ∧ W.heap[w.heap.size + 1]? = some (.cells #[.bool false] 4) ∧ Below w.heap.size w W)
    (ownFrom_of fun s W W' ⟨ha, hh, hr, hB, hz⟩ hs => ⟨ha, hs.heap hh, hs.heap hr, hs.below (by omega) hB (Nat.le_refl _), Nat.le_trans hz hs.size⟩)
    (fun c => ownFrom_of fun s W W' ⟨ha, he, hr, hB⟩ hs => ⟨ha, he, hs.heap hr, hs.below (by omega) hB (Nat.le_refl _)⟩)
    ⟨by simp, hb0, hb1, hB0, Nat.le_refl _⟩
    (fun x a' _ => a' = { tmps := #[.slice A l.length cap, .int .i64 each, undef, .pointer (some ⟨w.heap.size, 0, none⟩), .pointer (some ⟨w.heap.size + 1, 0, none⟩), .slice (some ⟨b, off + x.val * each * 3, none⟩) each each, .slice A l.length cap, .int .i64 l.length, .int .i64 each, .int .i64 ((l.length : Int) % (each : Int)), .bool false, .slice A l.length cap, .int .i64 each,
      .func (.func 61) #[] #[.pointer (some ⟨w.heap.size + 1 + 1, 0, none⟩), .pointer (some ⟨w.heap.size + 1 + 1 + 1, 0, none⟩)], .slice (some ⟨b, off + x.val * each * 3, none⟩) each each, undef, undef, undef, undef, undef, undef, undef, undef, undef, undef, undef, undef, undef, undef, undef, undef, undef, undef, undef, undef, undef, undef, undef, undef, undef, undef, undef, undef], defers := [] })
    (fun x a' => ownFrom_of fun _ W W' h _ => h) ?assign ?body ?done ?stop
  case assign =>
    rintro l' pre x W K hi hK
    gi_wp2
    exact hK _ _ (KeepsFrom.refl _ _) (Below.refl _ _) hi rfl
  case body =>
    rintro l' pre ⟨k, hk⟩ a' W hl hr ⟨ha, hh, hr0, hB, hz⟩ rfl hlt
    have hke : k * each + each ≤ l.length := by
      rw [← HME.out.1, ← Nat.succ_mul]
      exact Nat.mul_le_mul_right _ hk
    obtain rfl := HA.out (by omega)
    obtain ⟨y0, _⟩ := cells1 hh
    obtain ⟨z0, z1⟩ := cells1 hr0
    have HV := H.out.below hB
    have h2 : 2 ≤ each := by have := HE.out; omega
    obtain ⟨hb, c00, c01, c02⟩ := HV.v3 (k * each) (by omega)
    obtain ⟨_, c10, c11, c12⟩ := HV.v3 (k * each + 1) (by omega)
    rw [Nat.add_mul, ← Nat.add_assoc] at c10 c11 c12
    have INV := Lib.hid (And.intro ha (And.intro hh (And.intro hr0 (And.intro hB hz))))
    have n0 : w.heap.size < W.heap.size := by omega
    have n1 : w.heap.size + 1 < W.heap.size := by omega
    have bad : entryB each l k = false → ∃ x ∈ pre ++ [(⟨k, hk⟩ : Fin m)], entryB each l x.val = false := fun h => ⟨⟨k, hk⟩, by simp, h⟩
    have good : entryB each l k = true → ∀ x ∈ pre ++ [(⟨k, hk⟩ : Fin m)], entryB each l x.val = true := fun h x hx => by
      rcases List.mem_append.1 hx with hx | hx
      · exact INV.out.1 x hx
      · simp at hx
        subst hx
        exact h
    have BG := Lib.hid (And.intro bad good)
    clear ha hh hr0 hB hl hr bad good
    by_cases h44 : each = 4
    · have e4 : ((each : Int) == 4) = true := beq_iff_eq.2 (by omega)
      have e5 : 4 ≤ each := by omega
      obtain ⟨_, c20, c21, c22⟩ := HV.v3 (k * each + 2) (by omega)
      obtain ⟨_, c30, c31, c32⟩ := HV.v3 (k * each + 3) (by omega)
      rw [Nat.add_mul, ← Nat.add_assoc] at c20 c21 c22 c30 c31 c32
      have EB := Lib.hid (entryB_def each l k)
      generalize vAt l (k * each) = v0 at *
      generalize vAt l (k * each + 1) = v1 at *
      generalize vAt l (k * each + 2) = v2 at *
      generalize vAt l (k * each + 3) = v3 at *
      generalize hq : k * each = q at *
      have HQ := Lib.hid hq
      clear hq HV h44
      cases h7 : (v0.k != 7)
      case true =>
        gi_wp2_with (refine ⟨trivial, ?_⟩)
        have R := ret_touch INV.out.2.2.2.1 INV.out.2.2.1 (by omega) w1.heap.size (.bool false)
        exact ⟨R.1, rfl, BG.out.1 (by rw [EB.out]; simp [h7]), R.2.1, R.2.2⟩
      cases h8 : (v1.k == 8)
      case true =>
        gi_wp2_with (refine ⟨trivial, ?_⟩)
        have R := ret_touch INV.out.2.2.2.1 INV.out.2.2.1 (by omega) w1.heap.size (.bool false)
        exact ⟨R.1, rfl, BG.out.1 (by rw [EB.out]; simp [h8]), R.2.1, R.2.2⟩
      cases ho : orNoneB v2 7
      · have OC := Lib.hid (fun W1 => by have := orNone_any v2 7 W1; rw [ho] at this; exact this : ∀ W1, Calls Try.prog 57 #[v2.agg, .int .i64 7] W1 fun e w' => e = .returned (.bool false) ∧ Below W1.heap.size W1 w')
        have E9 := Lib.hid (show entryB each l k = false by rw [EB.out]; simp [ho, e4])
        clear ho
        gi_wp2_with (first | (refine ⟨trivial, ?_⟩; gi_at_call 57; refine (calls_wide l' (callGr (OC.out _))).mono ?_; rintro e w' ⟨pp, rfl, rfl⟩) | (refine ⟨trivial, ?_⟩))
        have R := ret_touch_gr INV.out.2.2.2.1 INV.out.2.2.1 (by omega) w1.heap.size (.bool false) pp
        exact ⟨R.1, rfl, BG.out.1 E9.out, R.2.1, R.2.2⟩
      · have OC := Lib.hid (fun W1 => by have := orNone_any v2 7 W1; rw [ho] at this; exact this : ∀ W1, Calls Try.prog 57 #[v2.agg, .int .i64 7] W1 fun e w' => e = .returned (.bool true) ∧ Below W1.heap.size W1 w')
        cases hn : numB v3 0 9007199254740992
        · have NC := Lib.hid (fun W1 => by have := number_any v3 0 9007199254740992 W1; rw [hn] at this; exact this : ∀ W1, Calls Try.prog 58 #[v3.agg, .int .i64 0, .int .i64 9007199254740992] W1 fun e w' => e = .returned (.bool false) ∧ Below W1.heap.size W1 w')
          have E9 := Lib.hid (show entryB each l k = false by rw [EB.out]; simp [hn, e4])
          clear ho hn
          gi_wp2_with (first | (refine ⟨trivial, ?_⟩; gi_at_call 57; refine (calls_wide l' (callGr (OC.out _))).mono ?_; rintro e w' ⟨pp, rfl, rfl⟩) | (refine ⟨trivial, ?_⟩; gi_at_call 58; refine (calls_wide l' (callGr (NC.out _))).mono ?_; rintro e w' ⟨pp, rfl, rfl⟩))
          exact ⟨(ret_touch_gr INV.out.2.2.2.1 INV.out.2.2.1 (by omega) w1.heap.size (.bool false) _).1, rfl, BG.out.1 E9.out, (ret_touch_gr INV.out.2.2.2.1 INV.out.2.2.1 (by omega) w1.heap.size (.bool false) _).2.1, (ret_touch_gr INV.out.2.2.2.1 INV.out.2.2.1 (by omega) w1.heap.size (.bool false) _).2.2⟩
        · have NC := Lib.hid (fun W1 => by have := number_any v3 0 9007199254740992 W1; rw [hn] at this; exact this : ∀ W1, Calls Try.prog 58 #[v3.agg, .int .i64 0, .int .i64 9007199254740992] W1 fun e w' => e = .returned (.bool true) ∧ Below W1.heap.size W1 w')
          have E9 := Lib.hid (show entryB each l k = true by rw [EB.out]; simp [hn, ho, h7, h8])
          clear ho hn
          gi_wp2_with (first | (refine ⟨trivial, ?_⟩; gi_at_call 57; refine (calls_wide l' (callGr (OC.out _))).mono ?_; rintro e w' ⟨pp, rfl, rfl⟩) | (refine ⟨trivial, ?_⟩; gi_at_call 58; refine (calls_wide l' (callGr (NC.out _))).mono ?_; rintro e w' ⟨pp, rfl, rfl⟩))
          exact ⟨keeps_gr _ _ _, (below_gr W _).mono INV.out.2.2.2.2, BG.out.2 E9.out, ((below_gr W _).block _ n0).trans INV.out.2.1, ((below_gr W _).block _ n1).trans INV.out.2.2.1, bl_gr' INV.out.2.2.2.1 _, by rw [gr_size]; have := INV.out.2.2.2.2; omega⟩
    · have e4 : ((each : Int) == 4) = false := beq_eq_false_iff_ne.2 (by omega)
      have EB := Lib.hid (entryB_def each l k)
      generalize vAt l (k * each) = v0 at *
      generalize vAt l (k * each + 1) = v1 at *
      generalize hq : k * each = q at *
      have HQ := Lib.hid hq
      clear hq HV h44
      cases h7 : (v0.k != 7)
      case true =>
        gi_wp2_with (refine ⟨trivial, ?_⟩)
        have R := ret_touch INV.out.2.2.2.1 INV.out.2.2.1 (by omega) w1.heap.size (.bool false)
        exact ⟨R.1, rfl, BG.out.1 (by rw [EB.out]; simp [h7]), R.2.1, R.2.2⟩
      cases h8 : (v1.k == 8)
      case true =>
        gi_wp2_with (refine ⟨trivial, ?_⟩)
        have R := ret_touch INV.out.2.2.2.1 INV.out.2.2.1 (by omega) w1.heap.size (.bool false)
        exact ⟨R.1, rfl, BG.out.1 (by rw [EB.out]; simp [h8]), R.2.1, R.2.2⟩
      gi_wp2_with (refine ⟨trivial, ?_⟩)
      exact ⟨KeepsFrom.refl _ _, Below.refl _ _, BG.out.2 (by rw [EB.out]; simp [h7, h8, e4]), INV.out.2.1, INV.out.2.2.1, INV.out.2.2.2.1, INV.out.2.2.2.2⟩
  case done =>
    rintro D ys W hD rfl ⟨ha, hh, hr, hB, hz⟩ hK
    have EA := Lib.hid (show entriesB each l = true by
      unfold entriesB
      rw [Bool.and_eq_true, List.all_eq_true, ← HME.out.2]
      exact ⟨by simp [HMD.out], fun k hk => ha ⟨k, List.mem_range.1 hk⟩ (List.mem_finRange _)⟩)
    obtain ⟨z0, z1⟩ := cells1 hr
    have R := Lib.hid (ret_touch hB hr (by omega) w1.heap.size (.bool true))
    have HD := Lib.hid (And.intro hD hK)
    have hDz := hK
    clear ha hh hr hB hz hD hK
    go_wp2
    have hK2 := R.out.1.same D _ HD.out.1 HD.out.2 rfl
    have h9 := (heap_put (.deferred none) (show w.heap.size + 1 ≠ D by have := HD.out.1; omega)).trans R.out.2.1
    obtain ⟨q0, _⟩ := cells1 h9
    refine marks_ret1 (v := .bool true) hK2 ?_ rfl ⟨ret_bool EA.out.symm, below_put R.out.2.2 (by have := HD.out.1; omega) _⟩
    simp [results, Try.results59, go_sem, q0]
  case stop =>
    rintro D c pre W hD hpre ⟨rfl, he, hr, hB⟩ hK
    have EA := Lib.hid (show entriesB each l = false by
      obtain ⟨x, hx, hxx⟩ := he
      unfold entriesB
      rw [Bool.and_eq_false_iff]
      refine .inr (List.all_eq_false.2 ⟨x.val, List.mem_range.2 (by rw [← HME.out.2]; exact x.isLt), by simp [hxx]⟩))
    have HD := Lib.hid (And.intro hD (And.intro hK (And.intro hr hB)))
    clear he hr hB hD hK
    gi_wp2
    have h9 := (heap_put (.deferred none) (show w.heap.size + 1 ≠ D by have := HD.out.1; omega)).trans HD.out.2.2.1
    obtain ⟨q0, _⟩ := cells1 h9
    refine marks_ret1 (v := .bool false) HD.out.2.1 ?_ rfl ⟨ret_bool EA.out.symm, below_put HD.out.2.2.2 (by have := HD.out.1; omega) _⟩
    simp [results, Try.results59, go_sem, q0]
end Go.Proofs.Ytdikdkllbhanfaa
