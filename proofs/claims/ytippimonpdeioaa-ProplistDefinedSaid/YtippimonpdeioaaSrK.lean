/- The reference's merge, walked. -/
import Derived.Test.YtippimonpdeioaaSrJ
namespace Go.Proofs.Ytippimonpdeioaa
set_option linter.all false
open Go.ChangeShapes Go.WideShapes Go.ChangeAt Go.RowKit Go.Sort Go.Deep

/-- a slice of a slice -/
theorem sl_cut {α : Type} {w : World} {n : Nat} {en : α → List Value} {A : Option Addr} {cap : Nat} {xs : List α} (h : SlOf w n en (.slice A xs.length cap) xs) (l u : Nat) (hl : l ≤ u) (hu : u ≤ xs.length) :
    SlOf w n en (.slice (if cap = l then A else A.map (·.add (l * n))) (u - l) (cap - l)) ((xs.take u).drop l) := by
  obtain ⟨hm, A', cap', e, hc, hx⟩ := h
  simp only [Value.slice.injEq, true_and] at e
  obtain ⟨rfl, rfl⟩ := e
  have hlen : ((xs.take u).drop l).length = u - l := by rw [List.length_drop, List.length_take]; omega
  refine ⟨by rw [hlen]; omega, _, cap - l, by rw [hlen], by rw [hlen]; omega, fun h0 => ?_⟩
  rw [hlen] at h0
  obtain ⟨b, off, rfl, hb, hx⟩ := hx (by omega)
  rw [if_neg (by omega)]
  refine ⟨b, off + l * n, by simp [add_off], hb, fun i x hi j v hj => ?_⟩
  rw [List.getElem?_drop, List.getElem?_take] at hi
  split at hi
  · have := hx (l + i) x hi j v hj
    rw [Nat.add_mul, ← Nat.add_assoc] at this
    exact this
  · cases hi
/-- a key read out of a slice -/
theorem sl_key {w : World} {b off cap : Nat} {xs : List Val} (h : SlOf w 3 Val.cs (.slice (some ⟨b, off, none⟩) xs.length cap) xs) {i : Nat} (hi : i < xs.length) :
    b < w.heap.size ∧ w.cell? ⟨b, off + i * 3, none⟩ = some (.int .i64 (kAt xs i).k) ∧ w.cell? ⟨b, off + i * 3 + 1, none⟩ = some (.int .i64 (kAt xs i).n) ∧ w.cell? ⟨b, off + i * 3 + 2, none⟩ = some (.string (kAt xs i).s) := by
  obtain ⟨b', o', c', e, _, hb, hx⟩ := h.at_ (by omega)
  simp only [Value.slice.injEq, Option.some.injEq, Addr.mk.injEq, true_and, and_true] at e
  obtain ⟨⟨rfl, rfl⟩, rfl⟩ := e
  have f := fun j u hu => hx i _ (kAt_lt hi) j u hu
  exact ⟨hb, f 0 _ rfl, f 1 _ rfl, f 2 _ rfl⟩

theorem KeysI.drew {W wr : World} {ys : List Val} {o : Value} (h : KeysI W ys o wr) : KeysI W ys o wr.drew := ⟨ownsRow_below h.1 (Below.drew (Below.refl _ _)), h.2.drew⟩
theorem meas_k {lb k p : Nat} (h : p = k + 1) (hl : k < lb) : lb - ((p : Int)).toNat < lb - ((k : Int)).toNat := by
  simp only [Int.toNat_natCast]
  omega
def MgW (w : World) (A B : List Val) (i k : Nat) (o : Value) (m : Nat) (out : List Val) (wr : World) : Prop := m = out.length ∧ MgI A B i k out ∧ KeysI w out o wr
theorem ltK_idx {a b : Val} (ha : a.k = 0) (hb : b.k = 0) : ltK a b = true ↔ a.n < b.n := by
  rw [ltK_iff]
  omega

set_option maxRecDepth 100000 in
set_option maxHeartbeats 16000000 in
theorem merged_any (w : World) (ba oa ca bb ob cb : Nat) (A B : List Val) (hA : SoK A) (hB : SoK B) (zA : ∀ x ∈ A, x.k = 0) (zB : ∀ x ∈ B, x.k = 0) (hm : A.length + B.length ≤ 3000)
    (ha : SlOf w 3 Val.cs (.slice (some ⟨ba, oa, none⟩) A.length ca) A) (hb : SlOf w 3 Val.cs (.slice (some ⟨bb, ob, none⟩) B.length cb) B) :
    Calls Try.prog 69 #[.slice (some ⟨ba, oa, none⟩) A.length ca, .slice (some ⟨bb, ob, none⟩) B.length cb] w fun e w' => ∃ u, e = .returned u ∧ ∃ L, StS (A ++ B) L ∧ RowKy w' w.heap.size u L ∧ Below w.heap.size w w' := by
  have HA := Lib.hid ha
  have HB := Lib.hid hb
  have SO := Lib.hid (And.intro hA hB)
  have ZZ := Lib.hid (And.intro zA zB)
  obtain ⟨la, hla⟩ : ∃ la, la = A.length := ⟨_, rfl⟩
  obtain ⟨lb, hlb⟩ : ∃ lb, lb = B.length := ⟨_, rfl⟩
  rw [← hla, ← hlb]
  rw [← hla] at HA
  rw [← hlb] at HB
  have LL := Lib.hid (And.intro hla (And.intro hlb hm))
  clear ha hb hA hB zA zB hla hlb hm
  go_enter Try.func69, Try.ntmps69
  go_wp2
  go_loopw [5, 6, 7] (fun o iv kv wr => ∃ (i k : Nat) (P : Option Addr) (m n : Nat) (out : List Val), iv = .int .i64 i ∧ kv = .int .i64 k ∧ o = .slice P m n ∧ Hid (MgW w A B i k (.slice P m n) m out wr)) (fun _ _ kv _ => lb - (intOf kv).toNat)
  case atStart => exact ⟨0, 0, none, 0, 0, [], rfl, rfl, rfl, Lib.hid ⟨rfl, MgI.start A B, own_nilE, Below.refl _ _⟩⟩
  case round =>
    obtain ⟨i, k, P, m, n, out, rfl, rfl, rfl, HI⟩ := hrel
    by_cases hlt : k < lb
    · have q0 : (k : Int) < (lb : Int) := by omega
      have LT := Lib.hid hlt
      clear hlt
      go_wp2
      go_loopw [5, 6] (fun o iv wr => ∃ (i : Nat) (P : Option Addr) (m n : Nat) (out : List Val), iv = .int .i64 i ∧ o = .slice P m n ∧ Hid (MgW w A B i k (.slice P m n) m out wr)) (fun _ iv _ => la - (intOf iv).toNat)
      case atStart => exact ⟨i, P, m, n, out, rfl, rfl, HI⟩
      case round =>
        clear HI
        obtain ⟨i, P, m, n, out, rfl, rfl, HI⟩ := hrel
        obtain ⟨lb0, y0, y1, y2⟩ := sl_key (by have := HB.out.below HI.out.2.2.2; rwa [LL.out.2.1] at this) (i := k) (by have := LT.out; have := LL.out.2.1; omega)
        have g1 : (k : Int) < (lb : Int) := q0
        have g2 : ¬ (k : Int) < 0 := by omega
        have BW := Lib.hid HI.out.2.2.2
        have YL := Lib.hid (show ∀ x, (out ++ [x]).length ≤ 3000 from fun x => by
          have h1 := HI.out.2.1.len
          have h2 := HI.out.2.1.hi
          have h3 := HI.out.2.1.hk
          have h4 := LL.out.2.2
          have h5 := LT.out
          have h6 := LL.out.2.1
          rw [List.length_append, List.length_singleton]
          omega)
        have UB := Lib.hid (show (i = A.length ∨ ltK (kAt B k) (kAt A i) = true) → MgI A B i (k + 1) (out ++ [kAt B k]) from fun h => HI.out.2.1.stepB SO.out.1 SO.out.2 (by have := LT.out; have := LL.out.2.1; omega) h)
        obtain ⟨kp, hkp, ek1⟩ := up_w (k := k) (n := 3001) (by have := LT.out; have := LL.out; omega) (by decide)
        have KP := Lib.hid hkp
        rw [← hkp] at UB
        clear hkp
        by_cases hia : i < la
        · have g3 : (i : Int) < (la : Int) := by omega
          have g4 : ¬ (i : Int) < 0 := by omega
          obtain ⟨la0, x0, x1, x2⟩ := sl_key (by have := HA.out.below HI.out.2.2.2; rwa [LL.out.1] at this) (i := i) (by have := LL.out.1; omega)
          obtain ⟨ip, hip, ei1⟩ := up_w (k := i) (n := 3001) (by have := LL.out; omega) (by decide)
          have IP := Lib.hid (And.intro hip hia)
          have kz : (kAt A i).k = 0 := ZZ.out.1 _ (kAt_mem (by rw [← LL.out.1]; exact IP.out.2))
          have kz2 : (kAt B k).k = 0 := ZZ.out.2 _ (kAt_mem (by rw [← LL.out.2.1]; exact LT.out))
          have UA := Lib.hid (show (kAt A i).n ≤ (kAt B k).n → MgI A B ip k (out ++ [kAt A i]) from fun h => by
            rw [hip]
            exact HI.out.2.1.stepA SO.out.1 SO.out.2 (by rw [← LL.out.1]; exact IP.out.2) (by rw [← LL.out.2.1]; exact LT.out) (by
              unfold leK
              rw [← Bool.not_eq_true, ltK_idx kz2 kz]
              exact Int.not_lt.2 h))
          have UB := Lib.hid (show ¬ (kAt A i).n ≤ (kAt B k).n → MgI A B i kp (out ++ [kAt B k]) from fun h => UB.out (.inr ((ltK_idx kz2 kz).2 (Int.not_le.1 h))))
          clear hip hia kz kz2
          generalize kAt A i = x at *
          generalize kAt B k = y at *
          by_cases hc : x.n ≤ y.n
          · have UA2 := Lib.hid (UA.out hc)
            clear UA UB
            go_upto_region 6 with fail
            (refine wp_region_held_drew (S := (fun Z : World => Z.cell? ⟨ba, oa + i * 3 + 1, none⟩ = some (.int .i64 x.n) ∧ Z.cell? ⟨bb, ob + k * 3 + 1, none⟩ = some (.int .i64 y.n))) Try.mixed (by (and_intros <;> go_simp)) (fun hS => ?_); (refine wpAnyH_take (i := 0) (v := ?_) rfl (by kernel_rfl) (by kernel_rfl) (by kernel_rfl) (fun _ _ _ h => h) ?_ (by assumption) ?_; rotate_left; (next => (refine Or.inl ⟨by kernel_rfl, ?_⟩; ((intro w hSw; (try dsimp only at hSw); go_simp) <;> with_reducible rfl))); (try simp only [Act.put, List.setIfInBounds_toArray, List.set_cons_zero, List.set_cons_succ])); (refine wpAnyH_take (i := 1) (v := ?_) rfl (by kernel_rfl) (by kernel_rfl) (by kernel_rfl) (fun _ _ _ h => h) ?_ (by assumption) ?_; rotate_left; (next => (refine Or.inl ⟨by kernel_rfl, ?_⟩; ((intro w hSw; (try dsimp only at hSw); go_simp) <;> with_reducible rfl))); (try simp only [Act.put, List.setIfInBounds_toArray, List.set_cons_zero, List.set_cons_succ])); (refine wpAnyH_take (i := 2) (v := ?_) rfl (by kernel_rfl) (by kernel_rfl) (by kernel_rfl) (fun _ _ _ h => h) ?_ (by assumption) ?_; rotate_left; (next => (refine Or.inl ⟨by kernel_rfl, ?_⟩; ((intro w hSw; (try dsimp only at hSw); go_simp) <;> with_reducible rfl))); (try simp only [Act.put, List.setIfInBounds_toArray, List.set_cons_zero, List.set_cons_succ])); (refine wpAnyH_take (i := 3) (v := ?_) rfl (by kernel_rfl) (by kernel_rfl) (by kernel_rfl) (fun _ _ _ h => h) ?_ (by assumption) ?_; rotate_left; (next => (refine Or.inl ⟨by kernel_rfl, ?_⟩; ((intro w hSw; (try dsimp only at hSw); go_simp) <;> with_reducible rfl))); (try simp only [Act.put, List.setIfInBounds_toArray, List.set_cons_zero, List.set_cons_succ])); (refine wpAnyH_take (i := 4) (v := ?_) rfl (by kernel_rfl) (by kernel_rfl) (by kernel_rfl) (fun _ _ _ h => h) ?_ (by assumption) ?_; rotate_left; (next => (refine Or.inl ⟨by kernel_rfl, ?_⟩; ((intro w hSw; (try dsimp only at hSw); go_simp) <;> with_reducible rfl))); (try simp only [Act.put, List.setIfInBounds_toArray, List.set_cons_zero, List.set_cons_succ])); (refine wpAnyH_take (i := 5) (v := ?_) rfl (by kernel_rfl) (by kernel_rfl) (by kernel_rfl) (fun _ _ _ h => h) ?_ (by assumption) ?_; rotate_left; (next => (refine Or.inl ⟨by kernel_rfl, ?_⟩; ((intro w hSw; (try dsimp only at hSw); go_simp) <;> with_reducible rfl))); (try simp only [Act.put, List.setIfInBounds_toArray, List.set_cons_zero, List.set_cons_succ])); (refine wpAnyH_take (i := 6) (v := ?_) rfl (by kernel_rfl) (by kernel_rfl) (by kernel_rfl) (fun _ _ _ h => h) ?_ (by assumption) ?_; rotate_left; (next => (refine Or.inl ⟨by kernel_rfl, ?_⟩; ((intro w hSw; (try dsimp only at hSw); go_simp) <;> with_reducible rfl))); (try simp only [Act.put, List.setIfInBounds_toArray, List.set_cons_zero, List.set_cons_succ])); (refine wpAnyH_take (i := 7) (v := ?_) rfl (by kernel_rfl) (by kernel_rfl) (by kernel_rfl) (fun _ _ _ h => h) ?_ (by assumption) ?_; rotate_left; (next => (refine Or.inl ⟨by kernel_rfl, ?_⟩; ((intro w hSw; (try dsimp only at hSw); go_simp) <;> with_reducible rfl))); (try simp only [Act.put, List.setIfInBounds_toArray, List.set_cons_zero, List.set_cons_succ])); (refine wpAnyH_take (i := 8) (v := ?_) rfl (by kernel_rfl) (by kernel_rfl) (by kernel_rfl) (fun _ _ _ h => h) ?_ (by assumption) ?_; rotate_left; (next => (refine Or.inl ⟨by kernel_rfl, ?_⟩; ((intro w hSw; (try dsimp only at hSw); go_simp) <;> with_reducible rfl))); (try simp only [Act.put, List.setIfInBounds_toArray, List.set_cons_zero, List.set_cons_succ])); (refine wpAnyH_take (i := 9) (v := ?_) rfl (by kernel_rfl) (by kernel_rfl) (by kernel_rfl) (fun _ _ _ h => h) ?_ (by assumption) ?_; rotate_left; (next => (refine Or.inl ⟨by kernel_rfl, ?_⟩; ((intro w hSw; (try dsimp only at hSw); obtain ⟨s0, s1⟩ := hSw; go_simp) <;> with_reducible rfl))); (try simp only [Act.put, List.setIfInBounds_toArray, List.set_cons_zero, List.set_cons_succ])); (refine wpAnyH_take (i := 10) (v := ?_) rfl (by kernel_rfl) (by kernel_rfl) (by kernel_rfl) (fun _ _ _ h => h) ?_ (by assumption) ?_; rotate_left; (next => (refine Or.inl ⟨by kernel_rfl, ?_⟩; ((intro w hSw; (try dsimp only at hSw); go_simp) <;> with_reducible rfl))); (try simp only [Act.put, List.setIfInBounds_toArray, List.set_cons_zero, List.set_cons_succ])); (refine wpAnyH_take (i := 11) (v := ?_) rfl (by kernel_rfl) (by kernel_rfl) (by kernel_rfl) (fun _ _ _ h => h) ?_ (by assumption) ?_; rotate_left; (next => (refine Or.inl ⟨by kernel_rfl, ?_⟩; ((intro w hSw; (try dsimp only at hSw); go_simp) <;> with_reducible rfl))); (try simp only [Act.put, List.setIfInBounds_toArray, List.set_cons_zero, List.set_cons_succ])); (refine wpAnyH_take (i := 12) (v := ?_) rfl (by kernel_rfl) (by kernel_rfl) (by kernel_rfl) (fun _ _ _ h => h) ?_ (by assumption) ?_; rotate_left; (next => (refine Or.inl ⟨by kernel_rfl, ?_⟩; ((intro w hSw; (try dsimp only at hSw); go_simp) <;> with_reducible rfl))); (try simp only [Act.put, List.setIfInBounds_toArray, List.set_cons_zero, List.set_cons_succ])); (refine wpAnyH_take (i := 13) (v := ?_) rfl (by kernel_rfl) (by kernel_rfl) (by kernel_rfl) (fun _ _ _ h => h) ?_ (by assumption) ?_; rotate_left; (next => (refine Or.inl ⟨by kernel_rfl, ?_⟩; ((intro w hSw; (try dsimp only at hSw); go_simp) <;> with_reducible rfl))); (try simp only [Act.put, List.setIfInBounds_toArray, List.set_cons_zero, List.set_cons_succ])); (refine wpAnyH_take (i := 14) (v := ?_) rfl (by kernel_rfl) (by kernel_rfl) (by kernel_rfl) (fun _ _ _ h => h) ?_ (by assumption) ?_; rotate_left; (next => (refine Or.inl ⟨by kernel_rfl, ?_⟩; ((intro w hSw; (try dsimp only at hSw); obtain ⟨s0, s1⟩ := hSw; go_simp) <;> with_reducible rfl))); (try simp only [Act.put, List.setIfInBounds_toArray, List.set_cons_zero, List.set_cons_succ])); (refine wpAnyH_take (i := 15) (v := ?_) rfl (by kernel_rfl) (by kernel_rfl) (by kernel_rfl) (fun _ _ _ h => h) ?_ (by assumption) ?_; rotate_left; (next => (refine Or.inl ⟨by kernel_rfl, ?_⟩; ((intro w hSw; (try dsimp only at hSw); go_simp) <;> with_reducible rfl))); (try simp only [Act.put, List.setIfInBounds_toArray, List.set_cons_zero, List.set_cons_succ])); (refine wpAnyH_take (i := 16) (v := ?_) rfl (by kernel_rfl) (by kernel_rfl) (by kernel_rfl) (fun _ _ _ h => h) ?_ (by assumption) ?_; rotate_left; (next => (refine Or.inl ⟨by kernel_rfl, ?_⟩; ((intro w hSw; (try dsimp only at hSw); go_simp) <;> with_reducible rfl))); (try simp only [Act.put, List.setIfInBounds_toArray, List.set_cons_zero, List.set_cons_succ])); refine wpAnyH_done (by kernel_rfl) ?_ _)
            go_simp
            go_upto_region 7 with fail
            refine wp_worldS (fun X => KeysI w out (.slice P m n) X ∧ ba < X.heap.size ∧ X.cell? ⟨ba, oa + i * 3, none⟩ = some (.int .i64 x.k) ∧ X.cell? ⟨ba, oa + i * 3 + 1, none⟩ = some (.int .i64 x.n) ∧ X.cell? ⟨ba, oa + i * 3 + 2, none⟩ = some (.string x.s)) ⟨HI.out.2.2.drew, la0, x0, x1, x2⟩ ?_
            clear x0 x1 x2 y0 y1 y2 la0 lb0
            rintro X ⟨hX, la0, x0, x1, x2⟩
            have HX := Lib.hid hX
            have LW := Lib.hid hX.2.size
            have lbn : ∀ u, ba < X.heap.size + u := fun u => Nat.lt_of_lt_of_le la0 (Nat.le_add_right _ _)
            clear hX
            go_wp2_with (at_builtin; refine wpList_appG elem_key rfl _ _ rfl w.heap.size out [x] (yv := .slice P m n) (sv := .slice (some ⟨X.heap.size, 0, none⟩) 1 1) rfl rfl (ownsRow_below HX.out.1 (bl_al (Below.refl _ _) _)) (by have := LW.out; rw [World.size_alloc]; omega) (sl_oneE (heap_alloc_new _ _) rfl) (by have := YL.out x; omega) (by have := YL.out x; omega) ?_; intro A5 n5 w5 o5 g5; obtain ⟨m5, hm5⟩ : ∃ m5, m5 = (out ++ [x]).length := ⟨_, rfl⟩; rw [← hm5]; have M5 := Lib.hid hm5; have R5 := Lib.hid (HX.out.app (Below.refl _ _) g5 o5); clear hm5 g5 o5)
            go_roundw
            case rel => exact ⟨ip, A5, m5, n5, out ++ [x], by first | with_reducible rfl | rw [ei1], rfl, Lib.hid ⟨M5.out, UA2.out, by rw [M5.out]; exact R5.out⟩⟩
            case measure => ((try rw [ei1]); exact meas_k IP.out.1 IP.out.2)
          · have UB2 := Lib.hid (UB.out hc)
            clear UA UB
            go_upto_region 6 with fail
            (refine wp_region_held_drew (S := (fun Z : World => Z.cell? ⟨ba, oa + i * 3 + 1, none⟩ = some (.int .i64 x.n) ∧ Z.cell? ⟨bb, ob + k * 3 + 1, none⟩ = some (.int .i64 y.n))) Try.mixed (by (and_intros <;> go_simp)) (fun hS => ?_); (refine wpAnyH_take (i := 0) (v := ?_) rfl (by kernel_rfl) (by kernel_rfl) (by kernel_rfl) (fun _ _ _ h => h) ?_ (by assumption) ?_; rotate_left; (next => (refine Or.inl ⟨by kernel_rfl, ?_⟩; ((intro w hSw; (try dsimp only at hSw); go_simp) <;> with_reducible rfl))); (try simp only [Act.put, List.setIfInBounds_toArray, List.set_cons_zero, List.set_cons_succ])); (refine wpAnyH_take (i := 1) (v := ?_) rfl (by kernel_rfl) (by kernel_rfl) (by kernel_rfl) (fun _ _ _ h => h) ?_ (by assumption) ?_; rotate_left; (next => (refine Or.inl ⟨by kernel_rfl, ?_⟩; ((intro w hSw; (try dsimp only at hSw); go_simp) <;> with_reducible rfl))); (try simp only [Act.put, List.setIfInBounds_toArray, List.set_cons_zero, List.set_cons_succ])); (refine wpAnyH_take (i := 2) (v := ?_) rfl (by kernel_rfl) (by kernel_rfl) (by kernel_rfl) (fun _ _ _ h => h) ?_ (by assumption) ?_; rotate_left; (next => (refine Or.inl ⟨by kernel_rfl, ?_⟩; ((intro w hSw; (try dsimp only at hSw); go_simp) <;> with_reducible rfl))); (try simp only [Act.put, List.setIfInBounds_toArray, List.set_cons_zero, List.set_cons_succ])); (refine wpAnyH_take (i := 3) (v := ?_) rfl (by kernel_rfl) (by kernel_rfl) (by kernel_rfl) (fun _ _ _ h => h) ?_ (by assumption) ?_; rotate_left; (next => (refine Or.inl ⟨by kernel_rfl, ?_⟩; ((intro w hSw; (try dsimp only at hSw); go_simp) <;> with_reducible rfl))); (try simp only [Act.put, List.setIfInBounds_toArray, List.set_cons_zero, List.set_cons_succ])); (refine wpAnyH_take (i := 4) (v := ?_) rfl (by kernel_rfl) (by kernel_rfl) (by kernel_rfl) (fun _ _ _ h => h) ?_ (by assumption) ?_; rotate_left; (next => (refine Or.inl ⟨by kernel_rfl, ?_⟩; ((intro w hSw; (try dsimp only at hSw); go_simp) <;> with_reducible rfl))); (try simp only [Act.put, List.setIfInBounds_toArray, List.set_cons_zero, List.set_cons_succ])); (refine wpAnyH_take (i := 5) (v := ?_) rfl (by kernel_rfl) (by kernel_rfl) (by kernel_rfl) (fun _ _ _ h => h) ?_ (by assumption) ?_; rotate_left; (next => (refine Or.inl ⟨by kernel_rfl, ?_⟩; ((intro w hSw; (try dsimp only at hSw); go_simp) <;> with_reducible rfl))); (try simp only [Act.put, List.setIfInBounds_toArray, List.set_cons_zero, List.set_cons_succ])); (refine wpAnyH_take (i := 6) (v := ?_) rfl (by kernel_rfl) (by kernel_rfl) (by kernel_rfl) (fun _ _ _ h => h) ?_ (by assumption) ?_; rotate_left; (next => (refine Or.inl ⟨by kernel_rfl, ?_⟩; ((intro w hSw; (try dsimp only at hSw); go_simp) <;> with_reducible rfl))); (try simp only [Act.put, List.setIfInBounds_toArray, List.set_cons_zero, List.set_cons_succ])); (refine wpAnyH_take (i := 7) (v := ?_) rfl (by kernel_rfl) (by kernel_rfl) (by kernel_rfl) (fun _ _ _ h => h) ?_ (by assumption) ?_; rotate_left; (next => (refine Or.inl ⟨by kernel_rfl, ?_⟩; ((intro w hSw; (try dsimp only at hSw); go_simp) <;> with_reducible rfl))); (try simp only [Act.put, List.setIfInBounds_toArray, List.set_cons_zero, List.set_cons_succ])); (refine wpAnyH_take (i := 8) (v := ?_) rfl (by kernel_rfl) (by kernel_rfl) (by kernel_rfl) (fun _ _ _ h => h) ?_ (by assumption) ?_; rotate_left; (next => (refine Or.inl ⟨by kernel_rfl, ?_⟩; ((intro w hSw; (try dsimp only at hSw); go_simp) <;> with_reducible rfl))); (try simp only [Act.put, List.setIfInBounds_toArray, List.set_cons_zero, List.set_cons_succ])); (refine wpAnyH_take (i := 9) (v := ?_) rfl (by kernel_rfl) (by kernel_rfl) (by kernel_rfl) (fun _ _ _ h => h) ?_ (by assumption) ?_; rotate_left; (next => (refine Or.inl ⟨by kernel_rfl, ?_⟩; ((intro w hSw; (try dsimp only at hSw); obtain ⟨s0, s1⟩ := hSw; go_simp) <;> with_reducible rfl))); (try simp only [Act.put, List.setIfInBounds_toArray, List.set_cons_zero, List.set_cons_succ])); (refine wpAnyH_take (i := 10) (v := ?_) rfl (by kernel_rfl) (by kernel_rfl) (by kernel_rfl) (fun _ _ _ h => h) ?_ (by assumption) ?_; rotate_left; (next => (refine Or.inl ⟨by kernel_rfl, ?_⟩; ((intro w hSw; (try dsimp only at hSw); go_simp) <;> with_reducible rfl))); (try simp only [Act.put, List.setIfInBounds_toArray, List.set_cons_zero, List.set_cons_succ])); (refine wpAnyH_take (i := 11) (v := ?_) rfl (by kernel_rfl) (by kernel_rfl) (by kernel_rfl) (fun _ _ _ h => h) ?_ (by assumption) ?_; rotate_left; (next => (refine Or.inl ⟨by kernel_rfl, ?_⟩; ((intro w hSw; (try dsimp only at hSw); go_simp) <;> with_reducible rfl))); (try simp only [Act.put, List.setIfInBounds_toArray, List.set_cons_zero, List.set_cons_succ])); (refine wpAnyH_take (i := 12) (v := ?_) rfl (by kernel_rfl) (by kernel_rfl) (by kernel_rfl) (fun _ _ _ h => h) ?_ (by assumption) ?_; rotate_left; (next => (refine Or.inl ⟨by kernel_rfl, ?_⟩; ((intro w hSw; (try dsimp only at hSw); go_simp) <;> with_reducible rfl))); (try simp only [Act.put, List.setIfInBounds_toArray, List.set_cons_zero, List.set_cons_succ])); (refine wpAnyH_take (i := 13) (v := ?_) rfl (by kernel_rfl) (by kernel_rfl) (by kernel_rfl) (fun _ _ _ h => h) ?_ (by assumption) ?_; rotate_left; (next => (refine Or.inl ⟨by kernel_rfl, ?_⟩; ((intro w hSw; (try dsimp only at hSw); go_simp) <;> with_reducible rfl))); (try simp only [Act.put, List.setIfInBounds_toArray, List.set_cons_zero, List.set_cons_succ])); (refine wpAnyH_take (i := 14) (v := ?_) rfl (by kernel_rfl) (by kernel_rfl) (by kernel_rfl) (fun _ _ _ h => h) ?_ (by assumption) ?_; rotate_left; (next => (refine Or.inl ⟨by kernel_rfl, ?_⟩; ((intro w hSw; (try dsimp only at hSw); obtain ⟨s0, s1⟩ := hSw; go_simp) <;> with_reducible rfl))); (try simp only [Act.put, List.setIfInBounds_toArray, List.set_cons_zero, List.set_cons_succ])); (refine wpAnyH_take (i := 15) (v := ?_) rfl (by kernel_rfl) (by kernel_rfl) (by kernel_rfl) (fun _ _ _ h => h) ?_ (by assumption) ?_; rotate_left; (next => (refine Or.inl ⟨by kernel_rfl, ?_⟩; ((intro w hSw; (try dsimp only at hSw); go_simp) <;> with_reducible rfl))); (try simp only [Act.put, List.setIfInBounds_toArray, List.set_cons_zero, List.set_cons_succ])); (refine wpAnyH_take (i := 16) (v := ?_) rfl (by kernel_rfl) (by kernel_rfl) (by kernel_rfl) (fun _ _ _ h => h) ?_ (by assumption) ?_; rotate_left; (next => (refine Or.inl ⟨by kernel_rfl, ?_⟩; ((intro w hSw; (try dsimp only at hSw); go_simp) <;> with_reducible rfl))); (try simp only [Act.put, List.setIfInBounds_toArray, List.set_cons_zero, List.set_cons_succ])); refine wpAnyH_done (by kernel_rfl) ?_ _)
            go_simp
            go_upto_region 9 with fail
            refine wp_worldS (fun X => KeysI w out (.slice P m n) X ∧ bb < X.heap.size ∧ X.cell? ⟨bb, ob + k * 3, none⟩ = some (.int .i64 y.k) ∧ X.cell? ⟨bb, ob + k * 3 + 1, none⟩ = some (.int .i64 y.n) ∧ X.cell? ⟨bb, ob + k * 3 + 2, none⟩ = some (.string y.s)) ⟨HI.out.2.2.drew, lb0, y0, y1, y2⟩ ?_
            clear x0 x1 x2 y0 y1 y2 la0 lb0
            rintro X ⟨hX, lb0, y0, y1, y2⟩
            have HX := Lib.hid hX
            have LW := Lib.hid hX.2.size
            have lbn : ∀ u, bb < X.heap.size + u := fun u => Nat.lt_of_lt_of_le lb0 (Nat.le_add_right _ _)
            clear hX
            go_wp2_with (at_builtin; refine wpList_appG elem_key rfl _ _ rfl w.heap.size out [y] (yv := .slice P m n) (sv := .slice (some ⟨X.heap.size, 0, none⟩) 1 1) rfl rfl (ownsRow_below HX.out.1 (bl_al (Below.refl _ _) _)) (by have := LW.out; rw [World.size_alloc]; omega) (sl_oneE (heap_alloc_new _ _) rfl) (by have := YL.out y; omega) (by have := YL.out y; omega) ?_; intro A5 n5 w5 o5 g5; obtain ⟨m5, hm5⟩ : ∃ m5, m5 = (out ++ [y]).length := ⟨_, rfl⟩; rw [← hm5]; have M5 := Lib.hid hm5; have R5 := Lib.hid (HX.out.app (Below.refl _ _) g5 o5); clear hm5 g5 o5)
            go_roundw
            case rel => exact ⟨i, kp, A5, m5, n5, out ++ [y], rfl, by first | with_reducible rfl | rw [ek1], rfl, Lib.hid ⟨M5.out, UB2.out, by rw [M5.out]; exact R5.out⟩⟩
            case measure => ((try rw [ek1]); exact meas_k KP.out LT.out)
        · have g3 : ¬ (i : Int) < (la : Int) := by omega
          have UB2 := Lib.hid (UB.out (.inl (by have := HI.out.2.1.hi; have := LL.out.1; clear ek1; omega)))
          clear UB hia
          generalize kAt B k = y at *
          go_upto_region 6 with fail
          (refine wp_region_held_drew (S := (fun _ : World => True)) Try.mixed (by trivial) (fun hS => ?_); (refine wpAnyH_take (i := 0) (v := ?_) rfl (by kernel_rfl) (by kernel_rfl) (by kernel_rfl) (fun _ _ _ h => h) ?_ (by assumption) ?_; rotate_left; (next => (refine Or.inl ⟨by kernel_rfl, ?_⟩; ((intro w hSw; (try dsimp only at hSw); go_simp) <;> with_reducible rfl))); (try simp only [Act.put, List.setIfInBounds_toArray, List.set_cons_zero, List.set_cons_succ])); (refine wpAnyH_take (i := 1) (v := ?_) rfl (by kernel_rfl) (by kernel_rfl) (by kernel_rfl) (fun _ _ _ h => h) ?_ (by assumption) ?_; rotate_left; (next => (refine Or.inl ⟨by kernel_rfl, ?_⟩; ((intro w hSw; (try dsimp only at hSw); go_simp) <;> with_reducible rfl))); (try simp only [Act.put, List.setIfInBounds_toArray, List.set_cons_zero, List.set_cons_succ])); (refine wpAnyH_take (i := 2) (v := ?_) rfl (by kernel_rfl) (by kernel_rfl) (by kernel_rfl) (fun _ _ _ h => h) ?_ (by assumption) ?_; rotate_left; (next => (refine Or.inl ⟨by kernel_rfl, ?_⟩; ((intro w hSw; (try dsimp only at hSw); go_simp) <;> with_reducible rfl))); (try simp only [Act.put, List.setIfInBounds_toArray, List.set_cons_zero, List.set_cons_succ])); (refine wpAnyH_take (i := 3) (v := ?_) rfl (by kernel_rfl) (by kernel_rfl) (by kernel_rfl) (fun _ _ _ h => h) ?_ (by assumption) ?_; rotate_left; (next => (refine Or.inl ⟨by kernel_rfl, ?_⟩; ((intro w hSw; (try dsimp only at hSw); go_simp) <;> with_reducible rfl))); (try simp only [Act.put, List.setIfInBounds_toArray, List.set_cons_zero, List.set_cons_succ])); (refine wpAnyH_take (i := 4) (v := ?_) rfl (by kernel_rfl) (by kernel_rfl) (by kernel_rfl) (fun _ _ _ h => h) ?_ (by assumption) ?_; rotate_left; (next => (refine Or.inl ⟨by kernel_rfl, ?_⟩; ((intro w hSw; (try dsimp only at hSw); go_simp) <;> with_reducible rfl))); (try simp only [Act.put, List.setIfInBounds_toArray, List.set_cons_zero, List.set_cons_succ])); (refine wpAnyH_take (i := 5) (v := ?_) rfl (by kernel_rfl) (by kernel_rfl) (by kernel_rfl) (fun _ _ _ h => h) ?_ (by assumption) ?_; rotate_left; (next => (refine Or.inr ⟨by kernel_rfl, ?_⟩; with_reducible rfl)); (try simp only [Act.put, List.setIfInBounds_toArray, List.set_cons_zero, List.set_cons_succ])); (refine wpAnyH_take (i := 6) (v := ?_) rfl (by kernel_rfl) (by kernel_rfl) (by kernel_rfl) (fun _ _ _ h => h) ?_ (by assumption) ?_; rotate_left; (next => (refine Or.inr ⟨by kernel_rfl, ?_⟩; with_reducible rfl)); (try simp only [Act.put, List.setIfInBounds_toArray, List.set_cons_zero, List.set_cons_succ])); (refine wpAnyH_take (i := 7) (v := ?_) rfl (by kernel_rfl) (by kernel_rfl) (by kernel_rfl) (fun _ _ _ h => h) ?_ (by assumption) ?_; rotate_left; (next => (refine Or.inr ⟨by kernel_rfl, ?_⟩; with_reducible rfl)); (try simp only [Act.put, List.setIfInBounds_toArray, List.set_cons_zero, List.set_cons_succ])); (refine wpAnyH_take (i := 8) (v := ?_) rfl (by kernel_rfl) (by kernel_rfl) (by kernel_rfl) (fun _ _ _ h => h) ?_ (by assumption) ?_; rotate_left; (next => (refine Or.inr ⟨by kernel_rfl, ?_⟩; with_reducible rfl)); (try simp only [Act.put, List.setIfInBounds_toArray, List.set_cons_zero, List.set_cons_succ])); (refine wpAnyH_take (i := 9) (v := ?_) rfl (by kernel_rfl) (by kernel_rfl) (by kernel_rfl) (fun _ _ _ h => h) ?_ (by assumption) ?_; rotate_left; (next => (refine Or.inr ⟨by kernel_rfl, ?_⟩; with_reducible rfl)); (try simp only [Act.put, List.setIfInBounds_toArray, List.set_cons_zero, List.set_cons_succ])); (refine wpAnyH_take (i := 10) (v := ?_) rfl (by kernel_rfl) (by kernel_rfl) (by kernel_rfl) (fun _ _ _ h => h) ?_ (by assumption) ?_; rotate_left; (next => (refine Or.inr ⟨by kernel_rfl, ?_⟩; with_reducible rfl)); (try simp only [Act.put, List.setIfInBounds_toArray, List.set_cons_zero, List.set_cons_succ])); (refine wpAnyH_take (i := 11) (v := ?_) rfl (by kernel_rfl) (by kernel_rfl) (by kernel_rfl) (fun _ _ _ h => h) ?_ (by assumption) ?_; rotate_left; (next => (refine Or.inr ⟨by kernel_rfl, ?_⟩; with_reducible rfl)); (try simp only [Act.put, List.setIfInBounds_toArray, List.set_cons_zero, List.set_cons_succ])); (refine wpAnyH_take (i := 12) (v := ?_) rfl (by kernel_rfl) (by kernel_rfl) (by kernel_rfl) (fun _ _ _ h => h) ?_ (by assumption) ?_; rotate_left; (next => (refine Or.inr ⟨by kernel_rfl, ?_⟩; with_reducible rfl)); (try simp only [Act.put, List.setIfInBounds_toArray, List.set_cons_zero, List.set_cons_succ])); (refine wpAnyH_take (i := 13) (v := ?_) rfl (by kernel_rfl) (by kernel_rfl) (by kernel_rfl) (fun _ _ _ h => h) ?_ (by assumption) ?_; rotate_left; (next => (refine Or.inr ⟨by kernel_rfl, ?_⟩; with_reducible rfl)); (try simp only [Act.put, List.setIfInBounds_toArray, List.set_cons_zero, List.set_cons_succ])); (refine wpAnyH_take (i := 14) (v := ?_) rfl (by kernel_rfl) (by kernel_rfl) (by kernel_rfl) (fun _ _ _ h => h) ?_ (by assumption) ?_; rotate_left; (next => (refine Or.inr ⟨by kernel_rfl, ?_⟩; with_reducible rfl)); (try simp only [Act.put, List.setIfInBounds_toArray, List.set_cons_zero, List.set_cons_succ])); (refine wpAnyH_take (i := 15) (v := ?_) rfl (by kernel_rfl) (by kernel_rfl) (by kernel_rfl) (fun _ _ _ h => h) ?_ (by assumption) ?_; rotate_left; (next => (refine Or.inr ⟨by kernel_rfl, ?_⟩; with_reducible rfl)); (try simp only [Act.put, List.setIfInBounds_toArray, List.set_cons_zero, List.set_cons_succ])); (refine wpAnyH_take (i := 16) (v := ?_) rfl (by kernel_rfl) (by kernel_rfl) (by kernel_rfl) (fun _ _ _ h => h) ?_ (by assumption) ?_; rotate_left; (next => (refine Or.inl ⟨by kernel_rfl, ?_⟩; ((intro w hSw; (try dsimp only at hSw); go_simp) <;> with_reducible rfl))); (try simp only [Act.put, List.setIfInBounds_toArray, List.set_cons_zero, List.set_cons_succ])); refine wpAnyH_done (by kernel_rfl) ?_ _)
          go_simp
          go_upto_region 9 with fail
          refine wp_worldS (fun X => KeysI w out (.slice P m n) X ∧ bb < X.heap.size ∧ X.cell? ⟨bb, ob + k * 3, none⟩ = some (.int .i64 y.k) ∧ X.cell? ⟨bb, ob + k * 3 + 1, none⟩ = some (.int .i64 y.n) ∧ X.cell? ⟨bb, ob + k * 3 + 2, none⟩ = some (.string y.s)) ⟨HI.out.2.2.drew, lb0, y0, y1, y2⟩ ?_
          clear y0 y1 y2 lb0
          rintro X ⟨hX, lb0, y0, y1, y2⟩
          have HX := Lib.hid hX
          have LW := Lib.hid hX.2.size
          have lbn : ∀ u, bb < X.heap.size + u := fun u => Nat.lt_of_lt_of_le lb0 (Nat.le_add_right _ _)
          clear hX
          go_wp2_with (at_builtin; refine wpList_appG elem_key rfl _ _ rfl w.heap.size out [y] (yv := .slice P m n) (sv := .slice (some ⟨X.heap.size, 0, none⟩) 1 1) rfl rfl (ownsRow_below HX.out.1 (bl_al (Below.refl _ _) _)) (by have := LW.out; rw [World.size_alloc]; omega) (sl_oneE (heap_alloc_new _ _) rfl) (by have := YL.out y; omega) (by have := YL.out y; omega) ?_; intro A5 n5 w5 o5 g5; obtain ⟨m5, hm5⟩ : ∃ m5, m5 = (out ++ [y]).length := ⟨_, rfl⟩; rw [← hm5]; have M5 := Lib.hid hm5; have R5 := Lib.hid (HX.out.app (Below.refl _ _) g5 o5); clear hm5 g5 o5)
          go_roundw
          case rel => exact ⟨i, kp, A5, m5, n5, out ++ [y], rfl, by first | with_reducible rfl | rw [ek1], rfl, Lib.hid ⟨M5.out, UB2.out, by rw [M5.out]; exact R5.out⟩⟩
          case measure => ((try rw [ek1]); exact meas_k KP.out LT.out)
    · have q0 : ¬ (k : Int) < (lb : Int) := by omega
      have hkb : k = B.length := by have := HI.out.2.1.hk; have := LL.out.2.1; omega
      have DN := Lib.hid (show StS (A ++ B) (out ++ A.drop i) from MgI.done (by rw [← hkb]; exact HI.out.2.1) SO.out.1)
      have i1 : i ≤ la := by have := HI.out.2.1.hi; have := LL.out.1; omega
      have g5 : (i : Int) ≤ (la : Int) := by omega
      have g6 : ¬ (i : Int) < 0 := by omega
      have SC := Lib.hid (show SlOf wr 3 Val.cs (.slice (if ca = i then some ⟨ba, oa, none⟩ else (some (⟨ba, oa, none⟩ : Addr)).map (·.add (i * 3))) (la - i) (ca - i)) (A.drop i) from by
        have h0 := HA.out.below HI.out.2.2.2
        rw [LL.out.1] at h0 ⊢
        have := sl_cut h0 i A.length (by have := LL.out.1; omega) (Nat.le_refl _)
        rwa [List.take_length] at this)
      have YL := Lib.hid (show (out ++ A.drop i).length ≤ 3000 from by
        have h0 := DN.out.2.len
        have := LL.out.2.2
        rw [h0, List.length_append]
        omega)
      have LW := Lib.hid HI.out.2.2.2.size
      clear hkb hlt i1
      by_cases hci : ca = i
      · subst hci
        have SC2 := Lib.hid (show SlOf wr 3 Val.cs (.slice (some ⟨ba, oa, none⟩) (la - ca) (ca - ca)) (A.drop ca) from by
          have := SC.out
          rwa [if_pos rfl] at this)
        clear SC
        go_wp2_with (at_builtin; refine wpList_appG elem_key rfl _ _ rfl w.heap.size out (A.drop ca) (yv := .slice P m n) rfl rfl HI.out.2.2.1 LW.out ?_ (by have := YL.out; omega) (by have := YL.out; omega) ?_; (next => (first | exact SC2.out | (have h := SC2.out; rw [Nat.sub_self] at h; exact h))); intro A5 n5 w5 o5 g5; obtain ⟨m5, hm5⟩ : ∃ m5, m5 = (out ++ A.drop ca).length := ⟨_, rfl⟩; rw [← hm5]; have M5 := Lib.hid hm5; have R5 := Lib.hid (And.intro o5 (grown_lo HI.out.2.2.2 g5 (own_lo HI.out.2.2.1))); clear hm5 o5 g5)
        go_ret
        refine ⟨_, rfl, _, DN.out, ?_, R5.out.2⟩
        show RowKy w5 w.heap.size (.slice A5 m5 n5) _
        rw [M5.out]
        exact R5.out.1
      · have SC2 := Lib.hid (show SlOf wr 3 Val.cs (.slice (some ⟨ba, oa + i * 3, none⟩) (la - i) (ca - i)) (A.drop i) from by
          have := SC.out
          rw [if_neg hci] at this
          simpa [add_off] using this)
        clear SC
        go_wp2_with (at_builtin; refine wpList_appG elem_key rfl _ _ rfl w.heap.size out (A.drop i) (yv := .slice P m n) rfl rfl HI.out.2.2.1 LW.out ?_ (by have := YL.out; omega) (by have := YL.out; omega) ?_; (next => (first | exact SC2.out | (have h := SC2.out; rw [Nat.sub_self] at h; exact h))); intro A5 n5 w5 o5 g5; obtain ⟨m5, hm5⟩ : ∃ m5, m5 = (out ++ A.drop i).length := ⟨_, rfl⟩; rw [← hm5]; have M5 := Lib.hid hm5; have R5 := Lib.hid (And.intro o5 (grown_lo HI.out.2.2.2 g5 (own_lo HI.out.2.2.1))); clear hm5 o5 g5)
        go_ret
        refine ⟨_, rfl, _, DN.out, ?_, R5.out.2⟩
        show RowKy w5 w.heap.size (.slice A5 m5 n5) _
        rw [M5.out]
        exact R5.out.1
end Go.Proofs.Ytippimonpdeioaa
