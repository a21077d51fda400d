/- Walk of the reference: Set. -/
import Derived.Test.YtgajmhklinolmaaSpI
namespace Go.Proofs.Ytgajmhklinolmaa
set_option linter.all false
open Go.RowKit Go.Sort Go.Deep

theorem flat_set6 (r : CellR) : ∀ (rs : List CellR) (i : Nat), i < rs.length → ((((((flat CellR.cs rs).set (i * 6) (.int .i64 r.k)).set (i * 6 + 1) (.int .i64 r.sh)).set (i * 6 + 2) (.int .i64 r.fl)).set (i * 6 + 3) (.int .i64 r.ag)).set (i * 6 + 4) r.sv).set (i * 6 + 5) r.mv = flat CellR.cs (rs.set i r)
  | a :: rs, 0, _ => by simp [flat]
  | a :: rs, i + 1, h => by
    have := flat_set6 r rs i (by simpa using h)
    have e : (i + 1) * 6 = i * 6 + 6 := by omega
    simp only [flat, List.flatMap_cons, List.set_cons_succ] at this ⊢
    rw [← this, e]
    rfl
theorem rowc_at {w : World} {lo : Nat} {A : Option Addr} {cap n : Nat} {xs : List Value} (h : w.ownsRow lo 38 6 (.slice A n cap) n xs) (h0 : 0 < n) : ∃ g o, A = some ⟨g, o, none⟩ ∧ o = 0 ∧ g < w.heap.size ∧ lo ≤ g ∧ ∀ k, k < n → ∀ j, j < 6 → (∃ u, w.cell? ⟨g, o + k * 6 + j, none⟩ = some u) ∧ w.frozen? ⟨g, o + k * 6 + j, none⟩ = false := by
  rcases h.2 with ⟨_, h0'⟩ | ⟨g, cap', cur, e, hb, hg, hc, hm, hs, ht⟩
  · omega
  · simp only [Value.slice.injEq, true_and] at e
    obtain ⟨rfl, rfl⟩ := e
    refine ⟨g, 0, rfl, rfl, (Array.getElem?_eq_some_iff.1 hg).1, hb, fun k hk j hj => ⟨?_, frozen_of_row w g _ cur _ hg⟩⟩
    rw [cell_of_row w g _ cur _ _ hg]
    have hlt : 0 + k * 6 + j < cur.size := by
      have : k * 6 + 6 ≤ n * 6 := by omega
      have := Nat.mul_le_mul_right 6 hc
      omega
    exact ⟨_, Array.getElem?_eq_getElem hlt⟩
set_option maxRecDepth 100000 in
set_option maxHeartbeats 1000000 in
theorem rset_out (room : Int) (lv sv mv : Value) (k sh fl ag i : Int) (l : List CellD) (w : World) (h : IsC w lv l) (hi : i < 0 ∨ l.length ≤ i) :
    Calls Try.prog 26 #[spV room lv, .int .i64 i, cellV k sh fl ag sv mv] w fun e w' => e = .returned (.tuple #[spV room lv, .int .i64 3]) ∧ Below w.heap.size w w' := by
  obtain ⟨A, cap, rfl, _, hm⟩ := h.form
  clear h
  rcases hi with hi | hi
  · go_enter Try.func26, Try.ntmps26
    go_wp2
    refine bodyPost_ret (v := .tuple #[spV room (.slice A l.length cap), .int .i64 3]) (by simp [results, Try.results26, go_sem, gr_size]) rfl ⟨rfl, by (repeat (with_reducible first | exact Below.refl _ _ | (refine bl_set ?_ (by first | omega | (simp; done) | (simp; omega)) _) | refine bl_gr ?_ _ | refine bl_al ?_ _ | refine below_setRow ?_ (by first | omega | (simp; done) | (simp; omega)) _ | refine bl_drewN ?_ _ | refine Below.drew ?_ | (refine bl_tr ?_ (by assumption))))⟩
  · have h0 : ¬ i < 0 := by omega
    go_enter Try.func26, Try.ntmps26
    go_wp2
    refine bodyPost_ret (v := .tuple #[spV room (.slice A l.length cap), .int .i64 3]) (by simp [results, Try.results26, go_sem, gr_size]) rfl ⟨rfl, by (repeat (with_reducible first | exact Below.refl _ _ | (refine bl_set ?_ (by first | omega | (simp; done) | (simp; omega)) _) | refine bl_gr ?_ _ | refine bl_al ?_ _ | refine below_setRow ?_ (by first | omega | (simp; done) | (simp; omega)) _ | refine bl_drewN ?_ _ | refine Below.drew ?_ | (refine bl_tr ?_ (by assumption))))⟩

set_option maxRecDepth 100000 in
set_option maxHeartbeats 1000000 in
theorem rset_in (room : Int) (lv : Value) (A B : Option Addr) (ca cb : Nat) (c : CellD) (i : Nat) (l : List CellD) (w : World) (h : IsC w lv l) (hi : i < l.length) (hr : l.length ≤ 1048576) (h1 : IsV w (.slice A c.sl.length ca) c.sl) (h2 : IsV w (.slice B c.mo.length cb) c.mo) :
    Calls Try.prog 26 #[spV room lv, .int .i64 i, cellV c.k c.sh c.fl c.ag (.slice A c.sl.length ca) (.slice B c.mo.length cb)] w fun e w' => ∃ lv', e = .returned (.tuple #[spV room lv', .int .i64 0]) ∧ IsC w' lv' (l.set i c) ∧ Below w.heap.size w w' := by
  obtain ⟨D, cap, rfl, hca, hm⟩ := h.form
  have H := Lib.hid h
  have H1 := Lib.hid h1
  have H2 := Lib.hid h2
  have h0 : ¬ (i : Int) < 0 := by omega
  have h3 : ¬ (l.length : Int) ≤ i := by omega
  clear h h1 h2
  go_enter Try.func26, Try.ntmps26
  go_upto_region 4 with (refine wpList_appC (w0 := w) rfl _ _ rfl (w.heap.size + 1 + 1 + 1) (w.heap.size + 1 + 1 + 1) l rfl rfl ?_ ?_ ?_ ?_ ?_ ?_; (next => exact hp_3' _ _ _ _ _); (next => omega); (next => exact H.out); (next => (repeat (with_reducible first | exact Below.refl _ _ | (refine bl_set ?_ (by first | omega | (simp; done) | (simp; omega)) _) | refine bl_gr ?_ _ | refine bl_al ?_ _ | refine below_setRow ?_ (by first | omega | (simp; done) | (simp; omega)) _ | refine bl_drewN ?_ _ | refine Below.drew ?_ | (refine bl_tr ?_ (by assumption))))); (next => exact hr); intro A1 n1 w1 rs hl h6 o1 gr1; obtain ⟨q1, q2, q3, q4, q5⟩ := app_3 gr1; obtain ⟨⟨a0, a1, a2, a3, a4, a5⟩, _⟩ := cells6 q2; obtain ⟨b0, b1, _, _⟩ := cells2 q1; obtain ⟨d0, d1, d2, d3⟩ := cells2 q3; obtain ⟨g, o, rfl, ho, hg, hgl, hcs⟩ := rowc_at o1 (by omega); have O1 := Lib.hid o1; have L1 := Lib.hid (And.intro hl h6); have Q4 := Lib.hid q4; have Q5 := Lib.hid q5; have HO := Lib.hid (And.intro ho hgl); obtain ⟨⟨u0, e0⟩, f0⟩ := hcs i hi 0 (by omega); obtain ⟨⟨u1, e1⟩, f1⟩ := hcs i hi 1 (by omega); obtain ⟨⟨u2, e2⟩, f2⟩ := hcs i hi 2 (by omega); obtain ⟨⟨u3, e3⟩, f3⟩ := hcs i hi 3 (by omega); obtain ⟨⟨u4, e4⟩, f4⟩ := hcs i hi 4 (by omega); obtain ⟨⟨u5, e5⟩, f5⟩ := hcs i hi 5 (by omega); rw [Nat.add_zero] at e0 f0; clear o1 gr1 q1 q2 q3 hl h6 q4 q5 hcs hg hgl ho)
  go_upto_region 5 with fail
  obtain ⟨w2, hw2⟩ : ∃ w2, w2 = ((((((w1.setCell ⟨g, o + i * 6, none⟩ (.int .i64 c.k)).setCell ⟨g, o + i * 6 + 1, none⟩ (.int .i64 c.sh)).setCell ⟨g, o + i * 6 + 2, none⟩ (.int .i64 c.fl)).setCell ⟨g, o + i * 6 + 3, none⟩ (.int .i64 c.ag)).setCell ⟨g, o + i * 6 + 4, none⟩ (.slice A c.sl.length ca)).setCell ⟨g, o + i * 6 + 5, none⟩ (.slice B c.mo.length cb)) := ⟨_, rfl⟩
  rw [← hw2]
  have hg : w.heap.size + 1 + 1 < g := by have := HO.out.2; omega
  have jt : Touch (fun b => b = g) w1 w2 := by rw [hw2]; exact ((((((Touch.refl _ _).set1 _ _).set1 _ _).set1 _ _).set1 _ _).set1 _ _).set1 _ _
  have jb : Below w.heap.size w w2 := Q5.out.trans (jt.below (by have := Q4.out; omega) (fun k hk => by omega))
  have z0 := (jt.cell (b := w.heap.size) (o := 0) (by have := Q4.out; omega) (by omega)).trans b0
  have z1 := (jt.cell (b := w.heap.size + 1 + 1) (o := 0) (by have := Q4.out; omega) (by omega)).trans d0
  have z2 := (jt.cell (b := w.heap.size + 1 + 1) (o := 1) (by have := Q4.out; omega) (by omega)).trans d1
  have z3 := (jt.frozen (b := w.heap.size + 1 + 1) (o := 0) (by have := Q4.out; omega) (by omega)).trans d2
  have z4 := (jt.frozen (b := w.heap.size + 1 + 1) (o := 1) (by have := Q4.out; omega) (by omega)).trans d3
  have jo : w2.ownsRow (w.heap.size + 1 + 1 + 1) 38 6 (.slice (some ⟨g, o, none⟩) l.length n1) l.length (flat CellR.cs (rs.set i ⟨c.k, c.sh, c.fl, c.ag, .slice A c.sl.length ca, .slice B c.mo.length cb⟩)) := by
    obtain ⟨ho, _⟩ := HO.out
    subst ho
    rw [hw2, ← flat_set6 _ rs i (by have := L1.out.1; omega)]
    simp only [Nat.zero_add]
    exact ownsRow_set (ownsRow_set (ownsRow_set (ownsRow_set (ownsRow_set (ownsRow_set O1.out rfl (by omega) _) rfl (by omega) _) rfl (by omega) _) rfl (by omega) _) rfl (by omega) _) rfl (by omega) _
  have JO := Lib.hid jo
  have JB := Lib.hid jb
  have HG := Lib.hid hg
  clear hw2 jt jo jb a0 a1 a2 a3 a4 a5 b0 b1 d0 d1 d2 d3 e0 e1 e2 e3 e4 e5 f0 f1 f2 f3 f4 f5 hg
  go_wp2
  obtain ⟨w3, hw3⟩ : ∃ w3, w3 = (w2.setCell ⟨w.heap.size + 1 + 1, 0, none⟩ (.int .i64 room)).setCell ⟨w.heap.size + 1 + 1, 1, none⟩ (.slice (some ⟨g, o, none⟩) l.length n1) := ⟨_, rfl⟩
  rw [← hw3]
  have jt3 : Touch (fun b => b = w.heap.size + 1 + 1) w2 w3 := by rw [hw3]; exact ((Touch.refl _ _).set1 _ _).set1 _ _
  have jb3 : Below w.heap.size w w3 := by rw [hw3]; exact bl_set (bl_set JB.out (by simp; omega) _) (by simp; omega) _
  have c0 : w3.cell? ⟨w.heap.size + 1 + 1, 0, none⟩ = some (.int .i64 room) := by rw [hw3]; simp [go_sem, *]
  have c1 : w3.cell? ⟨w.heap.size + 1 + 1, 1, none⟩ = some (.slice (some ⟨g, o, none⟩) l.length n1) := by rw [hw3]; simp [go_sem, *]
  have jo3 := ownsRow_touch JO.out jt3 (fun b hb => by have := HG.out; simp [Value.ownBlock] at hb; omega)
  have jc : IsC w3 (.slice (some ⟨g, o, none⟩) l.length n1) (l.set i c) := by
    have hl := L1.out.1
    refine ⟨rs.set i ⟨c.k, c.sh, c.fl, c.ag, .slice A c.sl.length ca, .slice B c.mo.length cb⟩, ?_, by simp [hl], fun j r d hr hd => ?_⟩
    · refine ownsRow_slOf crs_len (base := w.heap.size + 1 + 1 + 1) (e := 38) ?_
      rw [List.length_set, hl]
      exact jo3
    · by_cases hj : i = j
      · subst hj
        rw [List.getElem?_set_self (by omega)] at hr hd
        simp only [Option.some.injEq] at hr hd
        subst hr hd
        exact ⟨rfl, rfl, rfl, rfl, H1.out.below jb3, H2.out.below jb3⟩
      · rw [List.getElem?_set_ne hj] at hr hd
        exact (L1.out.2 j r d hr hd).below jb3
  have JC := Lib.hid jc
  clear jc jo3 jt3 hw3
  refine bodyPost_ret (v := .tuple #[spV room (.slice (some ⟨g, o, none⟩) l.length n1), .int .i64 0]) (by simp [results, Try.results26, go_sem, gr_size, c0, c1]) rfl ⟨_, rfl, JC.out, jb3⟩
end Go.Proofs.Ytgajmhklinolmaa
