/- Property lists: Define. Property lists: Delete. -/
import Derived.Test.YtippimonpdeioaaPmB
import Derived.Test.YtippimonpdeioaaDescJ
namespace Go.Proofs.Ytippimonpdeioaa
set_option linter.all false
open Go.ChangeShapes Go.WideShapes Go.ChangeAt Go.RowKit Go.Sort Go.Deep

/-- what Define answers -/
def defM (xs : List Prp) (ext : Bool) (k : Val) (d : Dsc) : List Prp × Bool :=
  match xs.findIdx? (keyIs k) with
  | none => if (applyM .nil false ext k d).2 && decide (xs.length < 1024) then (xs ++ [(applyM .nil false ext k d).1], true) else ([], false)
  | some i => if (applyM (xs.getD i .nil) true ext k d).2 then (xs.set i (applyM (xs.getD i .nil) true ext k d).1, true) else ([], false)
/-- a list of the call's own and a Bool come back -/
def RetPB (w : World) (L : List Prp) (ok : Bool) : Ending → World → Prop := fun e w' => ∃ A n, e = .returned (.tuple #[.slice A L.length n, .bool ok]) ∧ OwnP w' w.heap.size (.slice A L.length n) L ∧ Below w.heap.size w w'
theorem anyH_alloc {P : Program} {md : Region.Mode} {ops : Array Oper} {Q : Exit → Act → World → Prop} {S : World → Prop} {f : Nat} {l : Array Bool} {a : Act} {W : World} {o : Obj} {B : Nat} (hB : B = W.heap.size)
    (h : ∀ Z, Z.heap[B]? = some o → Below W.heap.size W Z → wpAnyH P md ops Q S f l a Z) : wpAnyH P md ops Q S f l a (W.alloc o) := h _ (by rw [hB]; exact heap_alloc_new _ _) (bl_al (Below.refl _ _) _)
theorem anyH_allocD {P : Program} {md : Region.Mode} {ops : Array Oper} {Q : Exit → Act → World → Prop} {S : World → Prop} {f : Nat} {l : Array Bool} {a : Act} {W : World} {o : Obj} {B : Nat} (hB : B = W.heap.size)
    (h : ∀ Z, Z.heap[B]? = some o → Below W.heap.size W Z → wpAnyH P md ops Q S f l a Z) : wpAnyH P md ops Q S f l a (W.alloc o).drew := h _ (by rw [hB]; exact heap_alloc_new _ _) (Below.drew (bl_al (Below.refl _ _) _))
theorem heap_new {W : World} {o : Obj} {B : Nat} (hB : B = W.heap.size) : (W.alloc o).heap[B]? = some o := by rw [hB]; exact heap_alloc_new _ _
theorem bl_undrew {n : Nat} {a b : World} (h : Below n a.drew b) : Below n a b := ⟨h.os, h.tape, h.output, h.size, h.block⟩

/-- a descriptor in a block of its own -/
abbrev dscO (d : Dsc) : Obj := .cells #[.int .i64 d.h, .int .i64 d.a, .int .i64 d.v.k, .int .i64 d.v.n, .string d.v.s, .int .i64 d.g.k, .int .i64 d.g.n, .string d.g.s, .int .i64 d.t.k, .int .i64 d.t.n, .string d.t.s] 27
theorem cells11 {w : World} {b : Nat} {d : Dsc} (h : w.heap[b]? = some (dscO d)) : (w.cell? ⟨b, 0, none⟩ = some (.int .i64 d.h) ∧ w.cell? ⟨b, 1, none⟩ = some (.int .i64 d.a) ∧ w.cell? ⟨b, 2, none⟩ = some (.int .i64 d.v.k) ∧ w.cell? ⟨b, 3, none⟩ = some (.int .i64 d.v.n) ∧
    w.cell? ⟨b, 4, none⟩ = some (.string d.v.s) ∧ w.cell? ⟨b, 5, none⟩ = some (.int .i64 d.g.k) ∧ w.cell? ⟨b, 6, none⟩ = some (.int .i64 d.g.n) ∧ w.cell? ⟨b, 7, none⟩ = some (.string d.g.s) ∧ w.cell? ⟨b, 8, none⟩ = some (.int .i64 d.t.k) ∧ w.cell? ⟨b, 9, none⟩ = some (.int .i64 d.t.n) ∧
    w.cell? ⟨b, 10, none⟩ = some (.string d.t.s)) ∧ ∀ j, w.frozen? ⟨b, j, none⟩ = false := by
  refine ⟨?_, fun j => frozen_of_row w b _ _ _ h⟩
  and_intros <;> (rw [cell_of_row w b _ _ _ _ h]; rfl)

set_option maxHeartbeats 4000000 in
/-- a property stored whole into a block -/
theorem setP {X : World} {b : Nat} {q : Prp} (p : Prp) (h : X.heap[b]? = some (prpO q)) : ∃ Y, Y = (((((((((((((X.setCell ⟨b, 0, none⟩ (.int .i64 p.k.k)).setCell ⟨b, 1, none⟩ (.int .i64 p.k.n)).setCell ⟨b, 2, none⟩ (.string p.k.s)).setCell ⟨b, 3, none⟩ (.int .i64 p.a)).setCell ⟨b, 4, none⟩ (.int .i64 p.v.k)).setCell ⟨b, 5, none⟩ (.int .i64 p.v.n)).setCell ⟨b, 6, none⟩ (.string p.v.s)).setCell ⟨b, 7, none⟩ (.int .i64 p.g.k)).setCell ⟨b, 8, none⟩ (.int .i64 p.g.n)).setCell ⟨b, 9, none⟩ (.string p.g.s)).setCell ⟨b, 10, none⟩ (.int .i64 p.t.k)).setCell ⟨b, 11, none⟩ (.int .i64 p.t.n)).setCell ⟨b, 12, none⟩ (.string p.t.s)) ∧ Y.heap[b]? = some (prpO p) ∧ Touch (fun k => k = b) X Y := by
  refine ⟨_, rfl, ?_, ((((((((((((((Touch.refl _ _).set1 _ _).set1 _ _).set1 _ _).set1 _ _).set1 _ _).set1 _ _).set1 _ _).set1 _ _).set1 _ _).set1 _ _).set1 _ _).set1 _ _).set1 _ _)⟩
  have := (heap_setCell_same _ _ 12 _ _ (.string p.t.s) (heap_setCell_same _ _ 11 _ _ (.int .i64 p.t.n) (heap_setCell_same _ _ 10 _ _ (.int .i64 p.t.k) (heap_setCell_same _ _ 9 _ _ (.string p.g.s) (heap_setCell_same _ _ 8 _ _ (.int .i64 p.g.n) (heap_setCell_same _ _ 7 _ _ (.int .i64 p.g.k) (heap_setCell_same _ _ 6 _ _ (.string p.v.s) (heap_setCell_same _ _ 5 _ _ (.int .i64 p.v.n) (heap_setCell_same _ _ 4 _ _ (.int .i64 p.v.k) (heap_setCell_same _ _ 3 _ _ (.int .i64 p.a) (heap_setCell_same _ _ 2 _ _ (.string p.k.s) (heap_setCell_same _ _ 1 _ _ (.int .i64 p.k.n) (heap_setCell_same _ _ 0 _ _ (.int .i64 p.k.k) h)))))))))))))
  simpa only [List.setIfInBounds_toArray, List.set_cons_zero, List.set_cons_succ] using this
set_option maxRecDepth 100000 in
set_option maxHeartbeats 8000000 in
theorem define_new (v : Value) (xs : List Prp) (ext : Bool) (k : Val) (d : Dsc) (hm : xs.length ≤ 3000) (hf : xs.findIdx? (keyIs k) = none) (w : World) (hv : IsP w v xs) :
    Calls Try.prog 10 #[v, .bool ext, k.agg, d.agg] w (RetPB w (defM xs ext k d).1 (defM xs ext k d).2) := by
  obtain ⟨A, cp, rfl, _, _⟩ := hv.form
  have HV := Lib.hid hv
  have FD := Lib.hid (fun W (h : IsP W (.slice A xs.length cp) xs) => (show Calls Try.prog 18 #[.slice A xs.length cp, k.agg] W fun e w' => e = .returned (.int .i64 (-1)) ∧ Below W.heap.size W w' from by
    have := find_any _ xs k hm W h
    rwa [show findM xs k = -1 by unfold findM placeM; rw [hf]] at this))
  have CP := Lib.hid (fun W (h : IsP W (.slice A xs.length cp) xs) => copied_any _ xs hm W h)
  obtain ⟨L, ok, hL⟩ : ∃ L ok, defM xs ext k d = (L, ok) := ⟨_, _, rfl⟩
  obtain ⟨p, ap, hp⟩ : ∃ p ap, applyM .nil false ext k d = (p, ap) := ⟨_, _, rfl⟩
  have AP := Lib.hid (fun W => (show Calls Try.prog 31 #[Prp.nil.agg, .bool false, .bool ext, k.agg, d.agg] W fun e w' => e = .returned (.tuple #[p.agg, .bool ap]) ∧ Below W.heap.size W w' from by
    have := apply_any .nil k d W false ext
    rwa [hp] at this))
  have hD := hL
  unfold defM at hD
  rw [hf] at hD
  simp only [hp] at hD
  have DD := Lib.hid hD
  have HM := Lib.hid hm
  rw [hL]
  clear hv hm hf hL hp hD
  go_enter Try.func10, Try.ntmps10
  go_upto_region 3 with (go_at_call 18; refine (callGr (FD.out _ (HV.out.below (by (repeat (with_reducible first | exact Below.refl _ _ | (refine bl_set ?_ (by first | omega | (simp; done) | (simp; omega)) _) | refine bl_gr ?_ _ | refine bl_al ?_ _ | refine below_setRow ?_ (by first | omega | (simp; done) | (simp; omega)) _ | refine bl_drewN ?_ _ | refine Below.drew ?_ | (refine bl_tr ?_ (by assumption)))))))).mono ?_; rintro e w' ⟨pp, rfl, rfl⟩)
  go_cut [11, 12] (fun pt o Y => ∃ B, pt = .pointer (some ⟨B, 0, none⟩) ∧ o = .bool ap ∧ Y.heap[B]? = some (prpO p) ∧ w.heap.size ≤ B ∧ Below w.heap.size w Y)
  case first =>
    go_wp2_with (go_at_call 31; refine (callGr (AP.out _)).mono ?_; rintro e w' ⟨pp, rfl, rfl⟩)
    go_meet
    exact ⟨_, rfl, rfl, heap_new (by simp [gr_size]), by omega, by (repeat (with_reducible first | exact Below.refl _ _ | (refine bl_set ?_ (by first | omega | (simp; done) | (simp; omega)) _) | refine bl_gr ?_ _ | refine bl_al ?_ _ | refine below_setRow ?_ (by first | omega | (simp; done) | (simp; omega)) _ | refine bl_drewN ?_ _ | refine Below.drew ?_ | (refine bl_tr ?_ (by assumption))))⟩
  case rest =>
    obtain ⟨B, rfl, rfl, hB, lB, bY⟩ := hcut
    obtain ⟨⟨x0, x1, x2, x3, x4, x5, x6, x7, x8, x9, x10, x11, x12⟩, _⟩ := cells13 hB
    have HB := Lib.hid hB
    have BY := Lib.hid bY
    have VY := Lib.hid (HV.out.below bY)
    clear hB bY
    cases ap
    · have hD := DD.out
      simp only [Bool.false_and, Bool.false_eq_true, if_false] at hD
      have e1 := congrArg Prod.fst hD
      have e2 := congrArg Prod.snd hD
      clear hD
      dsimp only at e1 e2
      subst e1 e2
      clear DD
      go_wp2
      refine bodyPost_ret (v := .tuple #[.slice none 0 0, .bool false]) (by simp [results, Try.results10, go_sem, gr_size]) rfl ⟨_, _, rfl, own_nilE, BY.out⟩
    · by_cases hl : xs.length < 1024
      · have q0 : ¬ (1024 : Int) ≤ (xs.length : Int) := by omega
        have hD := DD.out
        simp only [Bool.true_and, hl, decide_true, if_true] at hD
        have e1 := congrArg Prod.fst hD
        have e2 := congrArg Prod.snd hD
        clear hD
        dsimp only at e1 e2
        subst e2
        have LL := Lib.hid e1
        clear DD hl e1
        go_upto_region 6 with fail
        (refine wp_region_held_drew (S := (fun Z : World => Below wc.heap.size wc Z)) Try.mixed (by ((repeat (with_reducible first | exact B3.out | exact B9.out | exact Below.refl _ _ | refine bl_rapp ?_ | (refine bl_set ?_ (by first | omega | (simp; done) | (simp; omega)) _) | refine bl_gr ?_ _ | refine bl_al ?_ _ | refine bl_drewN ?_ _ | refine Below.drew ?_)))) (fun hS => ?_); (refine wpAnyH_take (i := 0) (v := ?_) rfl (by kernel_rfl) (by kernel_rfl) (by kernel_rfl) (fun _ _ _ h => h) ?_ (by assumption) ?_; rotate_left; (next => (refine Or.inl ⟨by kernel_rfl, ?_⟩; ((intro w hSw; (try dsimp only at hSw); go_simp) <;> with_reducible rfl))); (try simp only [Act.put, List.setIfInBounds_toArray, List.set_cons_zero, List.set_cons_succ])); (refine wpAnyH_take (i := 2) (v := ?_) rfl (by kernel_rfl) (by kernel_rfl) (by kernel_rfl) (fun _ _ _ h => h) ?_ (by assumption) ?_; rotate_left; (next => (refine Or.inl ⟨by kernel_rfl, ?_⟩; ((intro w hSw; (try dsimp only at hSw); (have q := (hSw.block _ (Array.getElem?_eq_some_iff.1 HB.out).1).trans HB.out; obtain ⟨⟨x0, x1, x2, x3, x4, x5, x6, x7, x8, x9, x10, x11, x12⟩, _⟩ := cells13 q; clear q); go_simp) <;> with_reducible rfl))); (try simp only [Act.put, List.setIfInBounds_toArray, List.set_cons_zero, List.set_cons_succ])); refine wpAnyH_ready (rs := [1, 3]) (by kernel_rfl) (by simp) ?_; refine AllReadyH.cons rfl (fun K hK => ?_) (AllReadyH.cons rfl (fun K hK => ?_) AllReadyH.nil); go_simp; ((go_at_call 32; refine (CP.out _ (VY.out.below (by (repeat (with_reducible first | exact B9.out | exact Below.refl _ _ | refine bl_rapp ?_ | (refine bl_set ?_ (by first | omega | (simp; done) | (simp; omega)) _) | refine bl_gr ?_ _ | refine bl_al ?_ _ | refine bl_drewN ?_ _ | refine Below.drew ?_))))).mono ?_; rintro e w3 ⟨g, cap, rfl, o3, -, b3⟩; (first | (have B3 := Lib.hid (show Below wc.heap.size wc w3 from bl_undrew b3)) | (have B3 := Lib.hid (show Below wc.heap.size wc w3 from bl_tr B9.out b3))); (first | (have F3 := Lib.hid ((b3.block _ lZ).trans FB.out)) | skip); have O3 := Lib.hid (show OwnP w3 wc.heap.size _ xs from ownsRow_low o3 (by first | exact Nat.le_refl _ | exact B9.out.size)); clear o3 b3)); refine hK.out _ _ (by ((repeat (with_reducible first | exact B3.out | exact B9.out | exact Below.refl _ _ | refine bl_rapp ?_ | (refine bl_set ?_ (by first | omega | (simp; done) | (simp; omega)) _) | refine bl_gr ?_ _ | refine bl_al ?_ _ | refine bl_drewN ?_ _ | refine Below.drew ?_)))) (fun hS => ?_); clear hK K; (try simp only [Act.put, List.setIfInBounds_toArray, List.set_cons_zero, List.set_cons_succ]); refine wpAnyH_ready (rs := [3]) (by kernel_rfl) (by simp) ?_; refine AllReadyH.cons rfl (fun K hK => ?_) AllReadyH.nil; go_simp; refine hK.out _ _ (by ((repeat (with_reducible first | exact B3.out | exact B9.out | exact Below.refl _ _ | refine bl_rapp ?_ | (refine bl_set ?_ (by first | omega | (simp; done) | (simp; omega)) _) | refine bl_gr ?_ _ | refine bl_al ?_ _ | refine bl_drewN ?_ _ | refine Below.drew ?_)))) (fun hS => ?_); clear hK K; (try simp only [Act.put, List.setIfInBounds_toArray, List.set_cons_zero, List.set_cons_succ]); (first | refine anyH_alloc rfl (fun Z fB bB => ?_) | refine anyH_allocD rfl (fun Z fB bB => ?_)); have B9 := Lib.hid (show Below wc.heap.size wc Z from bl_tr (by (repeat (with_reducible first | exact B3.out | exact Below.refl _ _ | refine bl_rapp ?_ | (refine bl_set ?_ (by first | omega | (simp; done) | (simp; omega)) _) | refine bl_gr ?_ _ | refine bl_al ?_ _ | refine bl_drewN ?_ _ | refine Below.drew ?_))) bB); have FB := Lib.hid fB; have lZ := (Array.getElem?_eq_some_iff.1 fB).1; (first | (have O9 := Lib.hid (ownsRow_below O3.out bB)) | skip); clear fB bB; refine wpAnyH_ready (rs := [4]) (by kernel_rfl) (by simp) ?_; refine AllReadyH.cons rfl (fun K hK => ?_) AllReadyH.nil; ((first | refine step_appG elem_prp wc.heap.size rfl _ _ rfl xs [p] (yv := .slice (some ⟨g, 0, none⟩) xs.length cap) (sv := .slice (some ⟨w3.heap.size, 0, none⟩) 1 1) rfl rfl O9.out B9.out.size (sl_oneE FB.out rfl) (by have := HM.out; simp; omega) (by have := HM.out; simp; omega) ?_ | refine step_appG elem_prp wc.heap.size rfl _ _ rfl xs [p] (yv := .slice (some ⟨g, 0, none⟩) xs.length cap) (sv := .slice (some ⟨wc.heap.size, 0, none⟩) 1 1) rfl rfl O3.out B3.out.size (sl_oneE F3.out rfl) (by have := HM.out; simp; omega) (by have := HM.out; simp; omega) ?_); intro A5 n5 w5 o5 g5; obtain ⟨m5, hm5⟩ : ∃ m5, m5 = (xs ++ [p]).length := ⟨_, rfl⟩; rw [← hm5]; have M5 := Lib.hid (And.intro hm5 o5); (first | (have B5 := Lib.hid (show Below wc.heap.size wc w5 from grown_lo B9.out g5 (own_lo O9.out))) | (have B5 := Lib.hid (show Below wc.heap.size wc w5 from grown_lo B3.out g5 (own_lo O3.out)))); clear hm5 o5 g5); refine hK.out _ _ (by exact B5.out) (fun hS => ?_); clear hK K; (try simp only [Act.put, List.setIfInBounds_toArray, List.set_cons_zero, List.set_cons_succ]); (refine wpAnyH_take (i := 5) (v := ?_) rfl (by kernel_rfl) (by kernel_rfl) (by kernel_rfl) (fun _ _ _ h => h) ?_ (by assumption) ?_; rotate_left; (next => (refine Or.inl ⟨by kernel_rfl, ?_⟩; ((intro w hSw; (try dsimp only at hSw); go_simp) <;> with_reducible rfl))); (try simp only [Act.put, List.setIfInBounds_toArray, List.set_cons_zero, List.set_cons_succ])); (refine wpAnyH_take (i := 6) (v := ?_) rfl (by kernel_rfl) (by kernel_rfl) (by kernel_rfl) (fun _ _ _ h => h) ?_ (by assumption) ?_; rotate_left; (next => (refine Or.inl ⟨by kernel_rfl, ?_⟩; ((intro w hSw; (try dsimp only at hSw); go_simp) <;> with_reducible rfl))); (try simp only [Act.put, List.setIfInBounds_toArray, List.set_cons_zero, List.set_cons_succ])); refine wpAnyH_done (by kernel_rfl) ?_ _; rotate_left 1; go_simp; refine hK.out _ _ (by ((repeat (with_reducible first | exact B3.out | exact B9.out | exact Below.refl _ _ | refine bl_rapp ?_ | (refine bl_set ?_ (by first | omega | (simp; done) | (simp; omega)) _) | refine bl_gr ?_ _ | refine bl_al ?_ _ | refine bl_drewN ?_ _ | refine Below.drew ?_)))) (fun hS => ?_); clear hK K; (try simp only [Act.put, List.setIfInBounds_toArray, List.set_cons_zero, List.set_cons_succ]); (first | refine anyH_alloc rfl (fun Z fB bB => ?_) | refine anyH_allocD rfl (fun Z fB bB => ?_)); have B9 := Lib.hid (show Below wc.heap.size wc Z from bl_tr (by (repeat (with_reducible first | exact B3.out | exact Below.refl _ _ | refine bl_rapp ?_ | (refine bl_set ?_ (by first | omega | (simp; done) | (simp; omega)) _) | refine bl_gr ?_ _ | refine bl_al ?_ _ | refine bl_drewN ?_ _ | refine Below.drew ?_))) bB); have FB := Lib.hid fB; have lZ := (Array.getElem?_eq_some_iff.1 fB).1; (first | (have O9 := Lib.hid (ownsRow_below O3.out bB)) | skip); clear fB bB; refine wpAnyH_ready (rs := [1]) (by kernel_rfl) (by simp) ?_; refine AllReadyH.cons rfl (fun K hK => ?_) AllReadyH.nil; go_simp; ((go_at_call 32; refine (CP.out _ (VY.out.below (by (repeat (with_reducible first | exact B9.out | exact Below.refl _ _ | refine bl_rapp ?_ | (refine bl_set ?_ (by first | omega | (simp; done) | (simp; omega)) _) | refine bl_gr ?_ _ | refine bl_al ?_ _ | refine bl_drewN ?_ _ | refine Below.drew ?_))))).mono ?_; rintro e w3 ⟨g, cap, rfl, o3, -, b3⟩; (first | (have B3 := Lib.hid (show Below wc.heap.size wc w3 from bl_undrew b3)) | (have B3 := Lib.hid (show Below wc.heap.size wc w3 from bl_tr B9.out b3))); (first | (have F3 := Lib.hid ((b3.block _ lZ).trans FB.out)) | skip); have O3 := Lib.hid (show OwnP w3 wc.heap.size _ xs from ownsRow_low o3 (by first | exact Nat.le_refl _ | exact B9.out.size)); clear o3 b3)); refine hK.out _ _ (by ((repeat (with_reducible first | exact B3.out | exact B9.out | exact Below.refl _ _ | refine bl_rapp ?_ | (refine bl_set ?_ (by first | omega | (simp; done) | (simp; omega)) _) | refine bl_gr ?_ _ | refine bl_al ?_ _ | refine bl_drewN ?_ _ | refine Below.drew ?_)))) (fun hS => ?_); clear hK K; (try simp only [Act.put, List.setIfInBounds_toArray, List.set_cons_zero, List.set_cons_succ]); refine wpAnyH_ready (rs := [4]) (by kernel_rfl) (by simp) ?_; refine AllReadyH.cons rfl (fun K hK => ?_) AllReadyH.nil; ((first | refine step_appG elem_prp wc.heap.size rfl _ _ rfl xs [p] (yv := .slice (some ⟨g, 0, none⟩) xs.length cap) (sv := .slice (some ⟨w3.heap.size, 0, none⟩) 1 1) rfl rfl O9.out B9.out.size (sl_oneE FB.out rfl) (by have := HM.out; simp; omega) (by have := HM.out; simp; omega) ?_ | refine step_appG elem_prp wc.heap.size rfl _ _ rfl xs [p] (yv := .slice (some ⟨g, 0, none⟩) xs.length cap) (sv := .slice (some ⟨wc.heap.size, 0, none⟩) 1 1) rfl rfl O3.out B3.out.size (sl_oneE F3.out rfl) (by have := HM.out; simp; omega) (by have := HM.out; simp; omega) ?_); intro A5 n5 w5 o5 g5; obtain ⟨m5, hm5⟩ : ∃ m5, m5 = (xs ++ [p]).length := ⟨_, rfl⟩; rw [← hm5]; have M5 := Lib.hid (And.intro hm5 o5); (first | (have B5 := Lib.hid (show Below wc.heap.size wc w5 from grown_lo B9.out g5 (own_lo O9.out))) | (have B5 := Lib.hid (show Below wc.heap.size wc w5 from grown_lo B3.out g5 (own_lo O3.out)))); clear hm5 o5 g5); refine hK.out _ _ (by exact B5.out) (fun hS => ?_); clear hK K; (try simp only [Act.put, List.setIfInBounds_toArray, List.set_cons_zero, List.set_cons_succ]); (refine wpAnyH_take (i := 5) (v := ?_) rfl (by kernel_rfl) (by kernel_rfl) (by kernel_rfl) (fun _ _ _ h => h) ?_ (by assumption) ?_; rotate_left; (next => (refine Or.inl ⟨by kernel_rfl, ?_⟩; ((intro w hSw; (try dsimp only at hSw); go_simp) <;> with_reducible rfl))); (try simp only [Act.put, List.setIfInBounds_toArray, List.set_cons_zero, List.set_cons_succ])); (refine wpAnyH_take (i := 6) (v := ?_) rfl (by kernel_rfl) (by kernel_rfl) (by kernel_rfl) (fun _ _ _ h => h) ?_ (by assumption) ?_; rotate_left; (next => (refine Or.inl ⟨by kernel_rfl, ?_⟩; ((intro w hSw; (try dsimp only at hSw); go_simp) <;> with_reducible rfl))); (try simp only [Act.put, List.setIfInBounds_toArray, List.set_cons_zero, List.set_cons_succ])); refine wpAnyH_done (by kernel_rfl) ?_ _)
        all_goals go_simp
        all_goals go_wp2
        all_goals refine bodyPost_ret (v := .tuple #[.slice A5 m5 n5, .bool true]) (by simp [results, Try.results10, go_sem, gr_size]) rfl ⟨A5, n5, by rw [M5.out.1, LL.out], by rw [← LL.out]; exact ownsRow_low M5.out.2 BY.out.size, bl_tr BY.out B5.out⟩
      · have q0 : (1024 : Int) ≤ (xs.length : Int) := by omega
        have hD := DD.out
        simp only [Bool.true_and, hl, decide_false, if_false, Bool.false_eq_true] at hD
        have e1 := congrArg Prod.fst hD
        have e2 := congrArg Prod.snd hD
        dsimp only at e1 e2
        subst e1 e2
        clear DD hD hl
        go_wp2
        refine bodyPost_ret (v := .tuple #[.slice none 0 0, .bool false]) (by simp [results, Try.results10, go_sem, gr_size]) rfl ⟨_, _, rfl, own_nilE, BY.out⟩

set_option maxRecDepth 100000 in
set_option maxHeartbeats 8000000 in
theorem define_old (v : Value) (xs : List Prp) (ext : Bool) (k : Val) (d : Dsc) (i : Nat) (hm : xs.length ≤ 3000) (hf : xs.findIdx? (keyIs k) = some i) (w : World) (hv : IsP w v xs) :
    Calls Try.prog 10 #[v, .bool ext, k.agg, d.agg] w (RetPB w (defM xs ext k d).1 (defM xs ext k d).2) := by
  obtain ⟨A, cp, rfl, _, _⟩ := hv.form
  have hi : i < xs.length := by
    rw [List.findIdx?_eq_some_iff_getElem] at hf
    exact hf.1
  have HV := Lib.hid hv
  have FD := Lib.hid (fun W (h : IsP W (.slice A xs.length cp) xs) => (show Calls Try.prog 18 #[.slice A xs.length cp, k.agg] W fun e w' => e = .returned (.int .i64 (i : Int)) ∧ Below W.heap.size W w' from by
    have := find_any _ xs k hm W h
    rwa [show findM xs k = i by unfold findM placeM; rw [hf]] at this))
  have CP := Lib.hid (fun W (h : IsP W (.slice A xs.length cp) xs) => copied_any _ xs hm W h)
  obtain ⟨L, ok, hL⟩ : ∃ L ok, defM xs ext k d = (L, ok) := ⟨_, _, rfl⟩
  obtain ⟨p, ap, hp⟩ : ∃ p ap, applyM (pAt xs i) true ext k d = (p, ap) := ⟨_, _, rfl⟩
  have AP := Lib.hid (fun W => (show Calls Try.prog 31 #[(pAt xs i).agg, .bool true, .bool ext, k.agg, d.agg] W fun e w' => e = .returned (.tuple #[p.agg, .bool ap]) ∧ Below W.heap.size W w' from by
    have := apply_any (pAt xs i) k d W true ext
    rwa [hp] at this))
  have PX := Lib.hid (fun W (h : IsP W (.slice A xs.length cp) xs) => IsP.at13 h (pAt_lt hi))
  have hD := hL
  unfold defM at hD
  rw [hf] at hD
  unfold pAt at hp
  simp only [hp] at hD
  have DD := Lib.hid hD
  rw [hL]
  generalize pAt xs i = x at *
  obtain ⟨n, hn⟩ : ∃ n, n = xs.length := ⟨_, rfl⟩
  have q0 : ¬ (i : Int) < 0 := by omega
  have q1 : (i : Int) < (n : Int) := by omega
  have HM := Lib.hid (And.intro hi hn)
  rw [← hn] at HV FD CP PX
  rw [← hn]
  obtain ⟨b0, o0, c0, e0, -⟩ := PX.out _ HV.out
  simp only [Value.slice.injEq] at e0
  obtain ⟨rfl, -, -⟩ := e0
  clear hv hm hf hL hp hD hi hn
  go_enter Try.func10, Try.ntmps10
  go_upto_region 7 with (go_at_call 18; refine (callGr (FD.out _ (HV.out.below (by (repeat (with_reducible first | exact Below.refl _ _ | (refine bl_set ?_ (by first | omega | (simp; done) | (simp; omega)) _) | refine bl_gr ?_ _ | refine bl_al ?_ _ | refine below_setRow ?_ (by first | omega | (simp; done) | (simp; omega)) _ | refine bl_drewN ?_ _ | refine Below.drew ?_ | (refine bl_tr ?_ (by assumption)))))))).mono ?_; rintro e w' ⟨pp, rfl, rfl⟩)
  refine wp_worldS (fun X => X.heap[w.heap.size]? = some (keyO k) ∧ X.heap[w.heap.size + 1]? = some (dscO d) ∧ Below w.heap.size w X) ⟨((below_gr _ _).block _ (by simp; omega)).trans ((heap_alloc_old _ _ (by simp)).trans (heap_alloc_new _ _)), ((below_gr _ _).block _ (by simp)).trans (heap_new (by simp)), by (repeat (with_reducible first | exact Below.refl _ _ | (refine bl_set ?_ (by first | omega | (simp; done) | (simp; omega)) _) | refine bl_gr ?_ _ | refine bl_al ?_ _ | refine below_setRow ?_ (by first | omega | (simp; done) | (simp; omega)) _ | refine bl_drewN ?_ _ | refine Below.drew ?_ | (refine bl_tr ?_ (by assumption))))⟩ ?_
  rintro X ⟨j0, j1, jb⟩
  have BX := Lib.hid jb
  have KD := Lib.hid (And.intro j0 j1)
  have VX := Lib.hid (HV.out.below jb)
  obtain ⟨b1, o1, c1, e1, lb, -, y0, y1, y2, y3, y4, y5, y6, y7, y8, y9, y10, y11, y12⟩ := PX.out _ (HV.out.below jb)
  simp only [Value.slice.injEq, Option.some.injEq, Addr.mk.injEq, true_and, and_true] at e1
  obtain ⟨⟨rfl, rfl⟩, -⟩ := e1
  have l0 := (Array.getElem?_eq_some_iff.1 j0).1
  have l1 := (Array.getElem?_eq_some_iff.1 j1).1
  have RD := Lib.hid (fun Z (h : Below X.heap.size X Z) => (show At13 Z b0 (o0 + i * 13) x ∧ Z.heap[w.heap.size]? = some (keyO k) ∧ Z.heap[w.heap.size + 1]? = some (dscO d) from ⟨At13.below ⟨y0, y1, y2, y3, y4, y5, y6, y7, y8, y9, y10, y11, y12⟩ lb h, (h.block _ l0).trans j0, (h.block _ l1).trans j1⟩))
  clear PX j0 j1 jb y0 y1 y2 y3 y4 y5 y6 y7 y8 y9 y10 y11 y12
  go_cut [13, 14] (fun pt o Y => ∃ B, pt = .pointer (some ⟨B, 0, none⟩) ∧ o = .bool ap ∧ Y.heap[B]? = some (prpO p) ∧ Below X.heap.size X Y)
  case first =>
    (refine wp_region_held_drew (S := (fun Z : World => Below X.heap.size X Z)) Try.mixed (by ((repeat (with_reducible first | exact B9.out | exact B8.out | exact Below.refl _ _ | refine bl_rapp ?_ | (refine bl_set ?_ (by first | omega | (simp; done) | (simp; omega)) _) | refine bl_gr ?_ _ | refine bl_al ?_ _ | refine bl_drewN ?_ _ | refine Below.drew ?_)))) (fun hS => ?_); (refine wpAnyH_take (i := 0) (v := ?_) rfl (by kernel_rfl) (by kernel_rfl) (by kernel_rfl) (fun _ _ _ h => h) ?_ (by assumption) ?_; rotate_left; (next => (refine Or.inl ⟨by kernel_rfl, ?_⟩; ((intro w hSw; (try dsimp only at hSw); go_simp) <;> with_reducible rfl))); (try simp only [Act.put, List.setIfInBounds_toArray, List.set_cons_zero, List.set_cons_succ])); (refine wpAnyH_take (i := 1) (v := ?_) rfl (by kernel_rfl) (by kernel_rfl) (by kernel_rfl) (fun _ _ _ h => h) ?_ (by assumption) ?_; rotate_left; (next => (refine Or.inl ⟨by kernel_rfl, ?_⟩; ((intro w hSw; (try dsimp only at hSw); go_simp) <;> with_reducible rfl))); (try simp only [Act.put, List.setIfInBounds_toArray, List.set_cons_zero, List.set_cons_succ])); (refine wpAnyH_take (i := 2) (v := ?_) rfl (by kernel_rfl) (by kernel_rfl) (by kernel_rfl) (fun _ _ _ h => h) ?_ (by assumption) ?_; rotate_left; (next => (refine Or.inl ⟨by kernel_rfl, ?_⟩; ((intro w hSw; (try dsimp only at hSw); go_simp) <;> with_reducible rfl))); (try simp only [Act.put, List.setIfInBounds_toArray, List.set_cons_zero, List.set_cons_succ])); (refine wpAnyH_take (i := 3) (v := ?_) rfl (by kernel_rfl) (by kernel_rfl) (by kernel_rfl) (fun _ _ _ h => h) ?_ (by assumption) ?_; rotate_left; (next => (refine Or.inl ⟨by kernel_rfl, ?_⟩; ((intro w hSw; (try dsimp only at hSw); (obtain ⟨⟨y0, y1, y2, y3, y4, y5, y6, y7, y8, y9, y10, y11, y12⟩, z0, z1⟩ := RD.out _ hSw; obtain ⟨⟨k0, k1, k2⟩, _⟩ := cells3k z0; obtain ⟨⟨d0, d1, d2, d3, d4, d5, d6, d7, d8, d9, d10⟩, _⟩ := cells11 z1; clear z0 z1); go_simp) <;> with_reducible rfl))); (try simp only [Act.put, List.setIfInBounds_toArray, List.set_cons_zero, List.set_cons_succ])); (refine wpAnyH_take (i := 4) (v := ?_) rfl (by kernel_rfl) (by kernel_rfl) (by kernel_rfl) (fun _ _ _ h => h) ?_ (by assumption) ?_; rotate_left; (next => (refine Or.inl ⟨by kernel_rfl, ?_⟩; ((intro w hSw; (try dsimp only at hSw); go_simp) <;> with_reducible rfl))); (try simp only [Act.put, List.setIfInBounds_toArray, List.set_cons_zero, List.set_cons_succ])); (refine wpAnyH_take (i := 5) (v := ?_) rfl (by kernel_rfl) (by kernel_rfl) (by kernel_rfl) (fun _ _ _ h => h) ?_ (by assumption) ?_; rotate_left; (next => (refine Or.inl ⟨by kernel_rfl, ?_⟩; ((intro w hSw; (try dsimp only at hSw); (obtain ⟨⟨y0, y1, y2, y3, y4, y5, y6, y7, y8, y9, y10, y11, y12⟩, z0, z1⟩ := RD.out _ hSw; obtain ⟨⟨k0, k1, k2⟩, _⟩ := cells3k z0; obtain ⟨⟨d0, d1, d2, d3, d4, d5, d6, d7, d8, d9, d10⟩, _⟩ := cells11 z1; clear z0 z1); go_simp) <;> with_reducible rfl))); (try simp only [Act.put, List.setIfInBounds_toArray, List.set_cons_zero, List.set_cons_succ])); (refine wpAnyH_take (i := 6) (v := ?_) rfl (by kernel_rfl) (by kernel_rfl) (by kernel_rfl) (fun _ _ _ h => h) ?_ (by assumption) ?_; rotate_left; (next => (refine Or.inl ⟨by kernel_rfl, ?_⟩; ((intro w hSw; (try dsimp only at hSw); (obtain ⟨⟨y0, y1, y2, y3, y4, y5, y6, y7, y8, y9, y10, y11, y12⟩, z0, z1⟩ := RD.out _ hSw; obtain ⟨⟨k0, k1, k2⟩, _⟩ := cells3k z0; obtain ⟨⟨d0, d1, d2, d3, d4, d5, d6, d7, d8, d9, d10⟩, _⟩ := cells11 z1; clear z0 z1); go_simp) <;> with_reducible rfl))); (try simp only [Act.put, List.setIfInBounds_toArray, List.set_cons_zero, List.set_cons_succ])); refine wpAnyH_ready (rs := [7, 11]) (by kernel_rfl) (by simp) ?_; refine AllReadyH.cons rfl (fun K hK => ?_) (AllReadyH.cons rfl (fun K hK => ?_) AllReadyH.nil); go_simp; ((go_at_call 31; refine (AP.out _).mono ?_; rintro e w4 ⟨rfl, hb4⟩; have B8 := Lib.hid (show Below X.heap.size X w4 from bl_tr (by (repeat (with_reducible first | exact B9.out | exact Below.refl _ _ | refine bl_rapp ?_ | (refine bl_set ?_ (by first | omega | (simp; done) | (simp; omega)) _) | refine bl_gr ?_ _ | refine bl_al ?_ _ | refine bl_drewN ?_ _ | refine Below.drew ?_))) hb4); (first | (have FB2 := Lib.hid ((hb4.block _ lZ).trans FB.out); obtain ⟨⟨x0, x1, x2, x3, x4, x5, x6, x7, x8, x9, x10, x11, x12⟩, fz⟩ := cells13 (p := .nil) FB2.out) | skip); clear hb4)); refine hK.out _ _ (by ((repeat (with_reducible first | exact B9.out | exact B8.out | exact Below.refl _ _ | refine bl_rapp ?_ | (refine bl_set ?_ (by first | omega | (simp; done) | (simp; omega)) _) | refine bl_gr ?_ _ | refine bl_al ?_ _ | refine bl_drewN ?_ _ | refine Below.drew ?_)))) (fun hS => ?_); clear hK K; (try simp only [Act.put, List.setIfInBounds_toArray, List.set_cons_zero, List.set_cons_succ]); (refine wpAnyH_take (i := 8) (v := ?_) rfl (by kernel_rfl) (by kernel_rfl) (by kernel_rfl) (fun _ _ _ h => h) ?_ (by assumption) ?_; rotate_left; (next => (refine Or.inl ⟨by kernel_rfl, ?_⟩; ((intro w hSw; (try dsimp only at hSw); go_simp) <;> with_reducible rfl))); (try simp only [Act.put, List.setIfInBounds_toArray, List.set_cons_zero, List.set_cons_succ])); (refine wpAnyH_take (i := 9) (v := ?_) rfl (by kernel_rfl) (by kernel_rfl) (by kernel_rfl) (fun _ _ _ h => h) ?_ (by assumption) ?_; rotate_left; (next => (refine Or.inl ⟨by kernel_rfl, ?_⟩; ((intro w hSw; (try dsimp only at hSw); go_simp) <;> with_reducible rfl))); (try simp only [Act.put, List.setIfInBounds_toArray, List.set_cons_zero, List.set_cons_succ])); (refine wpAnyH_take (i := 10) (v := ?_) rfl (by kernel_rfl) (by kernel_rfl) (by kernel_rfl) (fun _ _ _ h => h) ?_ (by assumption) ?_; rotate_left; (next => (refine Or.inl ⟨by kernel_rfl, ?_⟩; ((intro w hSw; (try dsimp only at hSw); go_simp) <;> with_reducible rfl))); (try simp only [Act.put, List.setIfInBounds_toArray, List.set_cons_zero, List.set_cons_succ])); refine wpAnyH_ready (rs := [11]) (by kernel_rfl) (by simp) ?_; refine AllReadyH.cons rfl (fun K hK => ?_) AllReadyH.nil; go_simp; refine hK.out _ _ (by ((repeat (with_reducible first | exact B9.out | exact B8.out | exact Below.refl _ _ | refine bl_rapp ?_ | (refine bl_set ?_ (by first | omega | (simp; done) | (simp; omega)) _) | refine bl_gr ?_ _ | refine bl_al ?_ _ | refine bl_drewN ?_ _ | refine Below.drew ?_)))) (fun hS => ?_); clear hK K; (try simp only [Act.put, List.setIfInBounds_toArray, List.set_cons_zero, List.set_cons_succ]); (first | refine anyH_alloc rfl (fun Z fB bB => ?_) | refine anyH_allocD rfl (fun Z fB bB => ?_)); have B9 := Lib.hid (show Below X.heap.size X Z from bl_tr (by (repeat (with_reducible first | exact B8.out | exact Below.refl _ _ | refine bl_rapp ?_ | (refine bl_set ?_ (by first | omega | (simp; done) | (simp; omega)) _) | refine bl_gr ?_ _ | refine bl_al ?_ _ | refine bl_drewN ?_ _ | refine Below.drew ?_))) bB); have FB := Lib.hid fB; have lZ := (Array.getElem?_eq_some_iff.1 fB).1; obtain ⟨⟨x0, x1, x2, x3, x4, x5, x6, x7, x8, x9, x10, x11, x12⟩, fz⟩ := cells13 (p := .nil) FB.out; clear fB bB; refine wpAnyH_ready (rs := [12]) (by kernel_rfl) (by simp) ?_; refine AllReadyH.cons rfl (fun K hK => ?_) AllReadyH.nil; go_simp; refine hK.out _ _ (by (have s8 := B8.out.size; have s9 := B9.out.size; (repeat (with_reducible first | exact B9.out | exact B8.out | exact Below.refl _ _ | refine bl_rapp ?_ | (refine bl_set ?_ (by first | omega | (simp; done) | (simp; omega)) _) | refine bl_gr ?_ _ | refine bl_al ?_ _ | refine bl_drewN ?_ _ | refine Below.drew ?_)))) (fun hS => ?_); clear hK K; (try simp only [Act.put, List.setIfInBounds_toArray, List.set_cons_zero, List.set_cons_succ]); skip; (refine wpAnyH_take (i := 13) (v := ?_) rfl (by kernel_rfl) (by kernel_rfl) (by kernel_rfl) (fun _ _ _ h => h) ?_ (by assumption) ?_; rotate_left; (next => (refine Or.inl ⟨by kernel_rfl, ?_⟩; ((intro w hSw; (try dsimp only at hSw); go_simp) <;> with_reducible rfl))); (try simp only [Act.put, List.setIfInBounds_toArray, List.set_cons_zero, List.set_cons_succ])); refine wpAnyH_done (by kernel_rfl) ?_ _; rotate_left 1; go_simp; refine hK.out _ _ (by ((repeat (with_reducible first | exact B9.out | exact B8.out | exact Below.refl _ _ | refine bl_rapp ?_ | (refine bl_set ?_ (by first | omega | (simp; done) | (simp; omega)) _) | refine bl_gr ?_ _ | refine bl_al ?_ _ | refine bl_drewN ?_ _ | refine Below.drew ?_)))) (fun hS => ?_); clear hK K; (try simp only [Act.put, List.setIfInBounds_toArray, List.set_cons_zero, List.set_cons_succ]); (first | refine anyH_alloc rfl (fun Z fB bB => ?_) | refine anyH_allocD rfl (fun Z fB bB => ?_)); have B9 := Lib.hid (show Below X.heap.size X Z from bl_tr (by (repeat (with_reducible first | exact B8.out | exact Below.refl _ _ | refine bl_rapp ?_ | (refine bl_set ?_ (by first | omega | (simp; done) | (simp; omega)) _) | refine bl_gr ?_ _ | refine bl_al ?_ _ | refine bl_drewN ?_ _ | refine Below.drew ?_))) bB); have FB := Lib.hid fB; have lZ := (Array.getElem?_eq_some_iff.1 fB).1; obtain ⟨⟨x0, x1, x2, x3, x4, x5, x6, x7, x8, x9, x10, x11, x12⟩, fz⟩ := cells13 (p := .nil) FB.out; clear fB bB; refine wpAnyH_ready (rs := [7]) (by kernel_rfl) (by simp) ?_; refine AllReadyH.cons rfl (fun K hK => ?_) AllReadyH.nil; go_simp; ((go_at_call 31; refine (AP.out _).mono ?_; rintro e w4 ⟨rfl, hb4⟩; have B8 := Lib.hid (show Below X.heap.size X w4 from bl_tr (by (repeat (with_reducible first | exact B9.out | exact Below.refl _ _ | refine bl_rapp ?_ | (refine bl_set ?_ (by first | omega | (simp; done) | (simp; omega)) _) | refine bl_gr ?_ _ | refine bl_al ?_ _ | refine bl_drewN ?_ _ | refine Below.drew ?_))) hb4); (first | (have FB2 := Lib.hid ((hb4.block _ lZ).trans FB.out); obtain ⟨⟨x0, x1, x2, x3, x4, x5, x6, x7, x8, x9, x10, x11, x12⟩, fz⟩ := cells13 (p := .nil) FB2.out) | skip); clear hb4)); refine hK.out _ _ (by ((repeat (with_reducible first | exact B9.out | exact B8.out | exact Below.refl _ _ | refine bl_rapp ?_ | (refine bl_set ?_ (by first | omega | (simp; done) | (simp; omega)) _) | refine bl_gr ?_ _ | refine bl_al ?_ _ | refine bl_drewN ?_ _ | refine Below.drew ?_)))) (fun hS => ?_); clear hK K; (try simp only [Act.put, List.setIfInBounds_toArray, List.set_cons_zero, List.set_cons_succ]); (refine wpAnyH_take (i := 8) (v := ?_) rfl (by kernel_rfl) (by kernel_rfl) (by kernel_rfl) (fun _ _ _ h => h) ?_ (by assumption) ?_; rotate_left; (next => (refine Or.inl ⟨by kernel_rfl, ?_⟩; ((intro w hSw; (try dsimp only at hSw); go_simp) <;> with_reducible rfl))); (try simp only [Act.put, List.setIfInBounds_toArray, List.set_cons_zero, List.set_cons_succ])); (refine wpAnyH_take (i := 9) (v := ?_) rfl (by kernel_rfl) (by kernel_rfl) (by kernel_rfl) (fun _ _ _ h => h) ?_ (by assumption) ?_; rotate_left; (next => (refine Or.inl ⟨by kernel_rfl, ?_⟩; ((intro w hSw; (try dsimp only at hSw); go_simp) <;> with_reducible rfl))); (try simp only [Act.put, List.setIfInBounds_toArray, List.set_cons_zero, List.set_cons_succ])); (refine wpAnyH_take (i := 10) (v := ?_) rfl (by kernel_rfl) (by kernel_rfl) (by kernel_rfl) (fun _ _ _ h => h) ?_ (by assumption) ?_; rotate_left; (next => (refine Or.inl ⟨by kernel_rfl, ?_⟩; ((intro w hSw; (try dsimp only at hSw); go_simp) <;> with_reducible rfl))); (try simp only [Act.put, List.setIfInBounds_toArray, List.set_cons_zero, List.set_cons_succ])); refine wpAnyH_ready (rs := [12]) (by kernel_rfl) (by simp) ?_; refine AllReadyH.cons rfl (fun K hK => ?_) AllReadyH.nil; go_simp; refine hK.out _ _ (by (have s8 := B8.out.size; have s9 := B9.out.size; (repeat (with_reducible first | exact B9.out | exact B8.out | exact Below.refl _ _ | refine bl_rapp ?_ | (refine bl_set ?_ (by first | omega | (simp; done) | (simp; omega)) _) | refine bl_gr ?_ _ | refine bl_al ?_ _ | refine bl_drewN ?_ _ | refine Below.drew ?_)))) (fun hS => ?_); clear hK K; (try simp only [Act.put, List.setIfInBounds_toArray, List.set_cons_zero, List.set_cons_succ]); skip; (refine wpAnyH_take (i := 13) (v := ?_) rfl (by kernel_rfl) (by kernel_rfl) (by kernel_rfl) (fun _ _ _ h => h) ?_ (by assumption) ?_; rotate_left; (next => (refine Or.inl ⟨by kernel_rfl, ?_⟩; ((intro w hSw; (try dsimp only at hSw); go_simp) <;> with_reducible rfl))); (try simp only [Act.put, List.setIfInBounds_toArray, List.set_cons_zero, List.set_cons_succ])); refine wpAnyH_done (by kernel_rfl) ?_ _)
    all_goals go_simp
    all_goals
      first
        | (have f := FB2.out; obtain ⟨Y, hY, hc, hT⟩ := setP (q := .nil) p f; have hB := Lib.hid (show Below X.heap.size X Y from B8.out.trans (hT.below B8.out.size (fun g e => by rw [e]; exact Nat.le_refl _))))
        | (have f := FB.out; obtain ⟨Y, hY, hc, hT⟩ := setP (q := .nil) p f; have hB := Lib.hid (show Below X.heap.size X Y from B9.out.trans (hT.below B9.out.size (fun g e => by rw [e]; exact B8.out.size))))
      rw [← hY]
      have HC := Lib.hid hc
      clear hY hT f hc x0 x1 x2 x3 x4 x5 x6 x7 x8 x9 x10 x11 x12 hS fz
      go_wp2_with fail
      go_meet
      exact ⟨_, rfl, rfl, HC.out, hB.out⟩
  case rest =>
    obtain ⟨B, rfl, rfl, hB, bY⟩ := hcut
    obtain ⟨⟨x0, x1, x2, x3, x4, x5, x6, x7, x8, x9, x10, x11, x12⟩, _⟩ := cells13 hB
    have HB := Lib.hid hB
    have lB := (Array.getElem?_eq_some_iff.1 hB).1
    have BY := Lib.hid (bl_tr BX.out bY)
    have VY := Lib.hid (VX.out.below bY)
    clear hB bY RD
    cases ap
    · have hD := DD.out
      simp only [Bool.false_eq_true, if_false] at hD
      have e1 := congrArg Prod.fst hD
      have e2 := congrArg Prod.snd hD
      clear hD
      dsimp only at e1 e2
      subst e1 e2
      clear DD
      go_wp2
      refine bodyPost_ret (v := .tuple #[.slice none 0 0, .bool false]) (by simp [results, Try.results10, go_sem, gr_size]) rfl ⟨_, _, rfl, own_nilE, BY.out⟩
    · have hD := DD.out
      simp only [if_true] at hD
      have e1 := congrArg Prod.fst hD
      have e2 := congrArg Prod.snd hD
      clear hD
      dsimp only at e1 e2
      subst e2
      have LL := Lib.hid e1
      clear DD e1
      go_upto_region 11 with (go_at_call 32; refine (CP.out _ VY.out).mono ?_; rintro e w3 ⟨g, cap, rfl, o3, -, b3⟩; obtain ⟨⟨z0, z1, z2, z3, z4, z5, z6, z7, z8, z9, z10, z11, z12⟩, _⟩ := cells13 ((b3.block _ lB).trans HB.out); have R3 := Lib.hid (show RowP w g n cap xs w3 from ⟨HM.out.2, ownsRow_low o3 BY.out.size, by have := own_lo o3 g rfl; exact Nat.le_trans BY.out.size this, bl_tr BY.out b3⟩); clear o3 b3)
      have fz := R3.out.fz
      have lg := R3.out.lt
      have RP := Lib.hid (R3.out.put HM.out.1 p)
      obtain ⟨r0, r1, r2, r3, r4, r5, r6, r7, r8, r9, r10, r11, r12⟩ := R3.out.at_ HM.out.1
      go_wp2
      rw [← LL.out]
      refine bodyPost_ret (v := .tuple #[.slice (some ⟨g, 0, none⟩) n cap, .bool true]) (by simp [results, Try.results10, go_sem, gr_size]) rfl ⟨_, _, by rw [← RP.out.1], by rw [← RP.out.1]; exact RP.out.2.1, RP.out.2.2.2⟩
theorem define_any (v : Value) (xs : List Prp) (ext : Bool) (k : Val) (d : Dsc) (hm : xs.length ≤ 3000) (w : World) (hv : IsP w v xs) :
    Calls Try.prog 10 #[v, .bool ext, k.agg, d.agg] w (RetPB w (defM xs ext k d).1 (defM xs ext k d).2) := by
  cases hf : xs.findIdx? (keyIs k)
  · exact define_new v xs ext k d hm hf w hv
  · exact define_old v xs ext k d _ hm hf w hv
end Go.Proofs.Ytippimonpdeioaa
namespace Go.Proofs.Ytippimonpdeioaa
set_option linter.all false
open Go.ChangeShapes Go.WideShapes Go.ChangeAt Go.RowKit Go.Sort Go.Deep

/-- what Delete answers -/
def delM (xs : List Prp) (k : Val) : List Prp × Bool :=
  match xs.findIdx? (keyIs k) with
  | none => (xs, true)
  | some i => if bits .and .i64 (pAt xs i).a 4 == 0 then ([], false) else (xs.take i ++ xs.drop (i + 1), true)
theorem find_lt {xs : List Prp} {p : Prp → Bool} {i : Nat} (h : xs.findIdx? p = some i) : i < xs.length := by
  rw [List.findIdx?_eq_some_iff_getElem] at h
  exact h.1

set_option maxRecDepth 100000 in
set_option maxHeartbeats 8000000 in
theorem delete_no (v : Value) (xs : List Prp) (k : Val) (hm : xs.length ≤ 3000) (hf : xs.findIdx? (keyIs k) = none) (w : World) (hv : IsP w v xs) :
    Calls Try.prog 19 #[v, k.agg] w (RetPB w (delM xs k).1 (delM xs k).2) := by
  obtain ⟨A, cp, rfl, _, _⟩ := hv.form
  have HV := Lib.hid hv
  have FD := Lib.hid (fun W (h : IsP W (.slice A xs.length cp) xs) => (show Calls Try.prog 18 #[.slice A xs.length cp, k.agg] W fun e w' => e = .returned (.int .i64 (-1)) ∧ Below W.heap.size W w' from by
    have := find_any _ xs k hm W h
    rwa [show findM xs k = -1 by unfold findM placeM; rw [hf]] at this))
  have CP := Lib.hid (fun W (h : IsP W (.slice A xs.length cp) xs) => copied_any _ xs hm W h)
  rw [show delM xs k = (xs, true) by unfold delM; rw [hf]]
  clear hv hm hf
  go_enter Try.func19, Try.ntmps19
  go_wp2_with (first | (go_at_call 18; refine (callGr (FD.out _ (HV.out.below (by (repeat (with_reducible first | exact Below.refl _ _ | (refine bl_set ?_ (by first | omega | (simp; done) | (simp; omega)) _) | refine bl_gr ?_ _ | refine bl_al ?_ _ | refine below_setRow ?_ (by first | omega | (simp; done) | (simp; omega)) _ | refine bl_drewN ?_ _ | refine Below.drew ?_ | (refine bl_tr ?_ (by assumption)))))))).mono ?_; rintro e w' ⟨pp, rfl, rfl⟩) | (go_at_call 32; refine (CP.out _ (HV.out.below (by (repeat (with_reducible first | exact Below.refl _ _ | (refine bl_set ?_ (by first | omega | (simp; done) | (simp; omega)) _) | refine bl_gr ?_ _ | refine bl_al ?_ _ | refine below_setRow ?_ (by first | omega | (simp; done) | (simp; omega)) _ | refine bl_drewN ?_ _ | refine Below.drew ?_ | (refine bl_tr ?_ (by assumption))))))).mono ?_; rintro e w3 ⟨g, cap, rfl, o3, -, b3⟩; have R3 := Lib.hid (And.intro (show OwnP w3 w.heap.size (.slice (some ⟨g, 0, none⟩) xs.length cap) xs from ownsRow_low o3 (Below.size (show Below w.heap.size w _ by (repeat (with_reducible first | exact Below.refl _ _ | (refine bl_set ?_ (by first | omega | (simp; done) | (simp; omega)) _) | refine bl_gr ?_ _ | refine bl_al ?_ _ | refine below_setRow ?_ (by first | omega | (simp; done) | (simp; omega)) _ | refine bl_drewN ?_ _ | refine Below.drew ?_ | (refine bl_tr ?_ (by assumption))))))) (bl_tr (show Below w.heap.size w _ by (repeat (with_reducible first | exact Below.refl _ _ | (refine bl_set ?_ (by first | omega | (simp; done) | (simp; omega)) _) | refine bl_gr ?_ _ | refine bl_al ?_ _ | refine below_setRow ?_ (by first | omega | (simp; done) | (simp; omega)) _ | refine bl_drewN ?_ _ | refine Below.drew ?_ | (refine bl_tr ?_ (by assumption))))) b3)); clear o3 b3))
  refine bodyPost_ret (v := .tuple #[.slice (some ⟨g, 0, none⟩) xs.length cap, .bool true]) (by simp [results, Try.results19, go_sem, gr_size]) rfl ⟨_, _, rfl, R3.out.1, R3.out.2⟩

theorem drop_slOf {w : World} {g n cap : Nat} {xs : List Prp} {lo : Nat} (h : OwnP w lo (.slice (some ⟨g, 0, none⟩) n cap) xs) (hn : n = xs.length) {j : Nat} (hj : j ≤ xs.length) : IsP w (.slice (some ⟨g, j * 13, none⟩) (n - j) (cap - j)) (xs.drop j) := by
  subst hn
  have hx := h.isP
  obtain ⟨hm, A, c, e, hc, h0⟩ := hx
  simp only [Value.slice.injEq, true_and] at e
  obtain ⟨rfl, rfl⟩ := e
  refine ⟨by simp; omega, some ⟨g, j * 13, none⟩, cap - j, by simp, by simp; omega, fun hp => ?_⟩
  obtain ⟨b, off, e, hb, hx⟩ := h0 (by simp at hp; omega)
  simp only [Option.some.injEq, Addr.mk.injEq, and_true] at e
  obtain ⟨rfl, rfl⟩ := e
  refine ⟨g, j * 13, rfl, hb, fun i x hi q u hu => ?_⟩
  rw [List.getElem?_drop] at hi
  have := hx (j + i) x hi q u hu
  rw [show 0 + (j + i) * 13 + q = j * 13 + i * 13 + q by omega] at this
  exact this
theorem take_own {w : World} {g n cap : Nat} {xs : List Prp} {lo : Nat} (h : OwnP w lo (.slice (some ⟨g, 0, none⟩) n cap) xs) (hn : n = xs.length) {j : Nat} (hj : j ≤ xs.length) : OwnP w lo (.slice (some ⟨g, 0, none⟩) j cap) (xs.take j) := by
  subst hn
  obtain ⟨h1, h2⟩ := h
  have hl : (xs.take j).length = j := by simp; omega
  refine ⟨flat_len prp_len _, ?_⟩
  rcases h2 with ⟨e, _⟩ | ⟨g', cap', cur, e, hb, hg, hc, hm, hs, ht⟩
  · cases e
  · simp only [Value.slice.injEq, Option.some.injEq, Addr.mk.injEq, true_and, and_true] at e
    obtain ⟨rfl, rfl⟩ := e
    refine .inr ⟨g, cap, cur, by rw [hl], hb, hg, by omega, hm, hs, ?_⟩
    have : flat Prp.cs (xs.take j) = (flat Prp.cs xs).take (j * 13) := by
      conv => rhs; rw [← List.take_append_drop j xs]
      unfold flat
      rw [List.flatMap_append, List.take_left']
      have := flat_len prp_len (xs.take j)
      unfold flat at this
      rw [this, hl]
    rw [this, ← ht, List.take_take, hl]
    congr 1
    omega

set_option maxRecDepth 100000 in
set_option maxHeartbeats 8000000 in
theorem delete_at (v : Value) (xs : List Prp) (k : Val) (i : Nat) (hm : xs.length ≤ 3000) (hf : xs.findIdx? (keyIs k) = some i) (w : World) (hv : IsP w v xs) :
    Calls Try.prog 19 #[v, k.agg] w (RetPB w (delM xs k).1 (delM xs k).2) := by
  obtain ⟨A, cp, rfl, _, _⟩ := hv.form
  have hi := find_lt hf
  have HV := Lib.hid hv
  have FD := Lib.hid (fun W (h : IsP W (.slice A xs.length cp) xs) => (show Calls Try.prog 18 #[.slice A xs.length cp, k.agg] W fun e w' => e = .returned (.int .i64 (i : Int)) ∧ Below W.heap.size W w' from by
    have := find_any _ xs k hm W h
    rwa [show findM xs k = i by unfold findM placeM; rw [hf]] at this))
  have CP := Lib.hid (fun W (h : IsP W (.slice A xs.length cp) xs) => copied_any _ xs hm W h)
  obtain ⟨L, ok, hL⟩ : ∃ L ok, delM xs k = (L, ok) := ⟨_, _, rfl⟩
  have hD := hL
  unfold delM at hD
  rw [hf] at hD
  simp only at hD
  have DD := Lib.hid hD
  rw [hL]
  have PX := Lib.hid (fun W (h : IsP W (.slice A xs.length cp) xs) => IsP.at13 h (pAt_lt hi))
  generalize pAt xs i = x at *
  obtain ⟨n, hn⟩ : ∃ n, n = xs.length := ⟨_, rfl⟩
  have q0 : ¬ (i : Int) < 0 := by omega
  have q1 : (i : Int) < (n : Int) := by omega
  obtain ⟨j, hj, ej⟩ : ∃ j : Nat, j = i + 1 ∧ wrap64 ((i : Int) + 1) = (j : Int) := ⟨i + 1, rfl, w64 rfl (by omega)⟩
  have q2 : (j : Int) ≤ (n : Int) := by omega
  have ej2 : IntKind.i64.wrap ((i : Int) + 1) = (j : Int) := by rw [IntKind.wrap_i64]; omega
  have HM := Lib.hid (And.intro hm (And.intro hi (And.intro hj hn)))
  rw [← hn] at HV FD CP PX
  rw [← hn]
  obtain ⟨b0, o0, c0, e0, -⟩ := PX.out _ HV.out
  simp only [Value.slice.injEq] at e0
  obtain ⟨rfl, -, -⟩ := e0
  clear hv hm hf hL hD hi hn hj
  go_enter Try.func19, Try.ntmps19
  go_upto_region 3 with (first | (go_at_call 18; refine (callGr (FD.out _ (HV.out.below (by (repeat (with_reducible first | exact Below.refl _ _ | (refine bl_set ?_ (by first | omega | (simp; done) | (simp; omega)) _) | refine bl_gr ?_ _ | refine bl_al ?_ _ | refine below_setRow ?_ (by first | omega | (simp; done) | (simp; omega)) _ | refine bl_drewN ?_ _ | refine Below.drew ?_ | (refine bl_tr ?_ (by assumption)))))))).mono ?_; rintro e w' ⟨pp, rfl, rfl⟩) | (go_at_call 32; refine (CP.out _ (HV.out.below (by (repeat (with_reducible first | exact Below.refl _ _ | (refine bl_set ?_ (by first | omega | (simp; done) | (simp; omega)) _) | refine bl_gr ?_ _ | refine bl_al ?_ _ | refine below_setRow ?_ (by first | omega | (simp; done) | (simp; omega)) _ | refine bl_drewN ?_ _ | refine Below.drew ?_ | (refine bl_tr ?_ (by assumption))))))).mono ?_; rintro e w3 ⟨g, cap, rfl, o3, cp3, b3⟩; have R3 := Lib.hid (And.intro (show OwnP w3 w.heap.size (.slice (some ⟨g, 0, none⟩) n cap) xs from by have := ownsRow_low o3 (Below.size (show Below w.heap.size w _ by (repeat (with_reducible first | exact Below.refl _ _ | (refine bl_set ?_ (by first | omega | (simp; done) | (simp; omega)) _) | refine bl_gr ?_ _ | refine bl_al ?_ _ | refine below_setRow ?_ (by first | omega | (simp; done) | (simp; omega)) _ | refine bl_drewN ?_ _ | refine Below.drew ?_ | (refine bl_tr ?_ (by assumption)))))); exact this) (And.intro cp3 (bl_tr (show Below w.heap.size w _ by (repeat (with_reducible first | exact Below.refl _ _ | (refine bl_set ?_ (by first | omega | (simp; done) | (simp; omega)) _) | refine bl_gr ?_ _ | refine bl_al ?_ _ | refine below_setRow ?_ (by first | omega | (simp; done) | (simp; omega)) _ | refine bl_drewN ?_ _ | refine Below.drew ?_ | (refine bl_tr ?_ (by assumption))))) b3))); clear o3 b3 cp3))
  obtain ⟨b1, o1, c1, e1, lb, -, -, -, -, h3, -⟩ := PX.out _ (HV.out.below R3.out.2.2)
  simp only [Value.slice.injEq, Option.some.injEq, Addr.mk.injEq, true_and, and_true] at e1
  obtain ⟨⟨rfl, rfl⟩, -⟩ := e1
  have TK := Lib.hid (show ∀ Z, Below w3.heap.size w3 Z → OwnP Z w.heap.size (.slice (some ⟨g, 0, none⟩) i cap) (xs.take i) ∧ IsP Z (.slice (some ⟨g, j * 13, none⟩) (n - j) (cap - j)) (xs.drop j) from fun Z h =>
    ⟨take_own (ownsRow_below R3.out.1 h) HM.out.2.2.2 (Nat.le_of_lt HM.out.2.1), drop_slOf (ownsRow_below R3.out.1 h) HM.out.2.2.2 (by rw [HM.out.2.2.1]; exact HM.out.2.1)⟩)
  obtain ⟨q3, q4⟩ : ((i : Int) ≤ (cap : Int)) ∧ ¬ cap = j := by have := HM.out; have := R3.out.2.1; omega
  obtain ⟨r, hr⟩ : ∃ r, r = n - j := ⟨_, rfl⟩
  obtain ⟨rc, hrc⟩ : ∃ r, r = cap - j := ⟨_, rfl⟩
  rw [← hr, ← hrc] at TK
  have LT := Lib.hid (show (xs.take i).length = i ∧ (xs.drop j).length = r from by have := HM.out; simp; omega)
  clear PX
  cases h4 : bits .and .i64 x.a 4 == 0
  · have hD := DD.out
    rw [h4] at hD
    simp only [Bool.false_eq_true, if_false] at hD
    have e1 := congrArg Prod.fst hD
    have e2 := congrArg Prod.snd hD
    clear hD
    dsimp only at e1 e2
    subst e2
    have LL := Lib.hid e1
    clear DD e1
    go_upto_region 7 with fail
    (refine wp_region_held_drew (S := (fun _ : World => True)) Try.mixed (by exact trivial) (fun hS => ?_); (refine wpAnyH_take (i := 0) (v := ?_) rfl (by kernel_rfl) (by kernel_rfl) (by kernel_rfl) (fun _ _ _ h => h) ?_ (by assumption) ?_; rotate_left; (next => (refine Or.inl ⟨by kernel_rfl, ?_⟩; ((intro w hSw; (try dsimp only at hSw); go_simp) <;> with_reducible rfl))); (try simp only [Act.put, List.setIfInBounds_toArray, List.set_cons_zero, List.set_cons_succ])); (refine wpAnyH_take (i := 1) (v := ?_) rfl (by kernel_rfl) (by kernel_rfl) (by kernel_rfl) (fun _ _ _ h => h) ?_ (by assumption) ?_; rotate_left; (next => (refine Or.inl ⟨by kernel_rfl, ?_⟩; ((intro w hSw; (try dsimp only at hSw); go_simp) <;> with_reducible rfl))); (try simp only [Act.put, List.setIfInBounds_toArray, List.set_cons_zero, List.set_cons_succ])); (refine wpAnyH_take (i := 2) (v := ?_) rfl (by kernel_rfl) (by kernel_rfl) (by kernel_rfl) (fun _ _ _ h => h) ?_ (by assumption) ?_; rotate_left; (next => (refine Or.inl ⟨by kernel_rfl, ?_⟩; ((intro w hSw; (try dsimp only at hSw); go_simp) <;> with_reducible rfl))); (try simp only [Act.put, List.setIfInBounds_toArray, List.set_cons_zero, List.set_cons_succ])); (refine wpAnyH_take (i := 3) (v := ?_) rfl (by kernel_rfl) (by kernel_rfl) (by kernel_rfl) (fun _ _ _ h => h) ?_ (by assumption) ?_; rotate_left; (next => (refine Or.inl ⟨by kernel_rfl, ?_⟩; ((intro w hSw; (try dsimp only at hSw); go_simp) <;> with_reducible rfl))); (try simp only [Act.put, List.setIfInBounds_toArray, List.set_cons_zero, List.set_cons_succ])); (refine wpAnyH_take (i := 4) (v := ?_) rfl (by kernel_rfl) (by kernel_rfl) (by kernel_rfl) (fun _ _ _ h => h) ?_ (by assumption) ?_; rotate_left; (next => (refine Or.inl ⟨by kernel_rfl, ?_⟩; ((intro w hSw; (try dsimp only at hSw); go_simp) <;> with_reducible rfl))); (try simp only [Act.put, List.setIfInBounds_toArray, List.set_cons_zero, List.set_cons_succ])); (refine wpAnyH_take (i := 5) (v := ?_) rfl (by kernel_rfl) (by kernel_rfl) (by kernel_rfl) (fun _ _ _ h => h) ?_ (by assumption) ?_; rotate_left; (next => (refine Or.inl ⟨by kernel_rfl, ?_⟩; ((intro w hSw; (try dsimp only at hSw); go_simp) <;> with_reducible rfl))); (try simp only [Act.put, List.setIfInBounds_toArray, List.set_cons_zero, List.set_cons_succ])); (refine wpAnyH_take (i := 6) (v := ?_) rfl (by kernel_rfl) (by kernel_rfl) (by kernel_rfl) (fun _ _ _ h => h) ?_ (by assumption) ?_; rotate_left; (next => (refine Or.inl ⟨by kernel_rfl, ?_⟩; ((intro w hSw; (try dsimp only at hSw); go_simp) <;> with_reducible rfl))); (try simp only [Act.put, List.setIfInBounds_toArray, List.set_cons_zero, List.set_cons_succ])); refine wpAnyH_ready (rs := [7]) (by kernel_rfl) (by simp) ?_; refine AllReadyH.cons rfl (fun K hK => ?_) AllReadyH.nil; (refine step_appG elem_prp w.heap.size rfl _ _ rfl (xs.take i) (xs.drop j) (yv := .slice (some ⟨g, 0, none⟩) i cap) (sv := .slice (some ⟨g, j * 13, none⟩) r rc) (by first | rfl | (simp [Act.eval, Act.put, hr, hrc, q4]; done)) (by first | rfl | (simp [Act.eval, Act.put, hr, hrc, q4, sliced, add_off]; done)) (TK.out _ (Below.drew (Below.refl _ _))).1 R3.out.2.2.size (TK.out _ (Below.drew (Below.refl _ _))).2 (by have := HM.out; simp; omega) (by have := HM.out; simp; omega) ?_; intro A5 n5 w5 o5 g5; obtain ⟨m5, hm5⟩ : ∃ m5, m5 = (xs.take i ++ xs.drop j).length := ⟨_, rfl⟩; rw [← hm5]; have M5 := Lib.hid (And.intro hm5 (And.intro o5 (show Below w.heap.size w w5 from grown_lo (Below.drew R3.out.2.2) g5 (own_lo (TK.out _ (Below.refl _ _)).1)))); clear hm5 o5 g5); refine hK.out _ _ (by exact trivial) (fun hS => ?_); clear hK K; (try simp only [Act.put, List.setIfInBounds_toArray, List.set_cons_zero, List.set_cons_succ]); (refine wpAnyH_take (i := 8) (v := ?_) rfl (by kernel_rfl) (by kernel_rfl) (by kernel_rfl) (fun _ _ _ h => h) ?_ (by assumption) ?_; rotate_left; (next => (refine Or.inl ⟨by kernel_rfl, ?_⟩; ((intro w hSw; (try dsimp only at hSw); go_simp) <;> with_reducible rfl))); (try simp only [Act.put, List.setIfInBounds_toArray, List.set_cons_zero, List.set_cons_succ])); (refine wpAnyH_take (i := 9) (v := ?_) rfl (by kernel_rfl) (by kernel_rfl) (by kernel_rfl) (fun _ _ _ h => h) ?_ (by assumption) ?_; rotate_left; (next => (refine Or.inl ⟨by kernel_rfl, ?_⟩; ((intro w hSw; (try dsimp only at hSw); go_simp) <;> with_reducible rfl))); (try simp only [Act.put, List.setIfInBounds_toArray, List.set_cons_zero, List.set_cons_succ])); refine wpAnyH_done (by kernel_rfl) ?_ _)
    go_simp
    go_wp2
    refine bodyPost_ret (v := .tuple #[.slice A5 m5 n5, .bool true]) (by simp [results, Try.results19, go_sem, gr_size]) rfl ⟨A5, n5, by rw [← LL.out, M5.out.1, HM.out.2.2.1], by rw [← LL.out, ← HM.out.2.2.1]; rw [M5.out.1] at M5; exact M5.out.2.1, M5.out.2.2⟩
  · have hD := DD.out
    rw [h4] at hD
    simp only [if_true] at hD
    have e1 := congrArg Prod.fst hD
    have e2 := congrArg Prod.snd hD
    clear hD
    dsimp only at e1 e2
    subst e1 e2
    clear DD
    go_wp2
    refine bodyPost_ret (v := .tuple #[.slice none 0 0, .bool false]) (by simp [results, Try.results19, go_sem, gr_size]) rfl ⟨_, _, rfl, own_nilE, R3.out.2.2⟩
theorem delete_any (v : Value) (xs : List Prp) (k : Val) (hm : xs.length ≤ 3000) (w : World) (hv : IsP w v xs) : Calls Try.prog 19 #[v, k.agg] w (RetPB w (delM xs k).1 (delM xs k).2) := by
  cases hf : xs.findIdx? (keyIs k)
  · exact delete_no v xs k hm hf w hv
  · exact delete_at v xs k _ hm hf w hv
end Go.Proofs.Ytippimonpdeioaa
