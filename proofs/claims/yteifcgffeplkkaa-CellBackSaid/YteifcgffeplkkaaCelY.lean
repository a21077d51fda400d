/- Cells: the law CellAll, walked. -/
import Derived.Test.YteifcgffeplkkaaCelX
import Derived.Test.YteifcgffeplkkaaCelS
import Derived.Deep.RegionHeldLaw
namespace Go.Proofs.Yteifcgffeplkkaa
set_option linter.all false
open Go.RowKit Go.Sort Go.Deep

/-- how many values of a list lead to an address -/
def cntA (n : Int) (l : List Val) : Nat := l.countP fun v => leadsB v && v.n == n
theorem cntA_step {n : Int} {l : List Val} {k : Nat} {v : Val} (h : l[k]? = some v) : cntA n (l.take (k + 1)) = cntA n (l.take k) + if leadsB v && v.n == n then 1 else 0 := by
  unfold cntA
  rw [List.take_add_one, h, List.countP_append, Option.toList_some, List.countP_singleton]
theorem addrD_cons (holding : Bool) (x : Bool × Val) (l : List (Bool × Val)) : addrD holding (x :: l) = addrD holding [x] ++ addrD holding l := addrD_append holding [x] l
theorem addrD_count (n : Int) (l : List (Bool × Val)) : (addrD true l).count n + (addrD false l).count n = l.countP fun x => leadsB x.2 && x.2.n == n := by
  induction l with
  | nil => rfl
  | cons x l ih =>
    rw [addrD_cons true, addrD_cons false, List.count_append, List.count_append, List.countP_cons, ← ih]
    have e : (addrD true [x]).count n + (addrD false [x]).count n = if leadsB x.2 && x.2.n == n then 1 else 0 := by
      obtain ⟨b, v⟩ := x
      cases b <;> cases hl : leadsB v <;> simp [addrD, hl, List.count_cons]
    omega
theorem elemsD_snd (c : CellD) : (elemsD c).map (·.2) = c.sl ++ c.mo := by
  unfold elemsD moreD
  rw [List.map_append, List.map_map]
  congr 1
  · exact List.map_id' c.sl
  · apply List.ext_getElem
    · simp
    · intro i h1 h2
      simp
theorem count_all (n : Int) (c : CellD) : (addrD true (elemsD c)).count n + (addrD false (elemsD c)).count n = cntA n (c.sl ++ c.mo) := by
  rw [addrD_count, ← elemsD_snd]
  unfold cntA
  rw [List.countP_map]
  rfl

set_option maxRecDepth 100000 in
set_option maxHeartbeats 8000000 in
theorem cellAll_any (sv mv : Value) (c : CellD) (n : Int) (hc : c.ok) (w : World) (h1 : IsV w sv c.sl) (h2 : IsV w mv c.mo) :
    Calls Try.prog 4 #[cellV c.k c.sh c.fl c.ag sv mv, .int .i64 n] w fun e w' => e = .returned (.bool true) ∧ Below w.heap.size w w' := by
  have H1 := Lib.hid h1
  have H2 := Lib.hid h2
  have OK := Lib.hid hc
  clear h1 h2 hc
  go_enter Try.func4, Try.ntmps4
  go_upto_region 1 with fail
  have hx := heap_alloc_new w (cellO c.k c.sh c.fl c.ag sv mv)
  generalize hW : w.alloc _ = W at hx ⊢
  have lt : w.heap.size < W.heap.size := by rw [← hW]; simp
  have B : Below w.heap.size w W := by rw [← hW]; exact bl_al (Below.refl _ _) _
  clear hW
  obtain ⟨⟨b0, b1, b2, b3, b4, b5⟩, _⟩ := cells6 hx
  have J1 := Lib.hid (H1.out.below B)
  have J2 := Lib.hid (H2.out.below B)
  have BB := Lib.hid B
  have HX := Lib.hid hx
  clear H1 H2 B hx
  go_upto_region 4 with (first
    | (go_at_call 8; refine (smallGr (small_any _ _ c OK.out _ (J1.out.below (by (repeat (with_reducible first | exact Below.refl _ _ | refine bl_rapp ?_ | (refine bl_set ?_ (by first | omega | (simp; done) | (simp; omega)) _) | refine bl_gr ?_ _ | refine bl_al ?_ _ | refine below_setRow ?_ (by first | omega | (simp; done) | (simp; omega)) _ | refine bl_drewN ?_ _ | refine Below.drew ?_ | (refine bl_tr ?_ (by assumption)))))) (J2.out.below (by (repeat (with_reducible first | exact Below.refl _ _ | refine bl_rapp ?_ | (refine bl_set ?_ (by first | omega | (simp; done) | (simp; omega)) _) | refine bl_gr ?_ _ | refine bl_al ?_ _ | refine below_setRow ?_ (by first | omega | (simp; done) | (simp; omega)) _ | refine bl_drewN ?_ _ | refine Below.drew ?_ | (refine bl_tr ?_ (by assumption)))))))).mono ?_; rintro e w' ⟨r, p0, rfl, hr, rfl⟩; cases r)
    | (go_at_call 9; refine (callGr (lives_any _)).mono ?_; rintro e w' ⟨pp, rfl, rfl⟩))
  · go_ret
    exact ⟨rfl, bl_tr BB.out (by (repeat (with_reducible first | exact Below.refl _ _ | refine bl_rapp ?_ | (refine bl_set ?_ (by first | omega | (simp; done) | (simp; omega)) _) | refine bl_gr ?_ _ | refine bl_al ?_ _ | refine below_setRow ?_ (by first | omega | (simp; done) | (simp; omega)) _ | refine bl_drewN ?_ _ | refine Below.drew ?_ | (refine bl_tr ?_ (by assumption)))))⟩
  · have ls : c.sl.length ≤ 1100 ∧ c.mo.length ≤ 1100 := by first | exact hr.out rfl | exact hr.out trivial | exact hr.out
    have LH := Lib.hid ls
    obtain ⟨W2, hW2⟩ : ∃ W2, W2 = gr W p0 := ⟨_, rfl⟩
    rw [← hW2]
    have jb : Below W.heap.size W W2 := by rw [hW2]; exact below_gr _ _
    clear hW2 ls hr
    have hx2 := (jb.block _ lt).trans HX.out
    have lt2 : w.heap.size < W2.heap.size := Nat.lt_of_lt_of_le lt jb.size
    have I1 := Lib.hid (J1.out.below jb)
    have I2 := Lib.hid (J2.out.below jb)
    have B2 := Lib.hid (bl_tr BB.out jb)
    have KK := Lib.hid (fun (W1 : World) (h : Below W2.heap.size W2 W1) => (h.block _ lt2).trans hx2)
    clear b0 b1 b2 b3 b4 b5 J1 J2 BB HX jb lt
    obtain ⟨⟨b0, b1, b2, b3, b4, b5⟩, _⟩ := cells6 hx2
    clear hx2
    go_region_held_law (fun w' : World => w'.cell? ⟨w.heap.size, 4, none⟩ = some sv ∧ w'.cell? ⟨w.heap.size, 5, none⟩ = some mv) (first | (and_intros <;> assumption) | (and_intros <;> go_simp)) (first
      | (refine step_appV W2 rfl (.tmp 12) (.tmp 14) rfl [] c.sl (by simp [Act.eval, Act.put]) (by simp [Act.eval, Act.put]) (by (repeat (with_reducible first | exact Below.refl _ _ | (refine bl_set ?_ (by first | omega | (simp; done) | (simp; omega)) _) | refine bl_gr ?_ _ | refine bl_al ?_ _ | refine below_setRow ?_ (by first | omega | (simp; done) | (simp; omega)) _ | refine bl_drewN ?_ _ | refine Below.drew ?_ | (refine bl_tr ?_ (by assumption))))) (World.ownsRow_made _ #[] 0 (Nat.le_refl _) (Nat.zero_le _) rfl) I1.out (by have := LH.out; unfold fitV; rw [List.nil_append]; omega) ?_; intro A3 n3 w3 o3 t3; simp only [List.nil_append] at o3 ⊢; obtain ⟨⟨_, _, _, _, d4, d5⟩, _⟩ := cells6 (KK.out w3 t3); have O3 := Lib.hid o3; have T3 := Lib.hid t3; clear o3 t3)
      | (refine step_appV W2 rfl (.tmp 15) (.tmp 17) rfl c.sl c.mo (by simp [Act.eval, Act.put]) (by simp [Act.eval, Act.put]) (T3.out) O3.out I2.out (by have := LH.out; unfold fitV; rw [List.length_append]; omega) ?_; intro A4 n4 w4 o4 t4; generalize hL : c.sl ++ c.mo = L at o4 ⊢; have EL := Lib.hid hL; clear hL; obtain ⟨⟨_, _, _, _, e4, e5⟩, _⟩ := cells6 (KK.out w4 t4); have O4 := Lib.hid (OwnV.isV o4); have T4 := Lib.hid t4; clear o4 t4))
    clear d4 d5 e4 e5 b0 b1 b2 b3 b4 b5
    go_simp
    go_wp2
    have hlen : L.length ≤ 2200 := by have := LH.out; rw [← EL.out, List.length_append]; omega
    go_loopw [20, 5] (fun i s wr => ∃ k m : Nat, k ≤ L.length ∧ i = .int .i64 k ∧ s = .int .i64 m ∧ m ≤ k ∧ Hid (cntA n (L.take k) = m) ∧ Below w4.heap.size w4 wr) (fun i _ _ => L.length - (intOf i).toNat)
    case atStart => exact ⟨0, 0, by omega, rfl, rfl, by omega, Lib.hid rfl, Below.refl _ _⟩
    case round =>
      obtain ⟨k, m, hk, rfl, rfl, hmk, hcn, hbw⟩ := hrel
      have BW := Lib.hid hbw
      by_cases hlt : k < L.length
      · have HV := O4.out.below hbw
        obtain ⟨b, off, rfl⟩ := isV_addr HV (by omega)
        obtain ⟨hb, c00, c01, c02⟩ := HV.v3 k hlt
        have EV := Lib.hid (cntA_step (n := n) (show L[k]? = some (vAt L k) by unfold vAt; rw [List.getElem?_eq_getElem hlt]; rfl))
        have q1 : (k : Int) < L.length := by omega
        generalize vAt L k = v at *
        clear hbw HV
        have nb : b ≠ wr.heap.size := by omega
        cases g7 : (v.k == 7) <;> cases g9 : (v.k == 9) <;> cases gn : (v.n == n)
        all_goals have EG := Lib.hid (show (leadsB v && v.n == n) = _ by rw [leadsB, g7, g9, gn])
        all_goals as_aux_lemma =>
          go_wp2
          go_roundw
          case rel =>
            first
            | exact ⟨k + 1, m, by omega, by go_num, rfl, by omega, Lib.hid (by rw [EV.out, hcn.out, EG.out]; rfl), bl_tr BW.out (by (repeat (with_reducible first | exact Below.refl _ _ | (refine bl_set ?_ (by first | omega | (simp; done) | (simp; omega)) _) | refine bl_gr ?_ _ | refine bl_al ?_ _ | refine below_setRow ?_ (by first | omega | (simp; done) | (simp; omega)) _ | refine bl_drewN ?_ _ | refine Below.drew ?_ | (refine bl_tr ?_ (by assumption)))))⟩
            | exact ⟨k + 1, m + 1, by omega, by go_num, by go_num, by omega, Lib.hid (by rw [EV.out, hcn.out, EG.out]; rfl), bl_tr BW.out (by (repeat (with_reducible first | exact Below.refl _ _ | (refine bl_set ?_ (by first | omega | (simp; done) | (simp; omega)) _) | refine bl_gr ?_ _ | refine bl_al ?_ _ | refine below_setRow ?_ (by first | omega | (simp; done) | (simp; omega)) _ | refine bl_drewN ?_ _ | refine Below.drew ?_ | (refine bl_tr ?_ (by assumption)))))⟩
          case measure => simp [intOf]; omega
      · have q1 : ¬ (k : Int) < L.length := by omega
        go_upto_region 10 with fail
        obtain ⟨x1, hx1⟩ : ∃ x, x = (addrD true (elemsD c)).count n := ⟨_, rfl⟩
        obtain ⟨x2, hx2⟩ : ∃ x, x = (addrD false (elemsD c)).count n := ⟨_, rfl⟩
        have C1 := Lib.hid (fun W v h => by have := counts_any v _ n W h; rw [← hx1] at this; exact this : ∀ (W : World) (v : Value), IsI W v (addrD true (elemsD c)) → Calls Try.prog 17 #[v, .int .i64 n] W fun e w' => e = .returned (.int .i64 (x1 : Nat)) ∧ Below W.heap.size W w')
        have C2 := Lib.hid (fun W v h => by have := counts_any v _ n W h; rw [← hx2] at this; exact this : ∀ (W : World) (v : Value), IsI W v (addrD false (elemsD c)) → Calls Try.prog 17 #[v, .int .i64 n] W fun e w' => e = .returned (.int .i64 (x2 : Nat)) ∧ Below W.heap.size W w')
        have hm : x1 + x2 = m := by
          have e := count_all n c
          have e2 := hcn.out
          rw [List.take_of_length_le (by omega)] at e2
          rw [hx1, hx2, e, EL.out, e2]
        have hw : (x1 : Int) + x2 = (m : Int) := by omega
        have hwm : IntKind.i64.wrap (m : Int) = (m : Int) := by rw [IntKind.wrap_i64]; omega
        have tb := bl_tr T4.out BW.out
        obtain ⟨⟨b0, b1, b2, b3, b4, b5⟩, _⟩ := cells6 (KK.out wr tb)
        have J1 := Lib.hid (I1.out.below tb)
        have J2 := Lib.hid (I2.out.below tb)
        have BE := Lib.hid (bl_tr B2.out tb)
        have LL := Lib.hid (show c.sl.length + c.mo.length ≤ 17592186044416 by have := LH.out; omega)
        have l1 : w.heap.size < wr.heap.size := Nat.lt_of_lt_of_le lt2 tb.size
        clear hx1 hx2 tb hbw hcn EL I1 I2 B2 KK T3 T4 O3 O4 BW lt2 hm q1 hlt hmk hk hlen
        go_region_held3 (fun w' : World => w'.cell? ⟨w.heap.size, 0, none⟩ = some (.int .i64 c.k) ∧ w'.cell? ⟨w.heap.size, 1, none⟩ = some (.int .i64 c.sh) ∧ w'.cell? ⟨w.heap.size, 2, none⟩ = some (.int .i64 c.fl) ∧ w'.cell? ⟨w.heap.size, 3, none⟩ = some (.int .i64 c.ag) ∧ w'.cell? ⟨w.heap.size, 4, none⟩ = some sv ∧ w'.cell? ⟨w.heap.size, 5, none⟩ = some mv) (and_intros <;> go_simp) (first
          | (go_at_call 11; refine (callGrV (leads_of _ _ c OK.out _ (J1.out.below (by (repeat (with_reducible first | exact Below.refl _ _ | refine bl_rapp ?_ | (refine bl_set ?_ (by first | omega | (simp; done) | (simp; omega)) _) | refine bl_gr ?_ _ | refine bl_al ?_ _ | refine below_setRow ?_ (by first | omega | (simp; done) | (simp; omega)) _ | refine bl_drewN ?_ _ | refine Below.drew ?_ | (refine bl_tr ?_ (by assumption)))))) (J2.out.below (by (repeat (with_reducible first | exact Below.refl _ _ | refine bl_rapp ?_ | (refine bl_set ?_ (by first | omega | (simp; done) | (simp; omega)) _) | refine bl_gr ?_ _ | refine bl_al ?_ _ | refine below_setRow ?_ (by first | omega | (simp; done) | (simp; omega)) _ | refine bl_drewN ?_ _ | refine Below.drew ?_ | (refine bl_tr ?_ (by assumption)))))) LL.out)).mono ?_; rintro e w' ⟨v1, p1, rfl, I1, rfl⟩)
          | (go_at_call 13; refine (callGrV (weakly_of _ _ c OK.out _ (J1.out.below (by (repeat (with_reducible first | exact Below.refl _ _ | refine bl_rapp ?_ | (refine bl_set ?_ (by first | omega | (simp; done) | (simp; omega)) _) | refine bl_gr ?_ _ | refine bl_al ?_ _ | refine below_setRow ?_ (by first | omega | (simp; done) | (simp; omega)) _ | refine bl_drewN ?_ _ | refine Below.drew ?_ | (refine bl_tr ?_ (by assumption)))))) (J2.out.below (by (repeat (with_reducible first | exact Below.refl _ _ | refine bl_rapp ?_ | (refine bl_set ?_ (by first | omega | (simp; done) | (simp; omega)) _) | refine bl_gr ?_ _ | refine bl_al ?_ _ | refine below_setRow ?_ (by first | omega | (simp; done) | (simp; omega)) _ | refine bl_drewN ?_ _ | refine Below.drew ?_ | (refine bl_tr ?_ (by assumption)))))) LL.out)).mono ?_; rintro e w' ⟨v3, p3, rfl, I3, rfl⟩)
          | (go_at_call_of 17 v1; have i1 := I1.out; (try simp only [gr_gr, drew_gr] at i1); refine (callGr (C1.out _ _ (i1.below (by (repeat (with_reducible first | exact Below.refl _ _ | refine bl_rapp ?_ | (refine bl_set ?_ (by first | omega | (simp; done) | (simp; omega)) _) | refine bl_gr ?_ _ | refine bl_al ?_ _ | refine below_setRow ?_ (by first | omega | (simp; done) | (simp; omega)) _ | refine bl_drewN ?_ _ | refine Below.drew ?_ | (refine bl_tr ?_ (by assumption)))))))).mono ?_; rintro e w' ⟨p5, rfl, rfl⟩; clear i1)
          | (go_at_call_of 17 v3; have i1 := I3.out; (try simp only [gr_gr, drew_gr] at i1); refine (callGr (C2.out _ _ (i1.below (by (repeat (with_reducible first | exact Below.refl _ _ | refine bl_rapp ?_ | (refine bl_set ?_ (by first | omega | (simp; done) | (simp; omega)) _) | refine bl_gr ?_ _ | refine bl_al ?_ _ | refine below_setRow ?_ (by first | omega | (simp; done) | (simp; omega)) _ | refine bl_drewN ?_ _ | refine Below.drew ?_ | (refine bl_tr ?_ (by assumption)))))))).mono ?_; rintro e w' ⟨p6, rfl, rfl⟩; clear i1)
          | (go_at_call 9; refine (callGr (lives_any _)).mono ?_; rintro e w' ⟨pp, rfl, rfl⟩))
        all_goals go_wp2_with fail
        all_goals go_ret
        all_goals exact ⟨rfl, bl_tr BE.out (by (repeat (with_reducible first | exact Below.refl _ _ | refine bl_rapp ?_ | (refine bl_set ?_ (by first | omega | (simp; done) | (simp; omega)) _) | refine bl_gr ?_ _ | refine bl_al ?_ _ | refine below_setRow ?_ (by first | omega | (simp; done) | (simp; omega)) _ | refine bl_drewN ?_ _ | refine Below.drew ?_ | (refine bl_tr ?_ (by assumption)))))⟩
end Go.Proofs.Yteifcgffeplkkaa
