/- Cells: Leads and Weakly, by the reference. -/
import Derived.Test.YteifcgffeplkkaaCelN
namespace Go.Proofs.Yteifcgffeplkkaa
set_option linter.all false
open Go.RowKit Go.Sort Go.Deep

/-- one number has been appended to a row of the call's own -/
theorem app_int {wr w5 : World} {pp : Regrown} {ob : Obj} {lo n0 n5 bx : Nat} {A0 A5 : Option Addr} {xs : List Int} {n : Int} {o' : Obj} (ho : OwnI wr lo (.slice A0 xs.length n0) xs)
    (hown : w5.ownsRow lo 3 1 (.slice A5 (xs.length + 1) n5) (xs.length + 1) (xs.map (Value.int .i64) ++ [.int .i64 n])) (hgrow : ((gr wr pp).alloc ob).grownBy w5 (Value.ownBlock (.slice A0 xs.length n0))) (hbx : wr.heap[bx]? = some o') (hlt : bx < lo) (hlo : lo ≤ wr.heap.size) :
    OwnI w5 lo (.slice A5 (xs ++ [n]).length n5) (xs ++ [n]) ∧ w5.heap[bx]? = some o' ∧ Below lo wr w5 := by
  have T1 : Touch (fun k => Value.ownBlock (.slice A0 xs.length n0) = some k) wr w5 := (((Touch.refl _ wr).gr pp).alloc ob).trans ⟨hgrow.os, hgrow.tape, hgrow.output, hgrow.size, fun k hk hn => hgrow.block k hk fun e => hn e.symm⟩ (fun _ _ h => h)
  have hl := (Array.getElem?_eq_some_iff.1 hbx).1
  refine ⟨?_, (T1.block bx hl (fun e => by have := (ho.lt _ e).1; omega)).trans hbx, T1.below hlo fun k hk => (ho.lt _ hk).1⟩
  have e : (xs ++ [n]).length = xs.length + 1 := by simp
  unfold OwnI
  rw [e, List.map_append]
  exact hown
theorem take_sl (c : CellD) (k : Nat) (hk : k < c.sl.length) : (elemsD c).take (k + 1) = (elemsD c).take k ++ [(true, c.sl[k])] := by
  have hl : k < (elemsD c).length := by rw [elemsD_len]; omega
  rw [List.take_succ_eq_append_getElem hl]
  congr 2
  simp only [elemsD]
  rw [List.getElem_append_left (by simpa using hk)]
  simp
theorem take_mo (c : CellD) (k : Nat) (hk : k < c.mo.length) : (elemsD c).take (c.sl.length + k + 1) = (elemsD c).take (c.sl.length + k) ++ [(holdsB c.k k, c.mo[k])] := by
  have hl : c.sl.length + k < (elemsD c).length := by rw [elemsD_len]; omega
  rw [List.take_succ_eq_append_getElem hl]
  congr 2
  simp only [elemsD]
  rw [List.getElem_append_right (by simp)]
  simp [moreD]
theorem addrD_sl (l : List Val) : addrD false (l.map fun v => (true, v)) = [] := by
  unfold addrD
  rw [List.filter_eq_nil_iff.2]
  · rfl
  · intro x hx
    obtain ⟨v, _, rfl⟩ := List.mem_map.1 hx
    simp

set_option maxRecDepth 100000 in
set_option maxHeartbeats 4000000 in
theorem rleads_of (sv mv : Value) (c : CellD) (w : World) (h1 : IsV w sv c.sl) (h2 : IsV w mv c.mo) (hlen : c.sl.length + c.mo.length ≤ 17592186044416) :
    Calls Try.prog 12 #[cellV c.k c.sh c.fl c.ag sv mv] w fun e w' => ∃ v, e = .returned v ∧ IsI w' v (addrD true (elemsD c)) ∧ Below w.heap.size w w' := by
  obtain ⟨A1, n1, rfl, _, hm1⟩ := h1.form
  obtain ⟨A2, n2, rfl, _, hm2⟩ := h2.form
  have H1 := Lib.hid h1
  have H2 := Lib.hid h2
  obtain ⟨i0, hi, hz0, hz1, hz2⟩ := info_parts int_info
  have II := Lib.hid (And.intro hi (And.intro hz0 (And.intro hz1 hz2)))
  clear h1 h2 hi hz0 hz1 hz2
  go_enter Try.func12, Try.ntmps12
  go_wp2
  go_loopw [3, 4] (fun o i wr => ∃ (k : Nat) (A0 : Option Addr) (n0 : Nat), k ≤ c.sl.length ∧ i = .int .i64 k ∧ o = .slice A0 (addrD true ((elemsD c).take k)).length n0 ∧ OwnI wr (w.heap.size + 1) (.slice A0 (addrD true ((elemsD c).take k)).length n0) (addrD true ((elemsD c).take k)) ∧
    wr.heap[w.heap.size]? = some (cellO c.k c.sh c.fl c.ag (.slice A1 c.sl.length n1) (.slice A2 c.mo.length n2)) ∧ Below w.heap.size w wr) (fun _ i _ => c.sl.length - (intOf i).toNat)
  case atStart => exact ⟨0, none, 0, by omega, rfl, rfl, World.ownsRow_nil _ _ _ _, heap_alloc_new _ _, by (repeat (with_reducible first | exact Below.refl _ _ | (refine bl_set ?_ (by first | omega | (simp; done) | (simp; omega)) _) | refine bl_gr ?_ _ | refine bl_al ?_ _ | refine below_setRow ?_ (by first | omega | (simp; done) | (simp; omega)) _ | refine bl_drewN ?_ _ | refine Below.drew ?_ | (refine bl_tr ?_ (by assumption))))⟩
  case round =>
    obtain ⟨k, A0, n0, hk, rfl, rfl, ho, hx, hB⟩ := hrel
    obtain ⟨⟨b0, b1, b2, b3, b4, b5⟩, _⟩ := cells6 hx
    have lx := (Array.getElem?_eq_some_iff.1 hx).1
    have hal := addrD_len true ((elemsD c).take k)
    rw [List.length_take] at hal
    have INV := Lib.hid (And.intro ho (And.intro hx hB))
    by_cases hlt : k < c.sl.length
    · have HV := H1.out.below hB
      obtain ⟨b, off, rfl⟩ := isV_addr HV (by omega)
      obtain ⟨hb, c00, c01, c02⟩ := HV.v3 k hlt
      have ET := take_sl c k hlt
      have ev : c.sl[k] = vAt c.sl k := by unfold vAt; rw [List.getElem?_eq_getElem hlt]; rfl
      rw [ev] at ET
      have q0 : ¬ (k : Int) < 0 := by omega
      have q1 : (k : Int) < c.sl.length := by omega
      have E8 := Lib.hid ET
      generalize vAt c.sl k = v at *
      clear ho hx hB HV ev ET
      cases hle : leadsB v
      · have LA := Lib.hid (fun W1 => by have := rhas_any v W1; rw [hle] at this; exact this : ∀ W1, Calls Try.prog 26 #[v.agg] W1 fun e w' => e = .returned (.bool false) ∧ Below W1.heap.size W1 w')
        have e9 := Lib.hid (show addrD true ((elemsD c).take (k + 1)) = addrD true ((elemsD c).take k) by rw [E8.out, addrD_snoc]; simp [hle])
        clear hle
        go_wp2_with (go_at_call 26; refine (callGr (LA.out _)).mono ?_; rintro e w' ⟨pp, rfl, rfl⟩)
        go_roundw
        case rel => exact ⟨k + 1, A0, n0, by omega, by go_num, by rw [e9.out], by rw [e9.out]; exact ownsRow_below INV.out.1 (below_gr _ _), ((below_gr _ _).block _ lx).trans INV.out.2.1, by have := INV.out.2.2; exact bl_gr this _⟩
        case measure => simp [intOf]; omega
      · have LA := Lib.hid (fun W1 => by have := rhas_any v W1; rw [hle] at this; exact this : ∀ W1, Calls Try.prog 26 #[v.agg] W1 fun e w' => e = .returned (.bool true) ∧ Below W1.heap.size W1 w')
        have e9 := Lib.hid (show addrD true ((elemsD c).take (k + 1)) = addrD true ((elemsD c).take k) ++ [v.n] by rw [E8.out, addrD_snoc]; simp [hle])
        clear hle
        go_wp2_with (first
          | (go_at_call 26; refine (callGr (LA.out _)).mono ?_; rintro e w' ⟨pp, rfl, rfl⟩)
          | (at_builtin; refine wpList_append_own _ rfl _ _ 28 rfl (w.heap.size + 1) 3 i0 (.int .i64 0) 1 8 Try.underlying28 II.out.1 II.out.2.1 II.out.2.2.1 II.out.2.2.2 rfl (by decide) _ _ _ rfl ((ownsRow_below INV.out.1 (below_gr wr pp)).alloc _) ⟨wr.heap.size + pp.os.size, 0, none⟩ 1 1 [.int .i64 v.n] rfl rfl ?_ ?_ ?_ ?_ ?_ ?_; (next => exact news_gr rfl); (next => intro u hu; simp at hu; subst hu; rfl); (next => unfold maxLen; omega); (next => omega); (next => simp [gr_size]; omega); intro v' w5 hown hgrow _; obtain ⟨A5, n5, rfl⟩ := ownsRow_form hown; have AP := Lib.hid (app_int INV.out.1 hown hgrow INV.out.2.1 (by omega) (by omega)); clear hown hgrow))
        go_roundw
        case rel => exact ⟨k + 1, A5, n5, by omega, by go_num, by rw [e9.out]; simp, by rw [e9.out]; exact AP.out.1, AP.out.2.1, INV.out.2.2.trans (AP.out.2.2.mono (by omega))⟩
        case measure => simp [intOf]; omega
    · have q1 : ¬ (k : Int) < c.sl.length := by omega
      have HK := Lib.hid (show k = c.sl.length by omega)
      clear ho hx hB
      go_wp2
      clear b0 b1 b2 b3 b4 b5
      obtain ⟨wo, rfl⟩ : ∃ wo : World, wo = wr := ⟨_, rfl⟩
      go_loopw [3, 5] (fun o i wr => ∃ (m : Nat) (A0 : Option Addr) (n0 : Nat), m ≤ c.mo.length ∧ i = .int .i64 m ∧ o = .slice A0 (addrD true ((elemsD c).take (c.sl.length + m))).length n0 ∧ OwnI wr (w.heap.size + 1) (.slice A0 (addrD true ((elemsD c).take (c.sl.length + m))).length n0) (addrD true ((elemsD c).take (c.sl.length + m))) ∧
        wr.heap[w.heap.size]? = some (cellO c.k c.sh c.fl c.ag (.slice A1 c.sl.length n1) (.slice A2 c.mo.length n2)) ∧ Below w.heap.size w wr) (fun _ i _ => c.mo.length - (intOf i).toNat)
      case atStart => exact ⟨0, A0, n0, by omega, rfl, by rw [Nat.add_zero, ← HK.out], by rw [Nat.add_zero, ← HK.out]; exact INV.out.1, INV.out.2.1, INV.out.2.2⟩
      case round =>
        clear INV HK hal lx q1 hlt hk
        obtain ⟨m, A0, n0, hk, rfl, rfl, ho, hx, hB⟩ := hrel
        obtain ⟨⟨b0, b1, b2, b3, b4, b5⟩, _⟩ := cells6 hx
        have lx := (Array.getElem?_eq_some_iff.1 hx).1
        have hal := addrD_len true ((elemsD c).take (c.sl.length + m))
        rw [List.length_take] at hal
        have INV := Lib.hid (And.intro ho (And.intro hx hB))
        by_cases hlt : m < c.mo.length
        · have HV := H2.out.below hB
          obtain ⟨b, off, rfl⟩ := isV_addr HV (by omega)
          obtain ⟨hb, c00, c01, c02⟩ := HV.v3 m hlt
          have ET := take_mo c m hlt
          have ev : c.mo[m] = vAt c.mo m := by unfold vAt; rw [List.getElem?_eq_getElem hlt]; rfl
          rw [ev] at ET
          have q0 : ¬ (m : Int) < 0 := by omega
          have q1 : (m : Int) < c.mo.length := by omega
          have E8 := Lib.hid ET
          generalize vAt c.mo m = v at *
          clear ho hx hB HV ev ET
          cases hle : leadsB v
          · have LA := Lib.hid (fun W1 => by have := rhas_any v W1; rw [hle] at this; exact this : ∀ W1, Calls Try.prog 26 #[v.agg] W1 fun e w' => e = .returned (.bool false) ∧ Below W1.heap.size W1 w')
            have e9 := Lib.hid (show addrD true ((elemsD c).take (c.sl.length + (m + 1))) = addrD true ((elemsD c).take (c.sl.length + m)) by rw [← Nat.add_assoc, E8.out, addrD_snoc]; simp [hle])
            clear hle
            go_wp2_with (go_at_call 26; refine (callGr (LA.out _)).mono ?_; rintro e w' ⟨pp, rfl, rfl⟩)
            go_roundw
            case rel => exact ⟨m + 1, A0, n0, by omega, by go_num, by rw [e9.out], by rw [e9.out]; exact ownsRow_below INV.out.1 (below_gr _ _), ((below_gr _ _).block _ lx).trans INV.out.2.1, by have := INV.out.2.2; exact bl_gr this _⟩
            case measure => simp [intOf]; omega
          · have LA := Lib.hid (fun W1 => by have := rhas_any v W1; rw [hle] at this; exact this : ∀ W1, Calls Try.prog 26 #[v.agg] W1 fun e w' => e = .returned (.bool true) ∧ Below W1.heap.size W1 w')
            cases hh : holdsB c.k m
            · have WA := Lib.hid (fun W1 => by have := weak_any c.k m (by omega) W1; rw [hh] at this; exact this : ∀ W1, Calls Try.prog 27 #[.int .i64 c.k, .int .i64 m] W1 fun e w' => e = .returned (.bool true) ∧ Below W1.heap.size W1 w')
              have e9 := Lib.hid (show addrD true ((elemsD c).take (c.sl.length + (m + 1))) = addrD true ((elemsD c).take (c.sl.length + m)) by rw [← Nat.add_assoc, E8.out, addrD_snoc]; simp [hh])
              clear hle hh
              go_wp2_with (first | (go_at_call 26; refine (callGr (LA.out _)).mono ?_; rintro e w' ⟨pp, rfl, rfl⟩) | (go_at_call 27; refine (callGr (WA.out _)).mono ?_; rintro e w' ⟨pp, rfl, rfl⟩))
              go_roundw
              case rel => exact ⟨m + 1, A0, n0, by omega, by go_num, by rw [e9.out], by rw [e9.out]; exact ownsRow_below INV.out.1 (below_gr _ _), ((below_gr _ _).block _ lx).trans INV.out.2.1, by have := INV.out.2.2; exact bl_gr this _⟩
              case measure => simp [intOf]; omega
            · have WA := Lib.hid (fun W1 => by have := weak_any c.k m (by omega) W1; rw [hh] at this; exact this : ∀ W1, Calls Try.prog 27 #[.int .i64 c.k, .int .i64 m] W1 fun e w' => e = .returned (.bool false) ∧ Below W1.heap.size W1 w')
              have e9 := Lib.hid (show addrD true ((elemsD c).take (c.sl.length + (m + 1))) = addrD true ((elemsD c).take (c.sl.length + m)) ++ [v.n] by rw [← Nat.add_assoc, E8.out, addrD_snoc]; simp [hh, hle])
              clear hle hh
              go_upto_region 11 with (first | (go_at_call 26; refine (callGr (LA.out _)).mono ?_; rintro e w' ⟨pp, rfl, rfl⟩) | (go_at_call 27; refine (callGr (WA.out _)).mono ?_; rintro e w' ⟨pp, rfl, rfl⟩))
              generalize rapp _ _ = pp
              go_wp2_with (at_builtin; refine wpList_append_own _ rfl _ _ 28 rfl (w.heap.size + 1) 3 i0 (.int .i64 0) 1 8 Try.underlying28 II.out.1 II.out.2.1 II.out.2.2.1 II.out.2.2.2 rfl (by decide) _ _ _ rfl ((ownsRow_below INV.out.1 (below_gr wr pp)).alloc _) ⟨wr.heap.size + pp.os.size, 0, none⟩ 1 1 [.int .i64 v.n] rfl rfl ?_ ?_ ?_ ?_ ?_ ?_; (next => exact news_gr rfl); (next => intro u hu; simp at hu; subst hu; rfl); (next => unfold maxLen; omega); (next => omega); (next => simp [gr_size]; omega); intro v' w5 hown hgrow _; obtain ⟨A5, n5, rfl⟩ := ownsRow_form hown; have AP := Lib.hid (app_int INV.out.1 hown hgrow INV.out.2.1 (by omega) (by omega)); clear hown hgrow)
              go_roundw
              case rel => exact ⟨m + 1, A5, n5, by omega, by go_num, by rw [e9.out]; simp, by rw [e9.out]; exact AP.out.1, AP.out.2.1, INV.out.2.2.trans (AP.out.2.2.mono (by omega))⟩
              case measure => simp [intOf]; omega
        · have hm9 : m = c.mo.length := by omega
          have q1 : ¬ (m : Int) < c.mo.length := by omega
          have HM := Lib.hid hm9
          clear ho hx hB hm9
          go_wp2
          go_ret
          have hI := OwnI.isI INV.out.1
          have e9 : (elemsD c).take (c.sl.length + m) = elemsD c := List.take_of_length_le (by rw [elemsD_len, HM.out]; omega)
          rw [e9] at hI
          exact ⟨_, rfl, by rw [e9]; exact hI, INV.out.2.2⟩

set_option maxRecDepth 100000 in
set_option maxHeartbeats 4000000 in
theorem rweakly_of (sv mv : Value) (c : CellD) (w : World) (h1 : IsV w sv c.sl) (h2 : IsV w mv c.mo) (hlen : c.sl.length + c.mo.length ≤ 17592186044416) :
    Calls Try.prog 14 #[cellV c.k c.sh c.fl c.ag sv mv] w fun e w' => ∃ v, e = .returned v ∧ IsI w' v (addrD false (elemsD c)) ∧ Below w.heap.size w w' := by
  obtain ⟨A1, n1, rfl, _, hm1⟩ := h1.form
  obtain ⟨A2, n2, rfl, _, hm2⟩ := h2.form
  have H2 := Lib.hid h2
  obtain ⟨i0, hi, hz0, hz1, hz2⟩ := info_parts int_info
  have II := Lib.hid (And.intro hi (And.intro hz0 (And.intro hz1 hz2)))
  have Z := Lib.hid (show addrD false ((elemsD c).take c.sl.length) = [] by rw [elemsD, List.take_append_of_le_length (by simp), List.take_of_length_le (by simp)]; exact addrD_sl _)
  clear h1 h2 hi hz0 hz1 hz2
  go_enter Try.func14, Try.ntmps14
  go_wp2
  go_loopw [3, 4] (fun o i wr => ∃ (m : Nat) (A0 : Option Addr) (n0 : Nat), m ≤ c.mo.length ∧ i = .int .i64 m ∧ o = .slice A0 (addrD false ((elemsD c).take (c.sl.length + m))).length n0 ∧ OwnI wr (w.heap.size + 1) (.slice A0 (addrD false ((elemsD c).take (c.sl.length + m))).length n0) (addrD false ((elemsD c).take (c.sl.length + m))) ∧
    wr.heap[w.heap.size]? = some (cellO c.k c.sh c.fl c.ag (.slice A1 c.sl.length n1) (.slice A2 c.mo.length n2)) ∧ Below w.heap.size w wr) (fun _ i _ => c.mo.length - (intOf i).toNat)
  case atStart => exact ⟨0, none, 0, by omega, rfl, by rw [Nat.add_zero, Z.out]; rfl, by have Z0 := Z.out; show OwnI _ _ (.slice none (addrD false ((elemsD c).take c.sl.length)).length 0) (addrD false ((elemsD c).take c.sl.length)); rw [Z0]; exact World.ownsRow_nil _ _ _ _, heap_alloc_new _ _, by (repeat (with_reducible first | exact Below.refl _ _ | (refine bl_set ?_ (by first | omega | (simp; done) | (simp; omega)) _) | refine bl_gr ?_ _ | refine bl_al ?_ _ | refine below_setRow ?_ (by first | omega | (simp; done) | (simp; omega)) _ | refine bl_drewN ?_ _ | refine Below.drew ?_ | (refine bl_tr ?_ (by assumption))))⟩
  case round =>
    obtain ⟨m, A0, n0, hk, rfl, rfl, ho, hx, hB⟩ := hrel
    obtain ⟨⟨b0, b1, b2, b3, b4, b5⟩, _⟩ := cells6 hx
    have lx := (Array.getElem?_eq_some_iff.1 hx).1
    have hal := addrD_len false ((elemsD c).take (c.sl.length + m))
    rw [List.length_take] at hal
    have INV := Lib.hid (And.intro ho (And.intro hx hB))
    by_cases hlt : m < c.mo.length
    · have HV := H2.out.below hB
      obtain ⟨b, off, rfl⟩ := isV_addr HV (by omega)
      obtain ⟨hb, c00, c01, c02⟩ := HV.v3 m hlt
      have ET := take_mo c m hlt
      have ev : c.mo[m] = vAt c.mo m := by unfold vAt; rw [List.getElem?_eq_getElem hlt]; rfl
      rw [ev] at ET
      have q0 : ¬ (m : Int) < 0 := by omega
      have q1 : (m : Int) < c.mo.length := by omega
      have E8 := Lib.hid ET
      generalize vAt c.mo m = v at *
      clear ho hx hB HV ev ET
      cases hle : leadsB v
      · have LA := Lib.hid (fun W1 => by have := rhas_any v W1; rw [hle] at this; exact this : ∀ W1, Calls Try.prog 26 #[v.agg] W1 fun e w' => e = .returned (.bool false) ∧ Below W1.heap.size W1 w')
        have e9 := Lib.hid (show addrD false ((elemsD c).take (c.sl.length + (m + 1))) = addrD false ((elemsD c).take (c.sl.length + m)) by rw [← Nat.add_assoc, E8.out, addrD_snoc]; simp [hle])
        clear hle
        go_wp2_with (go_at_call 26; refine (callGr (LA.out _)).mono ?_; rintro e w' ⟨pp, rfl, rfl⟩)
        go_roundw
        case rel => exact ⟨m + 1, A0, n0, by omega, by go_num, by rw [e9.out], by rw [e9.out]; exact ownsRow_below INV.out.1 (below_gr _ _), ((below_gr _ _).block _ lx).trans INV.out.2.1, by have := INV.out.2.2; exact bl_gr this _⟩
        case measure => simp [intOf]; omega
      · have LA := Lib.hid (fun W1 => by have := rhas_any v W1; rw [hle] at this; exact this : ∀ W1, Calls Try.prog 26 #[v.agg] W1 fun e w' => e = .returned (.bool true) ∧ Below W1.heap.size W1 w')
        cases hh : holdsB c.k m
        · have WA := Lib.hid (fun W1 => by have := weak_any c.k m (by omega) W1; rw [hh] at this; exact this : ∀ W1, Calls Try.prog 27 #[.int .i64 c.k, .int .i64 m] W1 fun e w' => e = .returned (.bool true) ∧ Below W1.heap.size W1 w')
          have e9 := Lib.hid (show addrD false ((elemsD c).take (c.sl.length + (m + 1))) = addrD false ((elemsD c).take (c.sl.length + m)) ++ [v.n] by rw [← Nat.add_assoc, E8.out, addrD_snoc]; simp [hh, hle])
          clear hle hh
          go_upto_region 6 with (first | (go_at_call 26; refine (callGr (LA.out _)).mono ?_; rintro e w' ⟨pp, rfl, rfl⟩) | (go_at_call 27; refine (callGr (WA.out _)).mono ?_; rintro e w' ⟨pp, rfl, rfl⟩))
          generalize rapp _ _ = pp
          go_wp2_with (at_builtin; refine wpList_append_own _ rfl _ _ 28 rfl (w.heap.size + 1) 3 i0 (.int .i64 0) 1 8 Try.underlying28 II.out.1 II.out.2.1 II.out.2.2.1 II.out.2.2.2 rfl (by decide) _ _ _ rfl ((ownsRow_below INV.out.1 (below_gr wr pp)).alloc _) ⟨wr.heap.size + pp.os.size, 0, none⟩ 1 1 [.int .i64 v.n] rfl rfl ?_ ?_ ?_ ?_ ?_ ?_; (next => exact news_gr rfl); (next => intro u hu; simp at hu; subst hu; rfl); (next => unfold maxLen; omega); (next => omega); (next => simp [gr_size]; omega); intro v' w5 hown hgrow _; obtain ⟨A5, n5, rfl⟩ := ownsRow_form hown; have AP := Lib.hid (app_int INV.out.1 hown hgrow INV.out.2.1 (by omega) (by omega)); clear hown hgrow)
          go_roundw
          case rel => exact ⟨m + 1, A5, n5, by omega, by go_num, by rw [e9.out]; simp, by rw [e9.out]; exact AP.out.1, AP.out.2.1, INV.out.2.2.trans (AP.out.2.2.mono (by omega))⟩
          case measure => simp [intOf]; omega
        · have WA := Lib.hid (fun W1 => by have := weak_any c.k m (by omega) W1; rw [hh] at this; exact this : ∀ W1, Calls Try.prog 27 #[.int .i64 c.k, .int .i64 m] W1 fun e w' => e = .returned (.bool false) ∧ Below W1.heap.size W1 w')
          have e9 := Lib.hid (show addrD false ((elemsD c).take (c.sl.length + (m + 1))) = addrD false ((elemsD c).take (c.sl.length + m)) by rw [← Nat.add_assoc, E8.out, addrD_snoc]; simp [hh])
          clear hle hh
          go_wp2_with (first | (go_at_call 26; refine (callGr (LA.out _)).mono ?_; rintro e w' ⟨pp, rfl, rfl⟩) | (go_at_call 27; refine (callGr (WA.out _)).mono ?_; rintro e w' ⟨pp, rfl, rfl⟩))
          go_roundw
          case rel => exact ⟨m + 1, A0, n0, by omega, by go_num, by rw [e9.out], by rw [e9.out]; exact ownsRow_below INV.out.1 (below_gr _ _), ((below_gr _ _).block _ lx).trans INV.out.2.1, by have := INV.out.2.2; exact bl_gr this _⟩
          case measure => simp [intOf]; omega
    · have hm9 : m = c.mo.length := by omega
      have q1 : ¬ (m : Int) < c.mo.length := by omega
      have HM := Lib.hid hm9
      clear ho hx hB hm9
      go_wp2
      go_ret
      have hI := OwnI.isI INV.out.1
      have e9 : (elemsD c).take (c.sl.length + m) = elemsD c := List.take_of_length_le (by rw [elemsD_len, HM.out]; omega)
      rw [e9] at hI
      exact ⟨_, rfl, by rw [e9]; exact hI, INV.out.2.2⟩
end Go.Proofs.Yteifcgffeplkkaa
