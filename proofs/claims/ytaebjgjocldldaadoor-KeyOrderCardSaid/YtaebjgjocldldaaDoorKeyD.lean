/- Walks of package num and of its reference: Some, Digits, Text. -/
import Derived.Test.YtaebjgjocldldaaDoorKeyC
import Derived.Lib.AppendIntMem
import Derived.Lib.ItoaLen
namespace Go.Proofs.YtaebjgjocldldaaDoor
set_option linter.all false
open Go.RowKit Go.Sort

def strL (l : List UInt8) : ByteArray := ⟨l.toArray⟩
theorem strL_append (a b : List UInt8) : strL (a ++ b) = strL a ++ strL b := by
  unfold strL
  apply ByteArray.ext
  simp
theorem strL_size (l : List UInt8) : (strL l).size = l.length := by simp [strL, ByteArray.size]
theorem extract_one (s : ByteArray) (k : Nat) (h : k < s.size) : s.extract k (k + 1) = strL [s[k]] := by
  apply ByteArray.ext
  rw [ByteArray.data_extract]
  have h' : k < s.data.size := h
  apply Array.ext
  · simp [strL]; omega
  · intro i h1 h2
    have hi : i = 0 := by simp [strL] at h2; omega
    subst hi
    simp [strL]
    rfl
abbrev tens : ByteArray := ⟨#[48, 49, 50, 51, 52, 53, 54, 55, 56, 57]⟩
def decB (n : Nat) : UInt8 := UInt8.ofNat (48 + n)
theorem tens_ex (n : Nat) (h : n < 10) : tens.extract n (n + 1) = strL [decB n] := by
  have hs : n < tens.size := h
  rw [extract_one tens n hs]
  have : ∀ k : Fin 10, tens[k.val]'(k.isLt) = decB k.val := by decide +kernel
  rw [this ⟨n, h⟩]
theorem ret_str {a b : ByteArray} (h : a = b) : Ending.returned (.string a) = Ending.returned (.string b) := by rw [h]

/-- the table of powers that Itoa reads -/
abbrev Tab (w : World) : Prop := Lib.TabIs Tryd.prog w "internal/strconv.uint64pow10" .u64 Lib.pow10Tab
theorem Tab.below {w w' : World} (h : Tab w) (hb : Below w.heap.size w w') : Tab w' := by
  unfold Tab Lib.TabIs World.var? at *
  rw [Option.bind_eq_some_iff] at h ⊢
  obtain ⟨g, hg, h⟩ := h
  refine ⟨g, hg, ?_⟩
  have hlt : g < w.heap.size := by
    rcases Nat.lt_or_ge g w.heap.size with h' | h'
    · exact h'
    · rw [Array.getElem?_eq_none h'] at h
      cases h
  rw [hb.block g hlt]
  exact h

set_option maxRecDepth 100000 in
set_option maxHeartbeats 4000000 in
theorem some_any (v : Val) (w : World) : Calls Tryd.prog 37 #[v.agg] w fun e w' => e = .returned (.bool (wholeM v)) ∧ Below w.heap.size w w' := by
  have hi := fun w => ris_any v w
  have hm : wholeM v = (isNumM v && v.k == 3) := by
    unfold isNumM wholeM nanV Val.eq
    cases h : v.k == 3
    · simp
    · have : v.k = 3 := by simpa using h
      simp [this]
  cases h : isNumM v
  · rw [h] at hm
    have RES := Lib.hid hm
    simp only [h] at hi
    have HI := Lib.hid hi
    clear hm hi h
    go_enter Tryd.func37, Tryd.ntmps37
    go_wp2_with (go_at_call 26; refine (callGr (HI.out _)).mono ?_; rintro e w' ⟨pp, rfl, rfl⟩)
    go_ret
    exact ⟨ret_bool (by rw [RES.out]; rfl), by (repeat (with_reducible first | exact Below.refl _ _ | (refine bl_set ?_ (by first | omega | (simp; done) | (simp; omega)) _) | refine bl_gr ?_ _ | refine bl_al ?_ _ | refine below_setRow ?_ (by first | omega | (simp; done) | (simp; omega)) _ | refine bl_drewN ?_ _ | refine Below.drew ?_ | (refine bl_tr ?_ (by assumption))))⟩
  · rw [h] at hm
    have RES := Lib.hid hm
    simp only [h] at hi
    have HI := Lib.hid hi
    clear hm hi h
    go_enter Tryd.func37, Tryd.ntmps37
    go_wp2_with (go_at_call 26; refine (callGr (HI.out _)).mono ?_; rintro e w' ⟨pp, rfl, rfl⟩)
    go_ret
    exact ⟨ret_bool (by rw [RES.out]; rfl), by (repeat (with_reducible first | exact Below.refl _ _ | (refine bl_set ?_ (by first | omega | (simp; done) | (simp; omega)) _) | refine bl_gr ?_ _ | refine bl_al ?_ _ | refine below_setRow ?_ (by first | omega | (simp; done) | (simp; omega)) _ | refine bl_drewN ?_ _ | refine Below.drew ?_ | (refine bl_tr ?_ (by assumption))))⟩

theorem decDigits_step {u : Nat} (h : ¬ u < 10) : Lib.decDigits u = Lib.decDigits (u / 10) ++ [decB (u % 10)] := by
  rw [Lib.decDigits, dif_neg h]
  rfl
set_option maxRecDepth 100000 in
set_option maxHeartbeats 4000000 in
theorem digits_nat : ∀ (n : Nat) (w : World), n ≤ 9223372036854775807 → Calls Tryd.prog 31 #[.int .i64 (n : Int)] w fun e w' => e = .returned (.string (strL (Lib.decDigits n))) ∧ Below w.heap.size w w' := by
  intro n
  induction n using Nat.strongRecOn with
  | _ n ih =>
    intro w hn
    by_cases h : n < 10
    · have RES := Lib.hid (show Lib.decDigits n = [decB n] from Lib.decDigits_one h)
      have HX := tens_ex n h
      clear ih
      have hI : (n : Int) < 10 := by omega
      go_enter Tryd.func31, Tryd.ntmps31
      go_wp2_with fail
      go_ret
      exact ⟨ret_str (by rw [RES.out]), by (repeat (with_reducible first | exact Below.refl _ _ | (refine bl_set ?_ (by first | omega | (simp; done) | (simp; omega)) _) | refine bl_gr ?_ _ | refine bl_al ?_ _ | refine below_setRow ?_ (by first | omega | (simp; done) | (simp; omega)) _ | refine bl_drewN ?_ _ | refine Below.drew ?_ | (refine bl_tr ?_ (by assumption))))⟩
    · have RES := decDigits_step h
      have IH := fun w => ih (n / 10) (by omega) w (by omega)
      obtain ⟨m, hm⟩ : ∃ m, n / 10 = m := ⟨_, rfl⟩
      obtain ⟨r, hr⟩ : ∃ r, n % 10 = r := ⟨_, rfl⟩
      have hr10 : r < 10 := by omega
      have hm2 : m ≤ 9223372036854775807 := by omega
      have hlen : (Lib.decDigits m).length ≤ 21 := by
        have := Lib.itoa_length_le (m : Int) (by omega) (by omega)
        rw [Lib.itoa_nonneg] at this
        exact this
      rw [hm] at RES IH
      rw [hr] at RES
      have w1 : (n : Int) / 10 = (m : Int) := by omega
      have w2 : (n : Int).tdiv 10 = (m : Int) := by rw [Int.tdiv_eq_ediv_of_nonneg (by omega)]; omega
      have w3 : IntKind.i64.wrap (m : Int) = (m : Int) := IntWalk.i64_in _ (by omega)
      have v1 : (n : Int) % 10 = (r : Int) := by omega
      have v2 : (n : Int).tmod 10 = (r : Int) := by rw [IntWalk.rem_in _ _ (by omega)]; omega
      have v3 : (r : Int) + 1 ≤ 10 := by omega
      have v4 : (0 : Int) ≤ (r : Int) + 1 := by omega
      have v5 : (r : Int) ≤ (r : Int) + 1 := by omega
      have v6 : ((r : Int) + 1).toNat = r + 1 := by omega
      have v7 : (0 : Int) ≤ (r : Int) := by omega
      have v8 : IntKind.i64.wrap ((r : Int) + 1) = (r : Int) + 1 := IntWalk.i64_in _ (by omega)
      have HX := tens_ex r hr10
      have hs1 : (strL [decB r]).size = 1 := rfl
      have RES2 := congrArg strL RES
      rw [strL_append] at RES2
      have hO1 : (strL (Lib.decDigits m)).size ≤ 21 := by rw [strL_size]; exact hlen
      generalize strL (Lib.decDigits m) = O at IH RES2 hO1
      have q1 : ¬ 9223372036854775807 < O.size + 1 := by omega
      have RR := Lib.hid RES2
      have HI := Lib.hid IH
      clear ih IH RES RES2 hm hr hlen hn
      go_enter Tryd.func31, Tryd.ntmps31
      go_wp2_with ((first | (with_reducible refine wp_quiet_gr Tryd.mixed ?_ ?_) | (with_reducible refine wp_quiet_any Tryd.mixed ?_ ?_)); (next => kernel_rfl); (repeat (with_reducible refine wpQuiet_step (fun K hK => ?_); go_simp; first | (refine hK _ ?_; clear hK K) | (apply Exists.intro; refine ⟨fun _ => ?_, hK _ ?_⟩; ((go_at_call 31; exact callQ (HI.out _))); clear hK K))); refine wpQuiet_nil ?_; intro pq)
      go_ret
      exact ⟨ret_str RR.out.symm, by (repeat (with_reducible first | exact Below.refl _ _ | (refine bl_set ?_ (by first | omega | (simp; done) | (simp; omega)) _) | refine bl_gr ?_ _ | refine bl_al ?_ _ | refine below_setRow ?_ (by first | omega | (simp; done) | (simp; omega)) _ | refine bl_drewN ?_ _ | refine Below.drew ?_ | (refine bl_tr ?_ (by assumption))))⟩

/-- the decimal form of a number, or NaN -/
def numTextM (v : Val) : ByteArray := if wholeM v then strL (Lib.itoa v.n) else ⟨#[78, 97, 78]⟩
theorem itoa_calls (n : Int) (h : i64ok n) (w : World) (ht : Tab w) : Calls Tryd.prog 30 #[.int .i64 n] w fun e w' => e = .returned (.string (strL (Lib.itoa n))) ∧ Below w.heap.size w w' :=
  (Tryd.strconv_Itoa n h.1 h.2 w ht).mono fun _ _ ⟨he, k, os, hw⟩ => ⟨he, by rw [hw]; exact Lib.below_grow _ w (Nat.le_refl _) k os⟩
set_option maxRecDepth 100000 in
set_option maxHeartbeats 4000000 in
theorem numText_any (v : Val) (hv : v.ok) (w : World) (ht : Tab w) : Calls Tryd.prog 25 #[v.agg] w fun e w' => e = .returned (.string (numTextM v)) ∧ Below w.heap.size w w' := by
  have hw := fun w => whole_any v w
  cases h : wholeM v
  · have RES := Lib.hid (show numTextM v = ⟨#[78, 97, 78]⟩ by rw [numTextM, h]; rfl)
    simp only [wholeV, h] at hw
    have HW := Lib.hid hw
    clear hw h
    go_enter Tryd.func25, Tryd.ntmps25
    go_wp2_with (go_at_call 35; refine (callGr (HW.out _)).mono ?_; rintro e w' ⟨pp, rfl, rfl⟩)
    go_ret
    exact ⟨ret_str RES.out.symm, by (repeat (with_reducible first | exact Below.refl _ _ | (refine bl_set ?_ (by first | omega | (simp; done) | (simp; omega)) _) | refine bl_gr ?_ _ | refine bl_al ?_ _ | refine below_setRow ?_ (by first | omega | (simp; done) | (simp; omega)) _ | refine bl_drewN ?_ _ | refine Below.drew ?_ | (refine bl_tr ?_ (by assumption))))⟩
  · have RES := Lib.hid (show numTextM v = strL (Lib.itoa v.n) by rw [numTextM, h, if_pos rfl])
    simp only [wholeV, h] at hw
    have HW := Lib.hid hw
    have HI := Lib.hid (fun (w' : World) (hb : Below w.heap.size w w') => itoa_calls v.n hv.2.1 w' (ht.below hb))
    clear hw h
    go_enter Tryd.func25, Tryd.ntmps25
    go_wp2_with (first | (go_at_call 35; refine (callGr (HW.out _)).mono ?_; rintro e w' ⟨pp, rfl, rfl⟩) | (go_at_call 30; refine (callGr (HI.out _ (by (repeat (with_reducible first | exact Below.refl _ _ | (refine bl_set ?_ (by first | omega | (simp; done) | (simp; omega)) _) | refine bl_gr ?_ _ | refine bl_al ?_ _ | refine below_setRow ?_ (by first | omega | (simp; done) | (simp; omega)) _ | refine bl_drewN ?_ _ | refine Below.drew ?_ | (refine bl_tr ?_ (by assumption))))))).mono ?_; rintro e w' ⟨pp, rfl, rfl⟩))
    go_ret
    exact ⟨ret_str RES.out.symm, by (repeat (with_reducible first | exact Below.refl _ _ | (refine bl_set ?_ (by first | omega | (simp; done) | (simp; omega)) _) | refine bl_gr ?_ _ | refine bl_al ?_ _ | refine below_setRow ?_ (by first | omega | (simp; done) | (simp; omega)) _ | refine bl_drewN ?_ _ | refine Below.drew ?_ | (refine bl_tr ?_ (by assumption))))⟩
set_option maxRecDepth 100000 in
set_option maxHeartbeats 4000000 in
theorem rnumText_any (v : Val) (w : World) : Calls Tryd.prog 28 #[v.agg] w fun e w' => e = .returned (.string (numTextM v)) ∧ Below w.heap.size w w' := by
  have hw := fun w => some_any v w
  cases h : wholeM v
  · have RES := Lib.hid (show numTextM v = ⟨#[78, 97, 78]⟩ by rw [numTextM, h]; rfl)
    simp only [h] at hw
    have HW := Lib.hid hw
    clear hw h
    go_enter Tryd.func28, Tryd.ntmps28
    go_wp2_with (go_at_call 37; refine (callGr (HW.out _)).mono ?_; rintro e w' ⟨pp, rfl, rfl⟩)
    go_ret
    exact ⟨ret_str RES.out.symm, by (repeat (with_reducible first | exact Below.refl _ _ | (refine bl_set ?_ (by first | omega | (simp; done) | (simp; omega)) _) | refine bl_gr ?_ _ | refine bl_al ?_ _ | refine below_setRow ?_ (by first | omega | (simp; done) | (simp; omega)) _ | refine bl_drewN ?_ _ | refine Below.drew ?_ | (refine bl_tr ?_ (by assumption))))⟩
  · have RES := show numTextM v = strL (Lib.itoa v.n) by rw [numTextM, h, if_pos rfl]
    have hb : -9007199254740992 ≤ v.n ∧ v.n ≤ 9007199254740992 := by
      unfold wholeM i53 at h
      simp at h
      exact h.2.2
    simp only [h] at hw
    have HW := Lib.hid hw
    clear hw h
    obtain ⟨k, n, s⟩ := v
    simp only at hb RES
    obtain ⟨b1, b2⟩ := hb
    by_cases hn : n < 0
    · obtain ⟨u, rfl⟩ : ∃ u : Nat, n = -(u : Int) := ⟨n.natAbs, by omega⟩
      rw [Lib.itoa_neg u (by omega)] at RES
      have hlen : (Lib.decDigits u).length ≤ 21 := by
        have := Lib.itoa_length_le (u : Int) (by omega) (by omega)
        rw [Lib.itoa_nonneg] at this
        exact this
      have HD := fun w => digits_nat u w (by omega)
      have e : strL (45 :: Lib.decDigits u) = ⟨#[45]⟩ ++ strL (Lib.decDigits u) := strL_append [45] _
      rw [e] at RES
      have hO1 : (strL (Lib.decDigits u)).size ≤ 21 := by rw [strL_size]; exact hlen
      generalize strL (Lib.decDigits u) = O at HD RES hO1
      have q1 : ¬ 9223372036854775807 < 1 + O.size := by omega
      have RR := Lib.hid RES
      have HI := Lib.hid HD
      have e1 : IntKind.i64.wrap (u : Int) = (u : Int) := IntWalk.i64_in _ (by omega)
      clear RES HD hlen e
      go_enter Tryd.func28, Tryd.ntmps28
      go_wp2_with (first | (go_at_call 37; refine (callGr (HW.out _)).mono ?_; rintro e w' ⟨pp, rfl, rfl⟩) | (go_at_call 31; refine (callGr (HI.out _)).mono ?_; rintro e w' ⟨pp, rfl, rfl⟩))
      go_ret
      exact ⟨ret_str RR.out.symm, by (repeat (with_reducible first | exact Below.refl _ _ | (refine bl_set ?_ (by first | omega | (simp; done) | (simp; omega)) _) | refine bl_gr ?_ _ | refine bl_al ?_ _ | refine below_setRow ?_ (by first | omega | (simp; done) | (simp; omega)) _ | refine bl_drewN ?_ _ | refine Below.drew ?_ | (refine bl_tr ?_ (by assumption))))⟩
    · obtain ⟨u, rfl⟩ := Int.eq_ofNat_of_zero_le (show 0 ≤ n by omega)
      rw [Lib.itoa_nonneg u] at RES
      have HD := fun w => digits_nat u w (by omega)
      have RR := Lib.hid RES
      have HI := Lib.hid HD
      clear RES HD
      go_enter Tryd.func28, Tryd.ntmps28
      go_wp2_with (first | (go_at_call 37; refine (callGr (HW.out _)).mono ?_; rintro e w' ⟨pp, rfl, rfl⟩) | (go_at_call 31; refine (callGr (HI.out _)).mono ?_; rintro e w' ⟨pp, rfl, rfl⟩))
      go_ret
      exact ⟨ret_str RR.out.symm, by (repeat (with_reducible first | exact Below.refl _ _ | (refine bl_set ?_ (by first | omega | (simp; done) | (simp; omega)) _) | refine bl_gr ?_ _ | refine bl_al ?_ _ | refine below_setRow ?_ (by first | omega | (simp; done) | (simp; omega)) _ | refine bl_drewN ?_ _ | refine Below.drew ?_ | (refine bl_tr ?_ (by assumption))))⟩
end Go.Proofs.YtaebjgjocldldaaDoor
