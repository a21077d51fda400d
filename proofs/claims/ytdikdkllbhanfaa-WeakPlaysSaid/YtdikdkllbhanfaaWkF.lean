/- Weak maps: membership of a number, the closures of Delete and Clean, Delete and Clean by the program. -/
import Derived.Test.YtdikdkllbhanfaaWkE
import Derived.IntWalk
namespace Go.Proofs.Ytdikdkllbhanfaa
set_option linter.all false
open Go.RowKit Go.Sort Go.Deep Go.Shelf

/-- is the number in the list? -/
def inB (l : List Int) (n : Int) : Bool := l.contains n
theorem inB_take {l : List Int} {k : Nat} {x n : Int} (hx : l[k]? = some x) : inB (l.take (k + 1)) n = (inB (l.take k) n || x == n) := by
  have e : l.take (k + 1) = l.take k ++ [x] := by rw [List.take_add_one, hx]; rfl
  unfold inB
  rw [e]
  by_cases h1 : n ∈ l.take k
  · simp [h1]
  · by_cases h2 : x = n
    · subst h2; simp
    · have h3 : ¬ n = x := fun e => h2 e.symm
      simp [h1, h2, h3]
theorem inB_at {l : List Int} {k : Nat} {x : Int} (hx : l[k]? = some x) : inB l x = true := by
  unfold inB
  simpa using List.mem_of_getElem? hx
theorem ret_b {a b : Bool} (h : a = b) : Ending.returned (.bool a) = .returned (.bool b) := by rw [h]
/-- an index, or less than nothing -/
def IdxR (l : List Int) (n : Int) (v : Value) : Prop := ∃ r : Int, v = .int .i64 r ∧ decide (0 ≤ r) = inB l n

set_option maxRecDepth 100000 in
set_option maxHeartbeats 2000000 in
theorem index_any (lv : Value) (live : List Int) (n : Int) (w : World) (h : IsI w lv live) :
    Calls Try.prog 44 #[lv, .int .i64 n] w fun e w' => ∃ v, e = .returned v ∧ IdxR live n v ∧ w = w' := by
  obtain ⟨A, cp, rfl, _, hm⟩ := h.form
  have H := Lib.hid h
  clear h
  unfold maxLen at hm
  go_enter Try.func44, Try.ntmps44
  go_wp2
  go_loop [8] (fun i => ∃ k : Nat, k ≤ live.length ∧ i = .int .i64 k ∧ inB (live.take k) n = false) (fun i => live.length - (intOf i).toNat)
  case atStart => exact ⟨0, by omega, rfl, rfl⟩
  case round =>
    obtain ⟨k, hk, rfl, hn⟩ := hrel
    have HN := Lib.hid hn
    clear hn
    by_cases hlt : k < live.length
    · obtain ⟨b, off, cap, e1, _, hb, hx⟩ := H.out.at_ (by omega)
      simp only [Value.slice.injEq] at e1
      obtain ⟨rfl, -, rfl⟩ := e1
      obtain ⟨x, ex⟩ : ∃ x, live[k]? = some x := ⟨_, List.getElem?_eq_getElem hlt⟩
      have cx : w.cell? ⟨b, off + k, none⟩ = some (.int .i64 x) := by have := hx k x ex 0 _ rfl; simpa using this
      have q1 : (k : Int) < live.length := by omega
      have q0 : ¬ (k : Int) < 0 := by omega
      have EX := Lib.hid ex
      clear hx ex
      cases hq : (n == x)
      · have TK := Lib.hid (show inB (live.take (k + 1)) n = false by rw [inB_take EX.out, HN.out, BEq.comm, hq]; rfl)
        go_wp2
        go_round
        case rel => exact ⟨k + 1, by omega, by go_num, TK.out⟩
        case measure => simp [intOf]; omega
      · have TK := Lib.hid (show inB live n = true by have := inB_at EX.out; rwa [← beq_iff_eq.1 hq] at this)
        go_wp2
        go_ret
        refine ⟨_, rfl, ⟨k, rfl, ?_⟩, rfl⟩
        rw [TK.out]
        exact decide_eq_true (by omega)
    · have q1 : ¬ (k : Int) < live.length := by omega
      have TK := Lib.hid (show inB live n = false by have := HN.out; rwa [List.take_of_length_le (by omega)] at this)
      go_wp2
      go_ret
      exact ⟨_, rfl, ⟨-1, rfl, by rw [TK.out]; rfl⟩, rfl⟩
set_option maxRecDepth 100000 in
set_option maxHeartbeats 2000000 in
theorem contains_any (lv : Value) (live : List Int) (n : Int) (w : World) (h : IsI w lv live) :
    Calls Try.prog 29 #[lv, .int .i64 n] w fun e w' => e = .returned (.bool (inB live n)) ∧ w = w' := by
  have H := Lib.hid h
  clear h
  go_enter Try.func29, Try.ntmps29
  go_wp2_with (go_at_call 44; refine (index_any lv live n _ H.out).mono ?_; rintro e w' ⟨_, rfl, ⟨r, rfl, hr⟩, rfl⟩; have HR := Lib.hid hr; clear hr)
  all_goals go_ret
  all_goals exact ⟨ret_b (by rw [← HR.out]; try simp [*]), rfl⟩
set_option maxRecDepth 100000 in
set_option maxHeartbeats 2000000 in
theorem In_any (lv : Value) (live : List Int) (n : Int) (w : World) (h : IsI w lv live) :
    Calls Try.prog 33 #[.int .i64 n, lv] w fun e w' => e = .returned (.bool (inB live n)) ∧ w = w' := by
  obtain ⟨A, cp, rfl, _, hm⟩ := h.form
  have H := Lib.hid h
  clear h
  unfold maxLen at hm
  go_enter Try.func33, Try.ntmps33
  go_wp2
  go_loop [5] (fun i => ∃ k : Nat, k ≤ live.length ∧ i = .int .i64 k ∧ inB (live.take k) n = false) (fun i => live.length - (intOf i).toNat)
  case atStart => exact ⟨0, by omega, rfl, rfl⟩
  case round =>
    obtain ⟨k, hk, rfl, hn⟩ := hrel
    have HN := Lib.hid hn
    clear hn
    by_cases hlt : k < live.length
    · obtain ⟨b, off, cap, e1, _, hb, hx⟩ := H.out.at_ (by omega)
      simp only [Value.slice.injEq] at e1
      obtain ⟨rfl, -, rfl⟩ := e1
      obtain ⟨x, ex⟩ : ∃ x, live[k]? = some x := ⟨_, List.getElem?_eq_getElem hlt⟩
      have cx : w.cell? ⟨b, off + k, none⟩ = some (.int .i64 x) := by have := hx k x ex 0 _ rfl; simpa using this
      have q1 : (k : Int) < live.length := by omega
      have q0 : ¬ (k : Int) < 0 := by omega
      have EX := Lib.hid ex
      clear hx ex
      cases hq : (x == n)
      · have TK := Lib.hid (show inB (live.take (k + 1)) n = false by rw [inB_take EX.out, HN.out, hq]; rfl)
        go_wp2
        go_round
        case rel => exact ⟨k + 1, by omega, by go_num, TK.out⟩
        case measure => simp [intOf]; omega
      · have TK := Lib.hid (show inB live n = true by have := inB_at EX.out; rwa [beq_iff_eq.1 hq] at this)
        go_wp2
        go_ret
        exact ⟨ret_b TK.out.symm, rfl⟩
    · have q1 : ¬ (k : Int) < live.length := by omega
      have TK := Lib.hid (show inB live n = false by have := HN.out; rwa [List.take_of_length_le (by omega)] at this)
      go_wp2
      go_ret
      exact ⟨ret_b TK.out.symm, rfl⟩
set_option maxRecDepth 100000 in
set_option maxHeartbeats 2000000 in
theorem delete1_any (B : Nat) (key v : Val) (w : World) (hB : w.heap[B]? = some (valB key)) :
    Calls Try.prog 39 #[v.agg, .pointer (some ⟨B, 0, none⟩)] w fun e w' => e = .returned (.bool (!v.eq key)) ∧ Below w.heap.size w w' := by
  obtain ⟨t0, t1, t2⟩ := cells3 hB
  have l := (Array.getElem?_eq_some_iff.1 hB).1
  clear hB
  go_enter Try.func39, Try.ntmps39
  go_wp2
  go_ret
  exact ⟨rfl, by (repeat (with_reducible first | exact Below.refl _ _ | (refine bl_set ?_ (by first | omega | (simp; done) | (simp; omega)) _) | refine bl_gr ?_ _ | refine bl_al ?_ _ | refine below_setRow ?_ (by first | omega | (simp; done) | (simp; omega)) _ | refine bl_drewN ?_ _ | refine Below.drew ?_ | (refine bl_tr ?_ (by assumption))))⟩
set_option maxRecDepth 100000 in
set_option maxHeartbeats 2000000 in
theorem clean1_any (B : Nat) (lv : Value) (live : List Int) (v : Val) (w : World) (hB : w.heap[B]? = some (.cells #[lv] 25)) (hl : IsI w lv live) :
    Calls Try.prog 28 #[v.agg, .pointer (some ⟨B, 0, none⟩)] w fun e w' => e = .returned (.bool (inB live v.n)) ∧ Below w.heap.size w w' := by
  obtain ⟨A, cp, rfl, _, hm⟩ := hl.form
  obtain ⟨t0, _⟩ := cells1 hB
  have l := (Array.getElem?_eq_some_iff.1 hB).1
  have H := Lib.hid hl
  clear hB hl
  go_enter Try.func28, Try.ntmps28
  go_wp2_with (go_at_call 29; refine (contains_any _ live v.n _ (H.out.below (by (repeat (with_reducible first | exact Below.refl _ _ | (refine bl_set ?_ (by first | omega | (simp; done) | (simp; omega)) _) | refine bl_gr ?_ _ | refine bl_al ?_ _ | refine below_setRow ?_ (by first | omega | (simp; done) | (simp; omega)) _ | refine bl_drewN ?_ _ | refine Below.drew ?_ | (refine bl_tr ?_ (by assumption))))))).mono ?_; rintro e w' ⟨rfl, rfl⟩)
  go_ret
  exact ⟨rfl, by (repeat (with_reducible first | exact Below.refl _ _ | (refine bl_set ?_ (by first | omega | (simp; done) | (simp; omega)) _) | refine bl_gr ?_ _ | refine bl_al ?_ _ | refine below_setRow ?_ (by first | omega | (simp; done) | (simp; omega)) _ | refine bl_drewN ?_ _ | refine Below.drew ?_ | (refine bl_tr ?_ (by assumption))))⟩
end Go.Proofs.Ytdikdkllbhanfaa
