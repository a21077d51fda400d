/- Inline caches: the site of a number, a test, and the iterator over a site's entries. -/
import Derived.Test.YtbgcjgnhblhohaaCaA
namespace Go.Proofs.Ytbgcjgnhblhohaa
set_option linter.all false
open Go.RowKit Go.Sort Go.Deep Go.Shelf
attribute [local go_sem] Oper.semAt_some

theorem grown_below {w w' : World} (h : Below w.heap.size w w') : w.grownBy w' none := ⟨h.os, h.tape, h.output, h.size, fun k hk _ => h.block k hk⟩
theorem finRange_take (m k : Nat) (hk : k < m) : (List.finRange m).take (k + 1) = (List.finRange m).take k ++ [⟨k, hk⟩] := by
  rw [List.take_succ_eq_append_getElem (by simpa using hk)]
  simp

theorem of_any (x : Ent) (k : Val) (sh : Int) (w : World) : Calls Try.prog 23 #[x.agg, k.agg, .int .i64 sh] w fun e w' => e = .returned (.bool (ofB x k sh)) ∧ Below w.heap.size w w' := by
  have H := Lib.hid (show ofB x k sh = ((Val.mk x.k.k x.k.n x.k.s).eq ⟨k.k, k.n, k.s⟩ && x.sh == sh) from rfl)
  cases h1 : (Val.mk x.k.k x.k.n x.k.s).eq ⟨k.k, k.n, k.s⟩
  · rw [h1] at H
    go_enter Try.func23, Try.ntmps23
    go_wp2
    go_ret
    exact ⟨ret_bool H.out.symm, by (repeat (with_reducible first | exact Below.refl _ _ | (refine bl_set ?_ (by first | omega | (simp; done) | (simp; omega)) _) | refine bl_gr ?_ _ | refine bl_al ?_ _ | refine below_setRow ?_ (by first | omega | (simp; done) | (simp; omega)) _ | refine bl_drewN ?_ _ | refine Below.drew ?_ | (refine bl_tr ?_ (by assumption))))⟩
  · rw [h1] at H
    go_enter Try.func23, Try.ntmps23
    go_wp2
    go_ret
    exact ⟨ret_bool H.out.symm, by (repeat (with_reducible first | exact Below.refl _ _ | (refine bl_set ?_ (by first | omega | (simp; done) | (simp; omega)) _) | refine bl_gr ?_ _ | refine bl_al ?_ _ | refine below_setRow ?_ (by first | omega | (simp; done) | (simp; omega)) _ | refine bl_drewN ?_ _ | refine Below.drew ?_ | (refine bl_tr ?_ (by assumption))))⟩

/-! the site of a number -/
theorem site_nil (n : Int) (w : World) : Calls Try.prog 21 #[.pointer none, .int .i64 n] w fun e w' => e = .returned (.pointer none) ∧ w = w' := by
  go_enter Try.func21, Try.ntmps21
  go_wp2
  go_ret
  exact ⟨rfl, rfl⟩
theorem site_out {C S : Nat} {c : CacheD} (n : Int) (w : World) (h : CacheIn w C S c) (hn : siteD c n = none) : Calls Try.prog 21 #[.pointer (some ⟨C, 0, none⟩), .int .i64 n] w fun e w' => e = .returned (.pointer none) ∧ w = w' := by
  obtain ⟨a0, _⟩ := h.cells
  by_cases h0 : n < 0
  · generalize c.sites.length = m at *
    go_enter Try.func21, Try.ntmps21
    go_wp2
    go_ret
    exact ⟨rfl, rfl⟩
  · have h1 : n ≥ c.sites.length := by
      unfold siteD at hn
      rw [if_pos (by omega), List.getElem?_eq_none_iff] at hn
      omega
    have hl := h.le
    clear hn
    generalize c.sites.length = m at *
    go_enter Try.func21, Try.ntmps21
    go_wp2
    go_ret
    exact ⟨rfl, rfl⟩
theorem siteD_some {c : CacheD} {n : Int} {s : SiteD} (h : siteD c n = some s) : ∃ k : Nat, n = k ∧ k < c.sites.length ∧ c.sites[k]? = some s := by
  unfold siteD at h
  split at h
  · exact ⟨n.toNat, by omega, (List.getElem?_eq_some_iff.1 h).1, h⟩
  · cases h
theorem site_in {C S : Nat} {c : CacheD} (k : Nat) (w : World) (h : CacheIn w C S c) (hk : k < c.sites.length) : Calls Try.prog 21 #[.pointer (some ⟨C, 0, none⟩), .int .i64 k] w fun e w' => e = .returned (.pointer (some ⟨S, k * 34, none⟩)) ∧ w = w' := by
  obtain ⟨a0, _⟩ := h.cells
  have hl := h.le
  generalize c.sites.length = m at *
  have h0 : ¬ (k : Int) < 0 := by omega
  have h1 : ¬ (k : Int) ≥ m := by omega
  have h2 : (k : Int) < m := by omega
  go_enter Try.func21, Try.ntmps21
  go_wp2
  go_ret
  exact ⟨rfl, rfl⟩

/-! the iterator -/
theorem all_any (p : Addr) (w : World) : Calls Try.prog 22 #[.pointer (some p)] w fun e w' => e = .returned (.func (.func 30) #[] #[.pointer (some ⟨w.heap.size, 0, none⟩)]) ∧ w' = w.alloc (.cells #[.pointer (some p)] 61) := by
  go_enter Try.func22, Try.ntmps22
  go_wp2
  go_ret
  exact ⟨rfl, rfl⟩

abbrev encE (l : List Ent) (x : Fin l.length) : Array Value := #[.int .i64 x.val, (l[x.val]).agg]
set_option maxRecDepth 100000 in
set_option maxHeartbeats 4000000 in
theorem all1_in (l B S o n₀ : Nat) (xs : List Ent) (h4 : xs.length ≤ 4) (J Jx : List (Fin xs.length) → World → Prop)
    (Bq : Nat) (hJ : AbidesFrom Bq J) (hJx : AbidesFrom Bq Jx)
    (hY : ∀ pre x W, J pre W → pre.length < xs.length → YieldAt Fence.wide 7 Try.prog l (encE xs x) W fun e W' =>
      (e = .returned (.bool true) ∧ J (pre ++ [x]) W' ∧ Below n₀ W W') ∨ (e = .returned (.bool false) ∧ Jx (pre ++ [x]) W'))
    (W : World) (hB : W.heap[B]? = some (.cells #[.pointer (some ⟨S, o, none⟩)] 61)) (hB0 : B < n₀) (hS0 : S < n₀) (hn : n₀ ≤ W.heap.size)
    (hl : W.cell? ⟨S, o + 32, none⟩ = some (.int .i64 xs.length)) (hx : ∀ i e, xs[i]? = some e → ∀ j u, (Ent.cs e)[j]? = some u → W.cell? ⟨S, o + i * 8 + j, none⟩ = some u) (h0 : J [] W) :
    CallsIn Fence.wide 8 Try.prog 30 #[.func (.yield l) #[] #[], .pointer (some ⟨B, 0, none⟩)] W fun e W' => (∃ v, e = .returned v) ∧
      ((∃ ys, ys = List.finRange xs.length ∧ J ys W') ∨ (∃ pre, pre <+: List.finRange xs.length ∧ Jx pre W')) := by
  have HJ := Lib.hid hJ
  have HX := Lib.hid hJx
  have HY := Lib.hid hY
  have HB := Lib.hid hB
  have HE := Lib.hid hx
  have H0 := Lib.hid h0
  obtain ⟨p0, _⟩ := cells1 hB
  clear hJ hJx hY hB h0 hx
  refine callsIn_of_wp Try.func30 rfl trivial ?_ rfl
  simp only [Try.ntmps30, List.size_toArray, List.length_cons, List.length_nil, Nat.reduceAdd, Nat.reduceSub, Array.replicate_succ, Array.replicate_zero, List.push_toArray, List.append_toArray, List.nil_append, List.cons_append]
  gi_wp2
  clear p0
  gi_loopw [8] (fun i wr => ∃ k : Nat, k ≤ xs.length ∧ i = .int .i64 k ∧ J ((List.finRange xs.length).take k) wr ∧ Below n₀ W wr) (fun i _ => xs.length - (intOf i).toNat)
  case atStart => exact ⟨0, by omega, rfl, H0.out, Below.refl _ _⟩
  case round =>
    obtain ⟨k, hk, rfl, hj, hbw⟩ := hrel
    by_cases hlt : k < xs.length
    · obtain ⟨p0, _⟩ := cells1 ((hbw.block B hB0).trans HB.out)
      have EX := List.getElem?_eq_getElem hlt
      obtain ⟨fn, tmps, assign, body, hy, hR⟩ := HY.out _ ⟨k, hlt⟩ _ hj (by rw [List.length_take]; simp; omega)
      change (Instr.yield l #[.int .i64 k, (xs[k]).agg]).run Try.prog _ = _ at hy
      generalize xs[k] = e at *
      have HR := Lib.hid hR
      have c0 : wr.cell? ⟨S, o + k * 8, none⟩ = some (.int .i64 e.k.k) := (hbw.cell (p := ⟨S, _, none⟩) hS0).trans (HE.out k e EX 0 _ rfl)
      have c1 : wr.cell? ⟨S, o + k * 8 + 1, none⟩ = some (.int .i64 e.k.n) := (hbw.cell (p := ⟨S, _, none⟩) hS0).trans (HE.out k e EX 1 _ rfl)
      have c2 : wr.cell? ⟨S, o + k * 8 + 2, none⟩ = some (.string e.k.s) := (hbw.cell (p := ⟨S, _, none⟩) hS0).trans (HE.out k e EX 2 _ rfl)
      have c3 : wr.cell? ⟨S, o + k * 8 + 3, none⟩ = some (.int .i64 e.sh) := (hbw.cell (p := ⟨S, _, none⟩) hS0).trans (HE.out k e EX 3 _ rfl)
      have c4 : wr.cell? ⟨S, o + k * 8 + 4, none⟩ = some (.int .i64 e.ep) := (hbw.cell (p := ⟨S, _, none⟩) hS0).trans (HE.out k e EX 4 _ rfl)
      have c5 : wr.cell? ⟨S, o + k * 8 + 5, none⟩ = some (.int .i64 e.ho) := (hbw.cell (p := ⟨S, _, none⟩) hS0).trans (HE.out k e EX 5 _ rfl)
      have c6 : wr.cell? ⟨S, o + k * 8 + 6, none⟩ = some (.int .i64 e.sl) := (hbw.cell (p := ⟨S, _, none⟩) hS0).trans (HE.out k e EX 6 _ rfl)
      have c7 : wr.cell? ⟨S, o + k * 8 + 7, none⟩ = some (.int .i64 e.fo) := (hbw.cell (p := ⟨S, _, none⟩) hS0).trans (HE.out k e EX 7 _ rfl)
      have e1 : ¬ (k : Int) < 0 := by omega
      have e2 : (k : Int) < 4 := by omega
      have e3 : (k : Int) < xs.length := by omega
      have HBW := Lib.hid hbw
      clear hbw hj hR EX
      gi_wp2
      refine HR.out.mono ?_
      rintro e' W3 (⟨rfl, hJ3, hk3⟩ | ⟨rfl, hJx3⟩)
      · have J3 := Lib.hid (And.intro hJ3 (HBW.out.trans hk3))
        clear hJ3 hk3
        gi_wp2
        go_roundw
        case rel => exact ⟨k + 1, by omega, by go_num, by rw [finRange_take _ k hlt]; exact J3.out.1, J3.out.2⟩
        case measure => simp [intOf]; omega
      · have J3 := Lib.hid hJx3
        clear hJx3
        gi_wp2
        refine bodyPost_ret (results_none rfl _ _ _) rfl ?_
        refine ⟨⟨_, rfl⟩, .inr ⟨_, ?_, J3.out⟩⟩
        rw [← finRange_take _ k hlt]
        exact List.take_prefix _ _
    · have hkm : k = xs.length := by omega
      have JE := Lib.hid (And.intro hj hkm)
      have hle : ¬ (k : Int) < xs.length := by omega
      clear hj hkm
      gi_wp2
      go_end0
      refine ⟨⟨_, rfl⟩, .inl ?_⟩
      try refine ⟨_, rfl, ?_⟩
      have := JE.out.1
      rwa [JE.out.2, List.take_of_length_le (by simp)] at this

theorem all_stops {C S : Nat} {c : CacheD} (k : Nat) (s : SiteD) (hs : c.sites[k]? = some s) (w : World) (h : CacheIn w C S c) (B : Nat) (hB : w.heap[B]? = some (.cells #[.pointer (some ⟨S, k * 34, none⟩)] 61)) :
    SeqStopsK Fence.wide 8 Try.prog 30 #[.pointer (some ⟨B, 0, none⟩)] (encE s.l) (Below w.heap.size) (fun ys => ys = List.finRange s.l.length) (fun pre => pre <+: List.finRange s.l.length) s.l.length w := fun l J Jx W hW hJ hJx hY h0 => by
  obtain ⟨h4, h5, _, _, h7⟩ := h.site hs
  exact all1_in l B S (k * 34) w.heap.size s.l h4 J Jx W.heap.size hJ hJx hY W ((hW.block B (Array.getElem?_eq_some_iff.1 hB).1).trans hB) (Array.getElem?_eq_some_iff.1 hB).1 h.ltS hW.size
    ((hW.cell (p := ⟨S, _, none⟩) h.ltS).trans h5) (fun i e he j u hu => (hW.cell (p := ⟨S, _, none⟩) h.ltS).trans (h7 i e he j u hu)) h0
end Go.Proofs.Ytbgcjgnhblhohaa
