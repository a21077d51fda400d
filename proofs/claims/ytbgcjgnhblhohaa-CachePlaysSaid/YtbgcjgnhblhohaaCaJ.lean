/- Inline caches: Entries, and Flush of no cache. -/
import Derived.Test.YtbgcjgnhblhohaaCaG
import Derived.Test.YtbgcjgnhblhohaaCaI
namespace Go.Proofs.Ytbgcjgnhblhohaa
set_option linter.all false
open Go.RowKit Go.Sort Go.Deep Go.Shelf
attribute [local go_sem] Oper.semAt_some

theorem flush_nil (w : World) : Calls Try.prog 20 #[.pointer none] w fun e w' => e = .returned (.tuple #[]) ∧ Below w.heap.size w w' := by
  go_enter Try.func20, Try.ntmps20
  go_wp2
  go_end0
  exact ⟨rfl, by (repeat (with_reducible first | exact Below.refl _ _ | (refine bl_set ?_ (by first | omega | (simp; done) | (simp; omega)) _) | refine bl_gr ?_ _ | refine bl_al ?_ _ | refine below_setRow ?_ (by first | omega | (simp; done) | (simp; omega)) _ | refine bl_drewN ?_ _ | refine Below.drew ?_ | (refine bl_tr ?_ (by assumption))))⟩
abbrev OwnE (w : World) (lo : Nat) (v : Value) (xs : List Ent) : Prop := w.ownsRow lo 33 8 v xs.length (flat Ent.cs xs)
theorem OwnE.isE {w : World} {lo : Nat} {v : Value} {xs : List Ent} (h : OwnE w lo v xs) : IsE w v xs := ownsRow_slOf ent_len h
def Kp2 (B S : Nat) (W W' : World) : Prop := W'.heap[B]? = W.heap[B]? ∧ W'.heap[S]? = W.heap[S]?
theorem Kp2.refl (B S : Nat) (W : World) : Kp2 B S W W := ⟨rfl, rfl⟩
theorem Kp2.trans {B S : Nat} {X Y Z : World} (h : Kp2 B S X Y) (k : Kp2 B S Y Z) : Kp2 B S X Z := ⟨k.1.trans h.1, k.2.trans h.2⟩
theorem Kp2.put {B S : Nat} {w : World} (hB : B < w.heap.size) (hS : S < w.heap.size) (W : World) (l : Nat) (o o' : Obj) (hl : w.heap.size ≤ l) (_ : W.heap[l]? = some o) (_ : o.isCells = false) (_ : o.isWalk = false) : Kp2 B S W (W.putObj l o') :=
  ⟨World.putObj_heap_other (by omega), World.putObj_heap_other (by omega)⟩
theorem Kp2.touch {F : Nat → Prop} {B S : Nat} {W W' : World} (h : Touch F W W') (hB : B < W.heap.size) (hS : S < W.heap.size) (h1 : ¬ F B) (h2 : ¬ F S) : Kp2 B S W W' := ⟨h.block B hB h1, h.block S hS h2⟩
set_option maxRecDepth 100000 in
set_option maxHeartbeats 4000000 in
theorem all1_inB (l B S o : Nat) (xs : List Ent) (h4 : xs.length ≤ 4) (J Jx : List (Fin xs.length) → World → Prop)
    (Bq : Nat) (hJ : AbidesFrom Bq J) (hJx : AbidesFrom Bq Jx)
    (hY : ∀ pre x W, J pre W → pre.length < xs.length → YieldAt Fence.wide 7 Try.prog l (encE xs x) W fun e W' =>
      (e = .returned (.bool true) ∧ J (pre ++ [x]) W' ∧ Kp2 B S W W') ∨ (e = .returned (.bool false) ∧ Jx (pre ++ [x]) W'))
    (W : World) (hB : W.heap[B]? = some (.cells #[.pointer (some ⟨S, o, none⟩)] 61)) 
    (hl : W.cell? ⟨S, o + 32, none⟩ = some (.int .i64 xs.length)) (hx : ∀ i e, xs[i]? = some e → ∀ j u, (Ent.cs e)[j]? = some u → W.cell? ⟨S, o + i * 8 + j, none⟩ = some u) (h0 : J [] W) :
    CallsIn Fence.wide 8 Try.prog 30 #[.func (.yield l) #[] #[], .pointer (some ⟨B, 0, none⟩)] W fun e W' => (∃ v, e = .returned v) ∧
      ((∃ ys, ys = List.finRange xs.length ∧ J ys W') ∨ (∃ pre, pre <+: List.finRange xs.length ∧ Jx pre W')) := by
  have HJ := Lib.hid hJ
  have HX := Lib.hid hJx
  have HY := Lib.hid hY
  have HB := Lib.hid hB
  have HE := Lib.hid hx
  have H0 := Lib.hid h0
  obtain ⟨p0, _⟩ := cells1 hB
  clear hJ hJx hY hB h0 hx
  refine callsIn_of_wp Try.func30 rfl trivial ?_ rfl
  simp only [Try.ntmps30, List.size_toArray, List.length_cons, List.length_nil, Nat.reduceAdd, Nat.reduceSub, Array.replicate_succ, Array.replicate_zero, List.push_toArray, List.append_toArray, List.nil_append, List.cons_append]
  gi_wp2
  clear p0
  gi_loopw [8] (fun i wr => ∃ k : Nat, k ≤ xs.length ∧ i = .int .i64 k ∧ J ((List.finRange xs.length).take k) wr ∧ Kp2 B S W wr) (fun i _ => xs.length - (intOf i).toNat)
  case atStart => exact ⟨0, by omega, rfl, H0.out, Kp2.refl _ _ _⟩
  case round =>
    obtain ⟨k, hk, rfl, hj, hbw⟩ := hrel
    by_cases hlt : k < xs.length
    · obtain ⟨p0, _⟩ := cells1 (hbw.1.trans HB.out)
      have EX := List.getElem?_eq_getElem hlt
      obtain ⟨fn, tmps, assign, body, hy, hR⟩ := HY.out _ ⟨k, hlt⟩ _ hj (by rw [List.length_take]; simp; omega)
      change (Instr.yield l #[.int .i64 k, (xs[k]).agg]).run Try.prog _ = _ at hy
      generalize xs[k] = e at *
      have HR := Lib.hid hR
      have c0 : wr.cell? ⟨S, o + k * 8, none⟩ = some (.int .i64 e.k.k) := (World.cell?_of_block (a := ⟨S, _, none⟩) hbw.2).trans (HE.out k e EX 0 _ rfl)
      have c1 : wr.cell? ⟨S, o + k * 8 + 1, none⟩ = some (.int .i64 e.k.n) := (World.cell?_of_block (a := ⟨S, _, none⟩) hbw.2).trans (HE.out k e EX 1 _ rfl)
      have c2 : wr.cell? ⟨S, o + k * 8 + 2, none⟩ = some (.string e.k.s) := (World.cell?_of_block (a := ⟨S, _, none⟩) hbw.2).trans (HE.out k e EX 2 _ rfl)
      have c3 : wr.cell? ⟨S, o + k * 8 + 3, none⟩ = some (.int .i64 e.sh) := (World.cell?_of_block (a := ⟨S, _, none⟩) hbw.2).trans (HE.out k e EX 3 _ rfl)
      have c4 : wr.cell? ⟨S, o + k * 8 + 4, none⟩ = some (.int .i64 e.ep) := (World.cell?_of_block (a := ⟨S, _, none⟩) hbw.2).trans (HE.out k e EX 4 _ rfl)
      have c5 : wr.cell? ⟨S, o + k * 8 + 5, none⟩ = some (.int .i64 e.ho) := (World.cell?_of_block (a := ⟨S, _, none⟩) hbw.2).trans (HE.out k e EX 5 _ rfl)
      have c6 : wr.cell? ⟨S, o + k * 8 + 6, none⟩ = some (.int .i64 e.sl) := (World.cell?_of_block (a := ⟨S, _, none⟩) hbw.2).trans (HE.out k e EX 6 _ rfl)
      have c7 : wr.cell? ⟨S, o + k * 8 + 7, none⟩ = some (.int .i64 e.fo) := (World.cell?_of_block (a := ⟨S, _, none⟩) hbw.2).trans (HE.out k e EX 7 _ rfl)
      have e1 : ¬ (k : Int) < 0 := by omega
      have e2 : (k : Int) < 4 := by omega
      have e3 : (k : Int) < xs.length := by omega
      have HBW := Lib.hid hbw
      clear hbw hj hR EX
      gi_wp2
      refine HR.out.mono ?_
      rintro e' W3 (⟨rfl, hJ3, hk3⟩ | ⟨rfl, hJx3⟩)
      · have J3 := Lib.hid (And.intro hJ3 (HBW.out.trans hk3))
        clear hJ3 hk3
        gi_wp2
        go_roundw
        case rel => exact ⟨k + 1, by omega, by go_num, by rw [finRange_take _ k hlt]; exact J3.out.1, J3.out.2⟩
        case measure => simp [intOf]; omega
      · have J3 := Lib.hid hJx3
        clear hJx3
        gi_wp2
        refine bodyPost_ret (results_none rfl _ _ _) rfl ?_
        refine ⟨⟨_, rfl⟩, .inr ⟨_, ?_, J3.out⟩⟩
        rw [← finRange_take _ k hlt]
        exact List.take_prefix _ _
    · have hkm : k = xs.length := by omega
      have JE := Lib.hid (And.intro hj hkm)
      have hle : ¬ (k : Int) < xs.length := by omega
      clear hj hkm
      gi_wp2
      go_end0
      refine ⟨⟨_, rfl⟩, .inl ?_⟩
      try refine ⟨_, rfl, ?_⟩
      have := JE.out.1
      rwa [JE.out.2, List.take_of_length_le (by simp)] at this

theorem all_stopsB {C S : Nat} {c : CacheD} (k : Nat) (s : SiteD) (hs : c.sites[k]? = some s) (w : World) (h : CacheIn w C S c) (B : Nat) (hB : w.heap[B]? = some (.cells #[.pointer (some ⟨S, k * 34, none⟩)] 61)) :
    SeqStopsK Fence.wide 8 Try.prog 30 #[.pointer (some ⟨B, 0, none⟩)] (encE s.l) (Kp2 B S) (fun ys => ys = List.finRange s.l.length) (fun pre => pre <+: List.finRange s.l.length) s.l.length w := fun l J Jx W hW hJ hJx hY h0 => by
  obtain ⟨h4, h5, _, _, h7⟩ := h.site hs
  exact all1_inB l B S (k * 34) s.l h4 J Jx W.heap.size hJ hJx hY W ((hW.block B (Array.getElem?_eq_some_iff.1 hB).1).trans hB)
    ((hW.cell (p := ⟨S, _, none⟩) h.ltS).trans h5) (fun i e he j u hu => (hW.cell (p := ⟨S, _, none⟩) h.ltS).trans (h7 i e he j u hu)) h0
theorem news_al {W : World} {o : Array Value} {t : TypeId} : ∀ j u, o.toList[j]? = some u → (W.alloc (.cells o t)).cell? ((⟨W.heap.size, 0, none⟩ : Addr).add j) = some u := by
  intro j u hu
  rw [add_off, cell_of_row _ _ _ _ _ _ (heap_alloc_new _ _)]
  simpa using hu
theorem entries_nil (n : Int) (w : World) : Calls Try.prog 14 #[.pointer none, .int .i64 n] w fun e w' => e = .returned (.slice none 0 0) ∧ Below w.heap.size w w' := by
  (refine callsIn_wide.1 (callsIn_of_wp_marks (n := 9) Try.func14 rfl trivial ?_ rfl); refine wpIn_wide.2 ?_; simp only [Try.ntmps14, List.size_toArray, List.length_cons, List.length_nil, Nat.reduceAdd, Nat.reduceSub, Array.replicate_succ, Array.replicate_zero, List.push_toArray, List.append_toArray, List.nil_append, List.cons_append])
  go_wp2_with (go_at_call 21; refine (site_nil _ _).mono ?_; rintro e w' ⟨rfl, rfl⟩)
  refine marks_ret0 (v := .slice none 0 0) (by simp [results, Try.results14, go_sem]) rfl ⟨rfl, by (repeat (with_reducible first | exact Below.refl _ _ | (refine bl_set ?_ (by first | omega | (simp; done) | (simp; omega)) _) | refine bl_gr ?_ _ | refine bl_al ?_ _ | refine below_setRow ?_ (by first | omega | (simp; done) | (simp; omega)) _ | refine bl_drewN ?_ _ | refine Below.drew ?_ | (refine bl_tr ?_ (by assumption))))⟩
theorem ent_info : (Try.prog.info? 33).map (fun i => (i.zero, i.size, i.bytes)) = some (some (.agg #[.int .i64 0, .int .i64 0, .string ⟨#[]⟩, .int .i64 0, .int .i64 0, .int .i64 0, .int .i64 0, .int .i64 0]), 8, 72) := by kernel_rfl
abbrev pick (l : List Ent) (pre : List (Fin l.length)) : List Ent := pre.map fun y => l[y.val]
theorem pick_all (l : List Ent) : pick l (List.finRange l.length) = l := by
  apply List.ext_getElem
  · simp [pick]
  · intro i h1 h2
    simp [pick]
theorem flat_snoc (xs : List Ent) (e : Ent) : flat Ent.cs (xs ++ [e]) = flat Ent.cs xs ++ Ent.cs e := by simp [flat]
abbrev enL (S j : Nat) : List (Array Value × TypeId) := [(#[.slice none 0 0], 44), (#[.pointer (some ⟨S, j * 34, none⟩)], 61)]
theorem lays2 {n : Nat} {W : World} {a b : Array Value × TypeId} (h : Lays n [a, b] W) : W.heap[n]? = some (.cells a.1 a.2) ∧ W.heap[n + 1]? = some (.cells b.1 b.2) := ⟨h 0 a rfl, h 1 b rfl⟩
def RetEnts (c : CacheD) (n : Int) (w : World) (e : Ending) (w' : World) : Prop := ∃ v, e = .returned v ∧ OwnE w' w.heap.size v (entriesD c n) ∧ Below w.heap.size w w'

set_option maxRecDepth 100000 in
set_option maxHeartbeats 4000000 in
theorem entries_any {C S : Nat} {c : CacheD} (n : Int) (w : World) (h : CacheIn w C S c) : Calls Try.prog 14 #[.pointer (some ⟨C, 0, none⟩), .int .i64 n] w (RetEnts c n w) := by
  (refine callsIn_wide.1 (callsIn_of_wp_marks (n := 9) Try.func14 rfl trivial ?_ rfl); refine wpIn_wide.2 ?_; simp only [Try.ntmps14, List.size_toArray, List.length_cons, List.length_nil, Nat.reduceAdd, Nat.reduceSub, Array.replicate_succ, Array.replicate_zero, List.push_toArray, List.append_toArray, List.nil_append, List.cons_append])
  have H := Lib.hid h
  cases hs : siteD c n
  case none =>
    have HS := Lib.hid hs
    clear hs h
    go_wp2_with (go_at_call 21; refine (site_out _ _ H.out HS.out).mono ?_; rintro e w' ⟨rfl, rfl⟩)
    refine marks_ret0 (v := .slice none 0 0) (by simp [results, Try.results14, go_sem]) rfl ⟨_, rfl, ?_, by (repeat (with_reducible first | exact Below.refl _ _ | (refine bl_set ?_ (by first | omega | (simp; done) | (simp; omega)) _) | refine bl_gr ?_ _ | refine bl_al ?_ _ | refine below_setRow ?_ (by first | omega | (simp; done) | (simp; omega)) _ | refine bl_drewN ?_ _ | refine Below.drew ?_ | (refine bl_tr ?_ (by assumption))))⟩
    rw [show entriesD c n = [] by simp [entriesD, HS.out]]
    exact World.ownsRow_nil _ _ _ _
  case some s =>
  obtain ⟨j, rfl, hj, hsj⟩ := siteD_some hs
  obtain ⟨h4, _⟩ := h.site hsj
  have HS := Lib.hid (And.intro hs hsj)
  have lC := h.ltC
  have lS := h.ltS
  clear hs hsj h
  go_wp2_with (first | (go_at_call 21; refine (site_in j _ H.out hj).mono ?_; rintro e w' ⟨rfl, rfl⟩) | (go_at_call 22; refine (all_any _ _).mono ?_; rintro e w1 ⟨rfl, hw1⟩; have W1 := Lib.hid hw1; clear hw1))
  have LL : w1.heap.size = w.heap.size + 2 ∧ Below w.heap.size w w1 ∧ Lays w.heap.size (enL S j) w1 := by
    rw [W1.out]
    exact laysN w (enL S j)
  obtain ⟨hsz, hB0, hL⟩ := LL
  have hs1 := Nat.le_of_eq hsz
  have hs2 := Nat.le_of_eq hsz.symm
  have HC1 := Lib.hid (H.out.below hB0)
  clear W1 hsz
  have hb6 := (lays2 hL).2
  have hlB : w.heap.size < w1.heap.size := by omega
  refine (wpIn_wide (n := 9)).1 ?_
  refine wpIn_rangeFunc_ownH rfl (by omega) (gf := 30) (lb := #[.pointer (some ⟨w.heap.size + 1, 0, none⟩)]) rfl trivial (enters_of Try.func30 (by kernel_rfl) rfl)
    (all_stopsB j s HS.out.2 w1 HC1.out _ hb6) Kp2.trans (Kp2.put (by omega) (by omega)) (Below.refl _ _) (fun _ => rfl)
    (fun pre W => (∃ v, W.heap[w.heap.size]? = some (.cells #[v] 44) ∧ W.ownsRow w1.heap.size 33 8 v pre.length (flat Ent.cs (pick s.l pre))) ∧ Below w.heap.size w W ∧ w1.heap.size ≤ W.heap.size)
    (fun _ _ _ => False)
    (ownFrom_of fun pre W W' ⟨⟨v, hb, ho⟩, hB, hz⟩ hs => ⟨⟨v, hs.heap hb, hs.owns ho⟩, hs.below (by omega) hB (Nat.le_refl _), Nat.le_trans hz hs.size⟩)
    (fun _ => ownFrom_of fun _ _ _ h _ => h)
    ⟨⟨_, (lays2 hL).1, World.ownsRow_nil _ _ _ _⟩, hB0, Nat.le_refl _⟩
    (fun x a' W => ∃ Bx e, w1.heap.size ≤ Bx ∧ e = s.l[x.val] ∧ W.heap[Bx]? = some (entO e 33) ∧
      a' = { tmps := #[.pointer (some ⟨C, 0, none⟩), .int .i64 j, undef, undef, .slice none 0 0, .pointer (some ⟨S, j * 34, none⟩), .pointer (some ⟨w.heap.size, 0, none⟩), undef, .pointer (some ⟨Bx, 0, none⟩), .pointer (some ⟨C, 0, none⟩), .int .i64 j, .pointer (some ⟨S, j * 34, none⟩), .pointer (some ⟨S, j * 34, none⟩), .bool false, .pointer (some ⟨S, j * 34, none⟩), .func (.func 30) #[] #[.pointer (some ⟨w.heap.size + 1, 0, none⟩)], .int .i64 x.val, e.agg, undef, undef, undef, undef, undef], defers := [] })
    (fun x a' => ownFrom_of fun _ W W' ⟨Bx, e, h1, h2, h3, h4⟩ hs => ⟨Bx, e, h1, h2, hs.heap h3, h4⟩) ?assign ?body ?done ?stop
  case assign =>
    rintro l pre x W K ⟨⟨v, hb, ho⟩, hB, hz⟩ hK
    gi_wp2
    have hbl := (Below.refl W.heap.size W).alloc (Nat.le_refl _) (entO s.l[x.val] 33)
    refine hK _ _ ((KeepsOthers.alloc _ _).from _) ⟨hbl.block _ (by omega), hbl.block _ (by omega)⟩ ⟨⟨v, (hbl.block _ (by omega)).trans hb, ho.alloc _⟩, hB.alloc hB.size _, by simp; omega⟩ ⟨W.heap.size, _, hz, rfl, heap_alloc_new _ _, rfl⟩
  case body =>
    rintro l pre x a' W hl hr ⟨⟨v, hb, ho⟩, hB, hz⟩ ⟨Bx, e, hBx, he, hx, rfl⟩ hlt
    obtain ⟨A0, n0, rfl⟩ := ownsRow_form ho
    obtain ⟨⟨x0, x1, x2, x3, x4, x5, x6, x7⟩, _⟩ := cells8 hx
    obtain ⟨z0, z1⟩ := cells1 hb
    have lx := (Array.getElem?_eq_some_iff.1 hx).1
    have no : w.heap.size < W.heap.size := by omega
    have INV := Lib.hid (And.intro hb (And.intro ho (And.intro hB hz)))
    have e9 := Lib.hid (show flat Ent.cs (pick s.l (pre ++ [x])) = flat Ent.cs (pick s.l pre) ++ e.cs by rw [he, ← flat_snoc]; simp [pick])
    obtain ⟨i0, hi, hz0, hz1, hz2⟩ := info_parts ent_info
    have II := Lib.hid (And.intro hi (And.intro hz0 (And.intro hz1 hz2)))
    clear hb ho hB hx hr hl he hi hz0 hz1 hz2
    gi_wp2_with (first
      | (gi_at_builtin; refine wpListIn_append_own _ rfl _ _ 44 rfl w1.heap.size 33 i0 (.agg #[.int .i64 0, .int .i64 0, .string ⟨#[]⟩, .int .i64 0, .int .i64 0, .int .i64 0, .int .i64 0, .int .i64 0]) 8 72 Try.underlying44 II.out.1 II.out.2.1 II.out.2.2.1 II.out.2.2.2 rfl (by decide) _ _ _ rfl (INV.out.2.1.alloc _) ⟨W.heap.size, 0, none⟩ 1 1 e.cs rfl rfl ?_ ?_ ?_ ?_ ?_ ?_; (next => exact news_al); (next => intro u hu; simp at hu; rcases hu with rfl | rfl | rfl | rfl | rfl | rfl | rfl | rfl <;> rfl); (next => unfold maxLen; omega); (next => omega); (next => simp; omega); intro v' w5 hown hgrow _; obtain ⟨A5, n5, rfl⟩ := ownsRow_form hown; have tb := touch_grown hgrow; have GW := Lib.hid (And.intro hown tb); have q5 := (tb.block (w.heap.size) (by simp; omega) (fun e => by have := (INV.out.2.1.lt _ e).1; omega)).trans ((heap_alloc_old _ _ no).trans INV.out.1); obtain ⟨q6, q7⟩ := cells1 q5; have Q5 := Lib.hid q5; clear hown hgrow tb q5))
    have T1 : Touch (fun k => Value.ownBlock (.slice A0 pre.length n0) = some k ∨ k = w.heap.size) W (w5.setCell ⟨w.heap.size, 0, none⟩ (.slice A5 (pre.length + 1) n5)) :=
      Touch.set (p := ⟨w.heap.size, 0, none⟩) (((Touch.refl _ W).alloc _).trans GW.out.2 (fun i _ h => .inl h)) (.inl (.inr rfl)) _
    refine ⟨keeps_touch T1 (fun k hk => ?_), Kp2.touch T1 (by omega) (by omega) (fun hk => ?_) (fun hk => ?_), ⟨_, heap_setCell_same _ _ _ _ _ _ Q5.out, ?_⟩, INV.out.2.2.1.trans (T1.below (by omega) (fun k hk => ?_)), Nat.le_trans INV.out.2.2.2 T1.size⟩
    · rcases hk with hk | rfl
      · exact owns_cells INV.out.2.1 hk
      · exact ⟨_, _, INV.out.1⟩
    · rcases hk with hk | hk
      · have := (INV.out.2.1.lt _ hk).1
        omega
      · omega
    · rcases hk with hk | hk
      · have := (INV.out.2.1.lt _ hk).1
        omega
      · omega
    · rw [e9.out, List.length_append]
      exact ownsRow_touch GW.out.1 ((Touch.refl (fun b => b = w.heap.size) _).set1 0 (.slice A5 (pre.length + 1) n5)) (fun g hg e => by have := (GW.out.1.lt g hg).1; omega)
    · rcases hk with hk | rfl
      · have := (INV.out.2.1.lt _ hk).1
        omega
      · omega
  case done =>
    rintro D ys W hD rfl ⟨⟨v, hb, ho⟩, hB, hz⟩ hK
    obtain ⟨A0, n0, rfl⟩ := ownsRow_form ho
    obtain ⟨z0, z1⟩ := cells1 hb
    have ho' : OwnE W w1.heap.size (.slice A0 (List.finRange s.l.length).length n0) s.l := by
      have h := ho
      rw [pick_all, show (List.finRange s.l.length).length = s.l.length by simp] at h
      rw [show (List.finRange s.l.length).length = s.l.length by simp]
      exact h
    rw [show (List.finRange s.l.length).length = s.l.length by simp] at ho' z0 hb
    have INV := Lib.hid (And.intro ho' hB)
    have HD := Lib.hid (And.intro hD hK)
    clear hb ho ho' hB hD hK
    go_wp2
    refine marks_ret1 HD.out.2 (results_tmp rfl _ _ _) rfl ⟨_, rfl, ?_, ?_⟩
    · rw [show entriesD c j = s.l by simp [entriesD, HS.out.1]]
      exact ownsRow_low (ownsRow_touch (F := fun b => b = D) INV.out.1 (Touch.put _ _ _) (fun g hg e => by obtain ⟨cs, t, h⟩ := owns_cells INV.out.1 hg; rw [e, HD.out.2] at h; cases h)) (by omega)
    · exact below_put INV.out.2 (by have := HD.out.1; omega) _
  case stop =>
    rintro D c pre W _ _ h _
    exact h.elim
end Go.Proofs.Ytbgcjgnhblhohaa
