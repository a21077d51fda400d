/- Registries: Clean, walked. -/
import Derived.Test.YtokoigjcakgpdaaFinC
import Derived.Test.YtokoigjcakgpdaaFinD
import Derived.Test.YtokoigjcakgpdaaFinF
import Derived.Deep.AppendLies
import Derived.Sort.CutIn
namespace Go.Proofs.Ytokoigjcakgpdaa
set_option linter.all false
open Go.RowKit Go.Sort Go.Deep Go.Shelf
attribute [local go_sem] Oper.semAt_some

/-- what Clean keeps of entry k, and what it tells of it -/
def tokD (live : Int → Bool) (v : Val) : Val := bif v.k == 7 && !live v.n then Val.zero else v
def keepD (live : Int → Bool) (mo : List Val) (k : Nat) : List Val := bif live (vAt mo (1 + 4 * k)).n then [vAt mo (1 + 4 * k), vAt mo (1 + 4 * k + 1), tokD live (vAt mo (1 + 4 * k + 2)), vAt mo (1 + 4 * k + 3)] else []
def toldD (live : Int → Bool) (mo : List Val) (k : Nat) : List Val := bif live (vAt mo (1 + 4 * k)).n then [] else [vAt mo 0, vAt mo (1 + 4 * k + 1), vAt mo (1 + 4 * k + 3)]
def keptD (live : Int → Bool) (mo : List Val) {m : Nat} (l : List (Fin m)) : List Val := [vAt mo 0] ++ l.flatMap fun x => keepD live mo x.val
def toldsD (live : Int → Bool) (mo : List Val) {m : Nat} (l : List (Fin m)) : List Val := l.flatMap fun x => toldD live mo x.val
theorem keptD_snoc (live : Int → Bool) (mo : List Val) {m : Nat} (l : List (Fin m)) (x : Fin m) : keptD live mo (l ++ [x]) = keptD live mo l ++ keepD live mo x.val := by simp [keptD]
theorem toldsD_snoc (live : Int → Bool) (mo : List Val) {m : Nat} (l : List (Fin m)) (x : Fin m) : toldsD live mo (l ++ [x]) = toldsD live mo l ++ toldD live mo x.val := by simp [toldsD]
theorem flat_le {m n : Nat} {f : Fin m → List Val} (h : ∀ x, (f x).length ≤ n) : ∀ l : List (Fin m), (l.flatMap f).length ≤ n * l.length
  | [] => by simp
  | x :: l => by
    have := flat_le h l
    have := h x
    simp only [List.flatMap_cons, List.length_append, List.length_cons, Nat.mul_succ]
    omega
theorem keptD_len (live : Int → Bool) (mo : List Val) {m : Nat} (l : List (Fin m)) : (keptD live mo l).length ≤ 1 + 4 * l.length ∧ 1 ≤ (keptD live mo l).length := by
  have := flat_le (f := fun x : Fin m => keepD live mo x.val) (n := 4) (fun x => by unfold keepD; cases live (vAt mo (1 + 4 * x.val)).n <;> simp) l
  unfold keptD
  simp only [List.length_append, List.length_cons, List.length_nil]
  omega
theorem toldsD_len (live : Int → Bool) (mo : List Val) {m : Nat} (l : List (Fin m)) : (toldsD live mo l).length ≤ 3 * l.length :=
  flat_le (f := fun x : Fin m => toldD live mo x.val) (n := 3) (fun x => by unfold toldD; cases live (vAt mo (1 + 4 * x.val)).n <;> simp) l

theorem map_pair (W : World) (pp : Regrown) (T : TypeId) :
    MapS (((gr W pp).alloc (.map #[] 0)).alloc (.cells #[.map (some (W.heap.size + pp.os.size))] T)) (W.heap.size + pp.os.size) 0 (fun _ => false) ∧ (((gr W pp).alloc (.map #[] 0)).alloc (.cells #[.map (some (W.heap.size + pp.os.size))] T)).heap[W.heap.size + pp.os.size + 1]? = some (.cells #[.map (some (W.heap.size + pp.os.size))] T) ∧
      Below W.heap.size W (((gr W pp).alloc (.map #[] 0)).alloc (.cells #[.map (some (W.heap.size + pp.os.size))] T)) := by
  have e := gr_size W pp
  refine ⟨?_, ?_, bl_al (bl_al (below_gr W pp) _) _⟩
  · have := MapS.made (gr W pp)
    rw [e] at this
    exact this.below (bl_al (Below.refl _ _) _)
  · have := heap_alloc_new ((gr W pp).alloc (.map #[] 0)) (.cells #[.map (some (W.heap.size + pp.os.size))] T)
    rw [World.size_alloc, e] at this
    exact this

theorem wpIn_world {F : Fence} {n : Nat} {P : Program} {c : Code} {Q : Exit → Act → World → Prop} {a : Act} {w : World} (C : World → Prop) (hC : C w) (h : ∀ w', C w' → c.wpIn F n P Q a w') : c.wpIn F n P Q a w := h w hC
theorem post_world {F : Fence} {n : Nat} {P : Program} {fn : Func} {R : Ending → World → Prop} {e : Exit} {a : Act} {w : World} (C : World → Prop) (hC : C w) (h : ∀ w', C w' → bodyPostM F n P fn R e a w') : bodyPostM F n P fn R e a w := h w hC
abbrev valO (v : Val) : Obj := .cells #[.int .i64 v.k, .int .i64 v.n, .string v.s] 34
theorem cells3f {w : World} {b : Nat} {T : TypeId} {x y z : Value} (h : w.heap[b]? = some (.cells #[x, y, z] T)) : (w.cell? ⟨b, 0, none⟩ = some x ∧ w.cell? ⟨b, 1, none⟩ = some y ∧ w.cell? ⟨b, 2, none⟩ = some z) ∧ w.frozen? ⟨b, 0, none⟩ = false ∧ w.frozen? ⟨b, 1, none⟩ = false ∧ w.frozen? ⟨b, 2, none⟩ = false := by
  refine ⟨⟨?_, ?_, ?_⟩, ?_, ?_, ?_⟩
  all_goals first | (rw [cell_of_row w b _ _ _ _ h]; rfl) | exact frozen_of_row w b _ _ _ h
/-- a row of values is no block of another type -/
theorem own_ne {W : World} {lo g B : Nat} {v : Value} {xs : List Val} {cs : Array Value} {T : TypeId} (h : OwnV W lo v xs) (hg : v.ownBlock = some g) (hB : W.heap[B]? = some (.cells cs T)) (hT : T ≠ 34) : g ≠ B := by
  rcases h.2 with ⟨rfl, _⟩ | ⟨g', cap, cur, rfl, _, hgg, _⟩
  · simp [Value.ownBlock] at hg
  · simp only [Value.ownBlock, Option.some.injEq] at hg
    subst hg
    rintro rfl
    rw [hB] at hgg
    simp at hgg
    exact hT hgg.2
/-- an append out of a fresh block as one step of a region that draws its order -/
theorem step_appL {ops : Array Oper} {o : Oper} {a : Act} {w : World} {K : Act → World → Prop} {Q : Exit → Act → World → Prop} {E : Prop} (lo : Nat)
    (hg : o.guard = none) (s x : Operand) (hop : o.op = Op.call { callee := Callee.builtin Builtin.append, args := #[s, x], argTypes := #[22, 22] })
    (ys xs : List Val) {yv : Value} {B m : Nat} (hs : a.eval s = yv) (hx : a.eval x = .slice (some ⟨B, 0, none⟩) m m) (hm : xs.length = m) (h0 : 0 < m) (hlo : lo ≤ w.heap.size) (hown : OwnV w lo yv ys)
    (hblk : w.heap[B]? = some (.cells (flat Val.cs xs).toArray 34)) (hf : ys.length + m ≤ 100000)
    (hK : ∀ g cap w', OwnV w' lo (.slice (some ⟨g, 0, none⟩) (ys ++ xs).length cap) (ys ++ xs) → Touch (fun k => yv.ownBlock = some k) w w' → (yv.ownBlock = some g ∨ g = w.heap.size) → K (a.put o.dst (.slice (some ⟨g, 0, none⟩) (ys ++ xs).length cap)) w') :
    if Region.wanted o (yielded ops a.tmps) = true then Oper.wp Try.prog o a w K Q else E := by
  obtain ⟨i, hi, hz, hsz, hby⟩ := val_info
  have hl : (flat Val.cs xs).length = m * 3 := by rw [flat_len cs_len, hm]
  refine step_append_lies w hg s x 22 hop lo 34 i (.agg zval) 3 32 Try.underlying22 hi hz hsz hby rfl (by omega) yv ys.length (flat Val.cs ys) hs hown ⟨B, 0, none⟩ m m (flat Val.cs xs) hx hl ?_ one_cs h0 (by unfold maxLen; omega) (by omega) hlo w.heap.size rfl ?_
  · intro j u hu
    have e : (⟨B, 0, none⟩ : Addr).add j = ⟨B, j, none⟩ := by unfold Addr.add; split <;> simp_all
    rw [e, cell_of_row w B _ _ _ _ hblk]
    simpa using hu
  · intro g cap w' h1 h2 h3 _
    have e : flat Val.cs (ys ++ xs) = flat Val.cs ys ++ flat Val.cs xs := by unfold flat; rw [List.flatMap_append]
    have := hK g cap w' (by unfold OwnV; rw [e, List.length_append, hm]; exact h1) ⟨h2.os, h2.tape, h2.output, h2.size, fun k hk hn => h2.block k hk fun e => hn e.symm⟩ h3
    rw [List.length_append, hm] at this
    exact this

set_option maxRecDepth 100000 in
set_option maxHeartbeats 8000000 in
theorem clean_any (sv mv lv : Value) (c : CellD) (live : List Int) (L : Int → Bool) (hL : ∀ y, L y = live.contains y) (hc : c.ok) (hf : c.fit) (hll : live.length ≤ 100000) (hlo : ∀ x ∈ live, i64ok x) (m : Nat) (hm : c.mo.length = 1 + 4 * m) (hm2 : m ≤ 1000) (w : World) (h1 : IsV w sv c.sl) (h2 : IsV w mv c.mo) (h3 : IsI w lv live) (hb : isB c = true) :
    Calls Try.prog 10 #[cellV c.k c.sh c.fl c.ag sv mv, lv] w fun e w' => ∃ s mm t, e = .returned (.tuple #[cellV c.k c.sh c.fl c.ag s mm, t]) ∧ IsV w' s c.sl ∧ IsV w' mm (keptD L c.mo (List.finRange m)) ∧ IsV w' t (toldsD L c.mo (List.finRange m)) ∧ Below w.heap.size w w' := by
  obtain ⟨A0, n0, rfl, _, _⟩ := h1.form
  obtain ⟨A2, n2, rfl, hc2, _⟩ := h2.form
  obtain ⟨A3, n3, rfl, _, _⟩ := h3.form
  obtain ⟨b, off, rfl⟩ := isV_addr h2 (by omega)
  have H1 := Lib.hid h1
  have H2 := Lib.hid h2
  have H3 := Lib.hid h3
  have F := Lib.hid hf
  have OL := Lib.hid hlo
  have OK := Lib.hid hc
  have IS := Lib.hid (fun W a b => by have := is_any _ _ c hc W a b; rw [hb] at this; exact this : ∀ (W : World), IsV W (.slice A0 c.sl.length n0) c.sl → IsV W (.slice (some ⟨b, off, none⟩) c.mo.length n2) c.mo → Calls Try.prog 25 #[cellV c.k c.sh c.fl c.ag (.slice A0 c.sl.length n0) (.slice (some ⟨b, off, none⟩) c.mo.length n2)] W fun e w' => e = .returned (.bool true) ∧ Below W.heap.size W w')
  have HM := Lib.hid hm
  have HL := Lib.hid hL
  clear hL
  have hml : c.mo.length ≤ 4001 := by omega
  clear h1 h2 h3 hf hlo hc hb hm
  have hmk := run_makeMapS
  refine callsIn_wide.1 (callsIn_of_wp_marks (n := 9) Try.func10 rfl trivial ?_ rfl)
  refine wpIn_wide.2 ?_
  simp only [Try.ntmps10, List.size_toArray, List.length_cons, List.length_nil, Nat.reduceAdd, Nat.reduceSub, Array.replicate_succ, Array.replicate_zero, List.push_toArray, List.append_toArray, List.nil_append, List.cons_append]
  go_upto_region 1 with fail
  refine wp_world (fun W => W.heap[w.heap.size]? = some (cellO c.k c.sh c.fl c.ag (.slice A0 c.sl.length n0) (.slice (some ⟨b, off, none⟩) c.mo.length n2)) ∧ W.heap[w.heap.size + 1]? = some (cellO 0 0 0 0 (.slice none 0 0) (.slice none 0 0)) ∧ Below w.heap.size w W)
    ⟨(heap_alloc_old _ _ (by simp)).trans (heap_alloc_new _ _), (by have := heap_alloc_new (w.alloc (cellO c.k c.sh c.fl c.ag (.slice A0 c.sl.length n0) (.slice (some ⟨b, off, none⟩) c.mo.length n2))) (cellO 0 0 0 0 (.slice none 0 0) (.slice none 0 0)); simpa using this), by (repeat (with_reducible first | exact Below.refl _ _ | (refine bl_set ?_ (by first | omega | (simp; done) | (simp; omega)) _) | refine bl_gr ?_ _ | refine bl_al ?_ _ | refine below_setRow ?_ (by first | omega | (simp; done) | (simp; omega)) _ | refine bl_drewN ?_ _ | refine Below.drew ?_ | (refine bl_tr ?_ (by assumption))))⟩ ?_
  rintro W ⟨j1, j2, jb⟩
  have l0 : w.heap.size < W.heap.size := (Array.getElem?_eq_some_iff.1 j1).1
  have l1 : w.heap.size + 1 < W.heap.size := (Array.getElem?_eq_some_iff.1 j2).1
  obtain ⟨⟨a0, a1, a2, a3, a4, a5⟩, _⟩ := cells6 j1
  have J := Lib.hid (And.intro j1 (And.intro j2 jb))
  clear j1 j2 jb
  go_upto_region 3 with (go_at_call 25; refine (callGr (IS.out _ (H1.out.below (J.out.2.2.trans (by (repeat (with_reducible first | exact Below.refl _ _ | (refine bl_set ?_ (by first | omega | (simp; done) | (simp; omega)) _) | refine bl_gr ?_ _ | refine bl_al ?_ _ | refine below_setRow ?_ (by first | omega | (simp; done) | (simp; omega)) _ | refine bl_drewN ?_ _ | refine Below.drew ?_ | (refine bl_tr ?_ (by assumption))))))) (H2.out.below (J.out.2.2.trans (by (repeat (with_reducible first | exact Below.refl _ _ | (refine bl_set ?_ (by first | omega | (simp; done) | (simp; omega)) _) | refine bl_gr ?_ _ | refine bl_al ?_ _ | refine below_setRow ?_ (by first | omega | (simp; done) | (simp; omega)) _ | refine bl_drewN ?_ _ | refine Below.drew ?_ | (refine bl_tr ?_ (by assumption))))))))).mono ?_; rintro e w' ⟨pp, rfl, rfl⟩)
  go_upto_region 4 with fail
  obtain ⟨mp1, mp2, mp3⟩ := map_pair W pp 48
  have hge : W.heap.size ≤ W.heap.size + pp.os.size := Nat.le_add_right _ _
  generalize W.heap.size + pp.os.size = MB at *
  generalize hW1 : ((gr W pp).alloc _).alloc _ = w1 at mp1 mp2 mp3 ⊢
  clear hW1
  have k1 : w1.heap[w.heap.size]? = some (cellO c.k c.sh c.fl c.ag (.slice A0 c.sl.length n0) (.slice (some ⟨b, off, none⟩) c.mo.length n2)) := (mp3.block _ l0).trans J.out.1
  have k2 : w1.heap[w.heap.size + 1]? = some (cellO 0 0 0 0 (.slice none 0 0) (.slice none 0 0)) := (mp3.block _ l1).trans J.out.2.1
  have kb := J.out.2.2.trans (mp3.mono J.out.2.2.size)
  have N0 := Lib.hid (And.intro l0 (And.intro l1 (And.intro hge mp1.lt)))
  have P := Lib.hid (And.intro k1 (And.intro k2 (And.intro mp2 kb)))
  have P0 := Lib.hid mp1
  clear k1 k2 kb mp1 mp2 mp3 a0 a1 a2 a3 a4 a5 l0 l1 hge hmk J
  go_wp2
  go_loopw [23] (fun i wr => ∃ k : Nat, k ≤ live.length ∧ i = .int .i64 k ∧ MapS wr MB k (fun y => (live.take k).contains y) ∧ Touch (fun b => b = MB) w1 wr) (fun i _ => live.length - (intOf i).toNat)
  case atStart => exact ⟨0, by omega, rfl, P0.out.congr (fun a => by simp), Touch.refl _ _⟩
  case round =>
    obtain ⟨k, hk, rfl, hM, hT⟩ := hrel
    have hB : Below w.heap.size w wr := P.out.2.2.2.trans (hT.below P.out.2.2.2.size (fun i e => by have := N0.out; omega))
    have M0 := Lib.hid hM
    have T0 := Lib.hid hT
    have kt : wr.heap[MB + 1]? = some (.cells #[.map (some MB)] 48) := (hT.block _ (Array.getElem?_eq_some_iff.1 P.out.2.2.1).1 (by omega)).trans P.out.2.2.1
    obtain ⟨t0, _⟩ := cells1 kt
    by_cases hlt : k < live.length
    · obtain ⟨b1', o1, _, e1, _, hb1, hx⟩ := (H3.out.below hB).at_ (by omega)
      simp only [Value.slice.injEq] at e1
      obtain ⟨rfl, _, rfl⟩ := e1
      obtain ⟨x, ex⟩ : ∃ x, live[k]? = some x := ⟨_, List.getElem?_eq_getElem hlt⟩
      have cx0 : wr.cell? ⟨b1', o1 + k, none⟩ = some (.int .i64 x) := by have := hx k x ex 0 _ rfl; simpa using this
      have XO := Lib.hid (OL.out x (List.mem_of_getElem? ex))
      have TK := Lib.hid (show live.take (k + 1) = live.take k ++ [x] by rw [List.take_add_one, ex]; rfl)
      have q1 : (k : Int) < live.length := by omega
      clear hx ex hM hT hB kt
      go_wp2_with (at_mapUpdate; refine wpList_setS rfl _ _ _ rfl rfl rfl rfl M0.out (by unfold maxLen; omega) XO.out ?_; intro w5 h5 g5; have M5 := Lib.hid h5; have G5 := Lib.hid g5; clear h5 g5)
      go_roundw
      case rel =>
        refine ⟨k + 1, by omega, by go_num, M5.out.congr (fun a => ?_), T0.out.trans ⟨G5.out.os, G5.out.tape, G5.out.output, G5.out.size, fun k hk hn => G5.out.block k hk (by simpa using hn)⟩ (fun _ _ h => h)⟩
        rw [TK.out, Bool.eq_iff_iff]
        simp [or_comm]
      case measure => simp [intOf]; omega
    · have q1 : ¬ (k : Int) < live.length := by omega
      have sz := hT.size
      have k1 : wr.heap[w.heap.size]? = some (cellO c.k c.sh c.fl c.ag (.slice A0 c.sl.length n0) (.slice (some ⟨b, off, none⟩) c.mo.length n2)) := (hT.block _ (by have := N0.out; have := P.out.2.2.2.size; omega) (by have := N0.out; omega)).trans P.out.1
      have k2 : wr.heap[w.heap.size + 1]? = some (cellO 0 0 0 0 (.slice none 0 0) (.slice none 0 0)) := (hT.block _ (by have := N0.out; have := P.out.2.2.2.size; omega) (by have := N0.out; omega)).trans P.out.2.1
      have MM := Lib.hid (hM.congr (g := L) (fun a => by rw [List.take_of_length_le (by omega), HL.out]))
      obtain ⟨⟨a0, a1, a2, a3, a4, a5⟩, _⟩ := cells6 k1
      have lMT := (Array.getElem?_eq_some_iff.1 kt).1
      have PP := Lib.hid (And.intro k1 (And.intro k2 (And.intro kt hB)))
      have J1 := Lib.hid (H1.out.below hB)
      have J2 := Lib.hid (H2.out.below hB)
      have HN := Lib.hid (And.intro hk lMT)
      clear k1 k2 kt hB hM hT M0 T0 P P0 H1 H2 H3 t0 hk sz
      go_upto_region 12 with (first
        | (go_at_call 26; refine (bare_any _ _ c _ J1.out J2.out F.out (by have := HM.out; omega)).mono ?_; rintro e w3 ⟨A5, n5, g, rfl, o1, o2, od, hb⟩; have OO := Lib.hid (And.intro o1 (And.intro o2 (And.intro od hb))); obtain ⟨⟨d0, d1, d2, d3, d4, d5⟩, _⟩ := cells6 ((hb.block _ (by have := N0.out; have := HN.out; omega)).trans PP.out.1); have l3 := Nat.lt_of_lt_of_le (show w.heap.size < wr.heap.size by have := N0.out; have := HN.out; omega) hb.size; clear o1 o2 od hb)
        | (go_at_call 27; refine (entries_any _ _ _ _ _ _ _ _ _ _ _).mono ?_; rintro e w4 ⟨rfl, hw4⟩; have W4 := Lib.hid hw4; clear hw4))
      have hsz : w4.heap.size = w3.heap.size + 3 := by rw [W4.out]; simp
      have q9 : w4.heap[w3.heap.size]? = some (cellO c.k c.sh c.fl c.ag (.slice A5 c.sl.length n5) (.slice (some ⟨g, 0, none⟩) 1 1)) := by rw [W4.out]; exact hq_0 _ _ _ _
      have q10 : w4.heap[w3.heap.size + 1]? = some (.cells #[.slice none 0 0] 22) := by rw [W4.out]; exact hq_1 _ _ _ _
      have qE : w4.heap[w3.heap.size + 1 + 1]? = some (cellO c.k c.sh c.fl c.ag (.slice A0 c.sl.length n0) (.slice (some ⟨b, off, none⟩) c.mo.length n2)) := by rw [W4.out]; exact hq_2 _ _ _ _
      have hb34 : Below w3.heap.size w3 w4 := by rw [W4.out]; exact bl_al (bl_al (bl_al (Below.refl _ _) _) _) _
      have hbr : Below wr.heap.size wr w4 := bl_tr OO.out.2.2.2 hb34
      have s3 := OO.out.2.2.2.size
      have oA := ownsRow_below OO.out.1 hb34
      have oG := ownsRow_below OO.out.2.1 hb34
      have odG := OO.out.2.2.1
      obtain ⟨lo, hlo⟩ : ∃ lo, lo = wr.heap.size := ⟨_, rfl⟩
      rw [← hlo] at oA oG
      have LO := Lib.hid (And.intro hlo (And.intro s3 hsz))
      have QQ := Lib.hid (And.intro q9 (And.intro q10 (And.intro qE (And.intro hbr (And.intro oA (And.intro oG odG))))))
      have hs1 := Nat.le_of_eq hsz
      have hs2 := Nat.le_of_eq hsz.symm
      clear W4 q9 q10 hb34 oA oG odG OO a0 a1 a2 a3 a4 a5 d0 d1 d2 d3 d4 d5 hsz
      refine (wpIn_wide (n := 9)).1 ?_
      refine wpIn_rangeFunc_ownH rfl (by omega) (gf := 40) (lb := #[.pointer (some ⟨w3.heap.size + 1 + 1, 0, none⟩)]) rfl trivial (enters_of Try.func40 (by kernel_rfl) rfl)
        (entries_stops m b off n2 c.k c.sh c.fl c.ag (.slice A0 c.sl.length n0) (by rw [← HM.out]; exact hc2) (by omega) _ wr w4 hbr (by rw [← HM.out]; exact qE)) KpB.trans (KpB.put (by omega) (by omega)) (Below.refl _ _) (fun _ => rfl)
        (fun pre W => ∃ A9 n9 A10 n10, W.heap[w3.heap.size]? = some (cellO c.k c.sh c.fl c.ag (.slice A5 c.sl.length n5) (.slice A9 (keptD L c.mo pre).length n9)) ∧ OwnV W lo (.slice A9 (keptD L c.mo pre).length n9) (keptD L c.mo pre) ∧
      W.heap[w3.heap.size + 1]? = some (.cells #[.slice A10 (toldsD L c.mo pre).length n10] 22) ∧ OwnV W lo (.slice A10 (toldsD L c.mo pre).length n10) (toldsD L c.mo pre) ∧ OwnV W lo (.slice A5 c.sl.length n5) c.sl ∧
      ((∀ b, Value.ownBlock (.slice A5 c.sl.length n5) = some b → Value.ownBlock (.slice A9 (keptD L c.mo pre).length n9) ≠ some b) ∧ (∀ b, Value.ownBlock (.slice A5 c.sl.length n5) = some b → Value.ownBlock (.slice A10 (toldsD L c.mo pre).length n10) ≠ some b) ∧
        (∀ b, Value.ownBlock (.slice A9 (keptD L c.mo pre).length n9) = some b → Value.ownBlock (.slice A10 (toldsD L c.mo pre).length n10) ≠ some b)) ∧ Below wr.heap.size wr W ∧ w4.heap.size ≤ W.heap.size ∧ W.heap[w3.heap.size + 1 + 1]? = some (cellO c.k c.sh c.fl c.ag (.slice A0 c.sl.length n0) (.slice (some ⟨b, off, none⟩) c.mo.length n2)))
        (fun _ _ _ => False)
        (ownFrom_of fun s W W' ⟨A9, n9, A10, n10, q1, q2, q3, q4, q5, q6, q7, q8, qe⟩ hs => ⟨A9, n9, A10, n10, hs.heap q1, hs.owns q2, hs.heap q3, hs.owns q4, hs.owns q5, q6, hs.below (by omega) q7 (Nat.le_refl _), Nat.le_trans q8 hs.size, hs.heap qe⟩)
        (fun _ => ownFrom_of fun _ _ _ h _ => h)
        ⟨some ⟨g, 0, none⟩, 1, none, 0, QQ.out.1, QQ.out.2.2.2.2.2.1, QQ.out.2.1, World.ownsRow_nil _ _ _ _, QQ.out.2.2.2.2.1, ⟨fun b e h => (by simp [Value.ownBlock] at h; exact QQ.out.2.2.2.2.2.2 b e h.symm), fun b e h => (by cases h), fun b e h => (by cases h)⟩, hbr, Nat.le_refl _, QQ.out.2.2.1⟩
        (fun x a' _ => a' = { tmps := #[cellV c.k c.sh c.fl c.ag (.slice A0 c.sl.length n0) (.slice (some ⟨b, off, none⟩) c.mo.length n2), .slice A3 live.length n3, .pointer (some ⟨w.heap.size, 0, none⟩), undef, .pointer (some ⟨w.heap.size + 1, 0, none⟩), .slice none 0 0, .pointer (some ⟨MB + 1, 0, none⟩), undef, u8, .pointer (some ⟨w3.heap.size, 0, none⟩), .pointer (some ⟨w3.heap.size + 1, 0, none⟩), undef, .slice (some ⟨b, off + (1 + 4 * x.val) * 3, none⟩) 4 4, undef, cellV c.k c.sh c.fl c.ag (.slice A0 c.sl.length n0) (.slice (some ⟨b, off, none⟩) c.mo.length n2), .bool true, .bool false, undef, .slice A3 live.length n3, .int .i64 live.length, .map (some MB), .slice A3 live.length n3, .int .i64 live.length, .int .i64 k, .bool false, u25, u26, u27, u28, u29, cellV c.k c.sh c.fl c.ag (.slice A0 c.sl.length n0) (.slice (some ⟨b, off, none⟩) c.mo.length n2), cellV c.k c.sh c.fl c.ag (.slice A5 c.sl.length n5) (.slice (some ⟨g, 0, none⟩) 1 1), cellV c.k c.sh c.fl c.ag (.slice A0 c.sl.length n0) (.slice (some ⟨b, off, none⟩) c.mo.length n2), .func (.func 40) #[] #[.pointer (some ⟨w3.heap.size + 1 + 1, 0, none⟩)], .int .i64 ((1 + 4 * x.val : Nat) : Int), .slice (some ⟨b, off + (1 + 4 * x.val) * 3, none⟩) 4 4, undef, undef, undef, undef, undef, undef, undef, undef, undef, undef, undef, undef, undef, undef, undef, undef, undef, undef, undef, undef, undef, undef, undef, undef, undef, undef, undef, undef, undef, undef, undef, undef, undef, undef, undef, undef, undef, undef, undef, undef, undef, undef, undef, undef, undef, undef, undef, undef, undef, undef, undef], defers := [] })
        (fun x a' => ownFrom_of fun _ W W' h _ => h) ?assign ?body ?done ?stop
      case assign =>
        rintro l pre x W K hJ hK
        gi_wp2
        exact hK _ _ (KeepsFrom.refl _ _) (KpB.refl _ _ _) hJ rfl
      case stop =>
        rintro D c pre W _ _ h _
        exact h.elim
      case done =>
        rintro D ys W hD rfl ⟨A9, n9, A10, n10, q1, q2, q3, q4, q5, q6, q7, q8, qe⟩ hK
        have lB := q7.size
        have k2 : W.heap[w.heap.size + 1]? = some (cellO 0 0 0 0 (.slice none 0 0) (.slice none 0 0)) := (q7.block _ (by have := N0.out; have := HN.out; omega)).trans PP.out.2.1
        obtain ⟨⟨d0, d1, d2, d3, d4, d5⟩, _⟩ := cells6 q1
        obtain ⟨z0, _⟩ := cells1 q3
        obtain ⟨⟨x0, x1, x2, x3, x4, x5⟩, y0, y1, y2, y3, y4, y5⟩ := cells6 k2
        have INV := Lib.hid (And.intro q1 (And.intro q2 (And.intro q3 (And.intro q4 (And.intro q5 (And.intro q6 (And.intro q7 k2)))))))
        have HD := Lib.hid (And.intro (And.intro hD hK) q8)
        have BW := Lib.hid (PP.out.2.2.2.trans (q7.mono PP.out.2.2.2.size))
        clear q1 q2 q3 q4 q5 q6 q7 q8 k2 hD hK
        go_upto_region 19 with fail
        go_region
        all_goals go_simp
        all_goals go_wp2
        all_goals
          refine post_world (fun W6 => W6.heap[w.heap.size + 1]? = some (cellO c.k c.sh c.fl c.ag (.slice A5 c.sl.length n5) (.slice A9 (keptD L c.mo (List.finRange m)).length n9)) ∧ Touch (fun b => b = w.heap.size + 1) W W6)
            ?_ ?_
          · have hk : W.heap[w.heap.size + 1]? = some (cellO 0 0 0 0 (.slice none 0 0) (.slice none 0 0)) := INV.out.2.2.2.2.2.2.2
            clear INV d0 d1 d2 d3 d4 d5 x0 x1 x2 x3 x4 x5 y0 y1 y2 y3 y4 y5
            refine ⟨?_, Touch.drew ((((((Touch.refl _ _).set1 _ _).set1 _ _).set1 _ _).set1 _ _).set1 _ _ |>.set1 _ _)⟩
            rw [show ∀ X : World, X.drew.heap = X.heap from fun _ => rfl]
            exact heap_setCell_same _ _ _ _ _ _ (heap_setCell_same _ _ _ _ _ _ (heap_setCell_same _ _ _ _ _ _ (heap_setCell_same _ _ _ _ _ _ (heap_setCell_same _ _ _ _ _ _ (heap_setCell_same _ _ _ _ _ _ hk)))))
          rintro W6 ⟨r1, rt⟩
          have nD : D ≠ w.heap.size + 1 := fun e => by have := HD.out.1.2; rw [e, INV.out.2.2.2.2.2.2.2] at this; cases this
          have lD := (Array.getElem?_eq_some_iff.1 HD.out.1.2).1
          have rD := (rt.block D lD nD).trans HD.out.1.2
          have r1' : (W6.putObj D (.deferred none)).heap[w.heap.size + 1]? = some (cellO c.k c.sh c.fl c.ag (.slice A5 c.sl.length n5) (.slice A9 (keptD L c.mo (List.finRange m)).length n9)) := (heap_put _ (Ne.symm nD)).trans r1
          have pD : ∀ {lo' : Nat} {v : Value} {xs : List Val}, OwnV W lo' v xs → lo' = lo → IsV (W6.putObj D (.deferred none)) v xs := by
            intro lo' v xs h e
            refine OwnV.isV (lo := lo') (ownsRow_touch (F := fun b => b = D) (ownsRow_touch h rt (fun g hg e => ?_)) (Touch.put _ _ _) (fun g hg e => ?_))
            · exact own_ne h hg INV.out.2.2.2.2.2.2.2 (by decide) e
            · obtain ⟨cs, t, hh⟩ := owns_cells h hg
              rw [e, HD.out.1.2] at hh
              cases hh
          have f1 := pD INV.out.2.1 rfl
          have f2 := pD INV.out.2.2.2.1 rfl
          have f3 := pD INV.out.2.2.2.2.1 rfl
          have f4 : Below w.heap.size w (W6.putObj D (.deferred none)) := below_put (BW.out.trans (rt.below BW.out.size (fun k e => by omega))) (by have := HD.out.1.1; have := N0.out; have := HN.out; have := LO.out; omega) _
          have FF := Lib.hid (And.intro f3 (And.intro f1 (And.intro f2 f4)))
          clear f1 f2 f3 f4 pD
          obtain ⟨⟨e0, e1, e2, e3, e4, e5⟩, _⟩ := cells6 r1'
          refine marks_ret1 rD (v := .tuple #[cellV c.k c.sh c.fl c.ag (.slice A5 c.sl.length n5) (.slice A9 (keptD L c.mo (List.finRange m)).length n9), .slice A10 (toldsD L c.mo (List.finRange m)).length n10]) ?_ rfl ⟨_, _, _, rfl, FF.out.1, FF.out.2.1, FF.out.2.2.1, FF.out.2.2.2⟩
          clear r1 rt rD r1' nD lD
          simp [results, Try.results10, go_sem, *]
      case body =>
        rintro l pre x a' W hl hr ⟨A9, n9, A10, n10, q1, q2, q3, q4, q5, q6, q7, q8, qe⟩ rfl hlt
        have hx := x.isLt
        have lB := q7.size
        have hmo := HM.out
        have kt : W.heap[MB + 1]? = some (.cells #[.map (some MB)] 48) := (q7.block _ HN.out.2).trans PP.out.2.2.1
        have k0 : W.heap[w.heap.size]? = some (cellO c.k c.sh c.fl c.ag (.slice A0 c.sl.length n0) (.slice (some ⟨b, off, none⟩) c.mo.length n2)) := (q7.block _ (by have := N0.out; have := HN.out; omega)).trans PP.out.1
        have MS := MM.out.below q7
        have HV := J2.out.below q7
        obtain ⟨t0, _⟩ := cells1 kt
        obtain ⟨⟨_, _, _, _, _, a5⟩, _⟩ := cells6 k0
        obtain ⟨hb, c00, c01, c02⟩ := HV.v3 (1 + 4 * x.val) (by omega)
        have hbr2 := (J2.out.v3 0 (by omega)).1
        obtain ⟨_, c10, c11, c12⟩ := HV.v3 (1 + 4 * x.val + 1) (by omega)
        obtain ⟨_, c20, c21, c22⟩ := HV.v3 (1 + 4 * x.val + 2) (by omega)
        obtain ⟨_, c30, c31, c32⟩ := HV.v3 (1 + 4 * x.val + 3) (by omega)
        obtain ⟨_, v00, v01, v02⟩ := HV.v3 0 (by omega)
        rw [Nat.zero_mul, Nat.add_zero] at v00 v01 v02
        rw [Nat.add_mul (1 + 4 * x.val), ← Nat.add_assoc] at c10 c11 c12 c20 c21 c22 c30 c31 c32
        have i0 := Lib.hid (ok_at OK.out.2.2.2.2.2 (1 + 4 * x.val) (by omega)).2.1
        have i2 := Lib.hid (ok_at OK.out.2.2.2.2.2 (1 + 4 * x.val + 2) (by omega)).2.1
        obtain ⟨z0, z1⟩ := cells1 q3
        obtain ⟨⟨_, _, _, _, _, d5⟩, _, _, _, _, _, f5⟩ := cells6 q1
        have l9 : w3.heap.size < W.heap.size := by omega
        have l10 : w3.heap.size + 1 < W.heap.size := by omega
        have lT : MB + 1 < W.heap.size := Nat.lt_of_lt_of_le HN.out.2 lB
        have lC : w.heap.size < W.heap.size := (Array.getElem?_eq_some_iff.1 k0).1
        have KD := Lib.hid (keptD_snoc L c.mo pre x)
        have TD := Lib.hid (toldsD_snoc L c.mo pre x)
        have KL := (keptD_len L c.mo pre).1
        have TL := toldsD_len L c.mo pre
        have MSh := Lib.hid MS
        have INV := Lib.hid (And.intro q1 (And.intro q2 (And.intro q3 (And.intro q4 (And.intro q5 (And.intro q6 (And.intro q7 (And.intro q8 qe))))))))
        clear q1 q2 q3 q4 q5 q6 q7 q8 qe kt k0 MS HV hl hr
        generalize hq : 1 + 4 * x.val = q at *
        unfold keepD tokD at KD
        unfold toldD at TD
        rw [hq] at KD TD
        generalize vAt c.mo q = x0 at *
        generalize vAt c.mo (q + 1) = x1 at *
        generalize vAt c.mo (q + 2) = x2 at *
        generalize vAt c.mo (q + 3) = x3 at *
        generalize vAt c.mo 0 = v0 at *
        generalize keptD L c.mo pre = ks at *
        generalize toldsD L c.mo pre = ts at *
        have q6 : q ≤ 4001 := by omega
        have hm0 : 0 < c.mo.length := by omega
        have hpre : pre.length ≤ 1000 := by omega
        clear hq hmo hx
        gi_upto_region 13 with fail
        cases hlv : L x0.n
        · rw [hlv] at KD TD
          simp only [cond_false, List.append_nil] at KD TD
          have HLV := Lib.hid hlv
          clear hlv
          refine wpIn_region_held (fun w' => w'.cell? ⟨MB + 1, 0, none⟩ = some (.map (some MB)) ∧ w'.cell? ⟨b, off + q * 3 + 1, none⟩ = some (.int .i64 x0.n) ∧ (Instr.lookup 48 (.map (some MB)) (.int .i64 x0.n) false).run Try.prog w' = .ok (.bool false) w') _ Try.mixed (by simp)
            ⟨t0, c01, (by have := (MSh.out.block (w' := W.drew) rfl).look i0.out; rw [HLV.out] at this; exact this)⟩ (fun hS => ?_) (fun _ _ h => h)
          ((refine wpAnyH_take (i := 0) (v := ?_) rfl (by kernel_rfl) (by kernel_rfl) (by kernel_rfl) (fun _ _ _ h => (by cases h.1)) (Or.inl ⟨by rfl, ?_⟩) (by assumption) ?_; rotate_left; (next => ((intro w hSw; (try dsimp only at hSw); go_simp) <;> with_reducible rfl)); (try simp only [Act.put, List.setIfInBounds_toArray, List.set_cons_zero, List.set_cons_succ])); (refine wpAnyH_take (i := 1) (v := ?_) rfl (by kernel_rfl) (by kernel_rfl) (by kernel_rfl) (fun _ _ _ h => (by cases h.1)) (Or.inl ⟨by rfl, ?_⟩) (by assumption) ?_; rotate_left; (next => ((intro w hSw; (try dsimp only at hSw); go_simp) <;> with_reducible rfl)); (try simp only [Act.put, List.setIfInBounds_toArray, List.set_cons_zero, List.set_cons_succ])); (refine wpAnyH_take (i := 2) (v := ?_) rfl (by kernel_rfl) (by kernel_rfl) (by kernel_rfl) (fun _ _ _ h => (by cases h.1)) (Or.inl ⟨by rfl, ?_⟩) (by assumption) ?_; rotate_left; (next => ((intro w hSw; (try dsimp only at hSw); go_simp) <;> with_reducible rfl)); (try simp only [Act.put, List.setIfInBounds_toArray, List.set_cons_zero, List.set_cons_succ])); (refine wpAnyH_take (i := 3) (v := ?_) rfl (by kernel_rfl) (by kernel_rfl) (by kernel_rfl) (fun _ _ _ h => (by cases h.1)) (Or.inl ⟨by rfl, ?_⟩) (by assumption) ?_; rotate_left; (next => ((intro w hSw; (try dsimp only at hSw); go_simp) <;> with_reducible rfl)); (try simp only [Act.put, List.setIfInBounds_toArray, List.set_cons_zero, List.set_cons_succ])); (refine wpAnyH_take (i := 4) (v := ?_) rfl (by kernel_rfl) (by kernel_rfl) (by kernel_rfl) (fun _ _ _ h => (by cases h.1)) (Or.inl ⟨by rfl, ?_⟩) (by assumption) ?_; rotate_left; (next => ((intro w hSw; (try dsimp only at hSw); go_simp) <;> with_reducible rfl)); (try simp only [Act.put, List.setIfInBounds_toArray, List.set_cons_zero, List.set_cons_succ])); (refine wpAnyH_take (i := 5) (v := ?_) rfl (by kernel_rfl) (by kernel_rfl) (by kernel_rfl) (fun _ _ _ h => (by cases h.1)) (Or.inl ⟨by rfl, ?_⟩) (by assumption) ?_; rotate_left; (next => ((intro w hSw; (try dsimp only at hSw); go_simp) <;> with_reducible rfl)); (try simp only [Act.put, List.setIfInBounds_toArray, List.set_cons_zero, List.set_cons_succ])); (refine wpAnyH_take (i := 6) (v := ?_) rfl (by kernel_rfl) (by kernel_rfl) (by kernel_rfl) (fun _ _ _ h => (by cases h.1)) (Or.inl ⟨by rfl, ?_⟩) (by assumption) ?_; rotate_left; (next => ((intro w hSw; (try dsimp only at hSw); go_simp) <;> with_reducible rfl)); (try simp only [Act.put, List.setIfInBounds_toArray, List.set_cons_zero, List.set_cons_succ])))
          refine wpAnyH_done (by kernel_rfl) ⟨rfl, ?_⟩ _
          go_simp
          gi_upto_region 14 with fail
          have SK : ∀ Z, Touch (fun k => Value.ownBlock (.slice A10 ts.length n10) = some k ∨ k = w3.heap.size + 1) W Z → (∀ o, Z.cell? ⟨w.heap.size, o, none⟩ = W.cell? ⟨w.heap.size, o, none⟩) ∧ (∀ o, Z.cell? ⟨b, o, none⟩ = W.cell? ⟨b, o, none⟩) := by
            intro Z hT
            refine ⟨fun o => hT.cell lC ?_, fun o => hT.cell hb ?_⟩
            · rintro (h | h)
              · have := (INV.out.2.2.2.1.lt _ h).1; have := LO.out; have := N0.out; have := HN.out; omega
              · have := LO.out; have := N0.out; have := HN.out; omega
            · rintro (h | h)
              · have := (INV.out.2.2.2.1.lt _ h).1; have := LO.out; omega
              · have := LO.out; omega
          have SKh := Lib.hid SK
          clear SK
          have TO := Lib.hid (show ∀ (g7 n7 : Nat) (w7 : World), OwnV w7 lo (.slice (some ⟨g7, 0, none⟩) (ts ++ [v0, x1, x3]).length n7) (ts ++ [v0, x1, x3]) → Touch (fun k => Value.ownBlock (.slice A10 ts.length n10) = some k ∨ k = w3.heap.size + 1) W w7 →
              w7.heap[w3.heap.size + 1]? = some (.cells #[.slice A10 ts.length n10] 22) → (Value.ownBlock (.slice A10 ts.length n10) = some g7 ∨ W.heap.size ≤ g7) →
              ∀ W8, W8 = w7.setCell ⟨w3.heap.size + 1, 0, none⟩ (.slice (some ⟨g7, 0, none⟩) (ts ++ [v0, x1, x3]).length n7) →
              KeepsFrom w4.heap.size W W8 ∧ KpB wr.heap.size (w3.heap.size + 1 + 1) W W8 ∧ ∃ A9 n9 A10 n10, W8.heap[w3.heap.size]? = some (cellO c.k c.sh c.fl c.ag (.slice A5 c.sl.length n5) (.slice A9 (keptD L c.mo (pre ++ [x])).length n9)) ∧ OwnV W8 lo (.slice A9 (keptD L c.mo (pre ++ [x])).length n9) (keptD L c.mo (pre ++ [x])) ∧
                W8.heap[w3.heap.size + 1]? = some (.cells #[.slice A10 (toldsD L c.mo (pre ++ [x])).length n10] 22) ∧ OwnV W8 lo (.slice A10 (toldsD L c.mo (pre ++ [x])).length n10) (toldsD L c.mo (pre ++ [x])) ∧ OwnV W8 lo (.slice A5 c.sl.length n5) c.sl ∧
                ((∀ b, Value.ownBlock (.slice A5 c.sl.length n5) = some b → Value.ownBlock (.slice A9 (keptD L c.mo (pre ++ [x])).length n9) ≠ some b) ∧ (∀ b, Value.ownBlock (.slice A5 c.sl.length n5) = some b → Value.ownBlock (.slice A10 (toldsD L c.mo (pre ++ [x])).length n10) ≠ some b) ∧
                  (∀ b, Value.ownBlock (.slice A9 (keptD L c.mo (pre ++ [x])).length n9) = some b → Value.ownBlock (.slice A10 (toldsD L c.mo (pre ++ [x])).length n10) ≠ some b)) ∧ Below wr.heap.size wr W8 ∧ w4.heap.size ≤ W8.heap.size ∧ W8.heap[w3.heap.size + 1 + 1]? = some (cellO c.k c.sh c.fl c.ag (.slice A0 c.sl.length n0) (.slice (some ⟨b, off, none⟩) c.mo.length n2)) by
            rintro g7 n7 w7 o7 T7 k10 gg W8 rfl
            obtain ⟨q1, q2, q3, q4, q5, ⟨u1, u2, u3⟩, q7, q8, qe⟩ := INV.out
            have T8 := T7.set (p := ⟨w3.heap.size + 1, 0, none⟩) (.inl (.inr rfl)) (.slice (some ⟨g7, 0, none⟩) (ts ++ [v0, x1, x3]).length n7)
            have lo4 : lo ≤ w3.heap.size := by have := LO.out; omega
            have F1 : ∀ k, (Value.ownBlock (.slice A10 ts.length n10) = some k ∨ k = w3.heap.size + 1) → lo ≤ k := fun k h => by
              rcases h with h | h
              · exact (q4.lt _ h).1
              · omega
            have far : ∀ g, g < W.heap.size → Value.ownBlock (.slice A10 ts.length n10) ≠ some g → g ≠ g7 := fun g h1 h2 e => by
              rcases gg with h | h
              · exact h2 (e ▸ h)
              · omega
            rw [KD.out, TD.out]
            refine ⟨keeps_touch T8 (fun k hk => ?_), KpB.touch T8 (by have := q7.size; omega) (fun k hk => ?_) (by have := LO.out; omega), A9, n9, some ⟨g7, 0, none⟩, n7, ?_, ?_, heap_setCell_same _ _ _ _ _ _ k10, ?_, ?_, ⟨u1, ?_, ?_⟩, ?_, Nat.le_trans q8 T8.size, (T8.block _ (by have := LO.out; omega) (fun e => by rcases e with e | e; exact own_ne q4 e qe (by decide) rfl; omega)).trans qe⟩
            · rcases hk with hk | rfl
              · exact owns_cells q4 hk
              · exact ⟨_, _, q3⟩
            · refine ⟨by have := F1 k hk; have := LO.out; omega, ?_⟩
              rcases hk with hk | hk
              · exact own_ne q4 hk qe (by decide)
              · omega
            · refine (T8.block _ l9 ?_).trans q1
              rintro (h | h)
              · exact own_ne q4 h q1 (by decide) rfl
              · omega
            · refine ownsRow_touch q2 T8 (fun g hg e => ?_)
              rcases e with e | e
              · exact u3 g hg e
              · exact own_ne q2 hg q3 (by decide) e
            · exact ownsRow_touch o7 ((Touch.refl (fun b => b = w3.heap.size + 1) w7).set1 0 _) (fun g hg e => own_ne o7 hg k10 (by decide) e)
            · refine ownsRow_touch q5 T8 (fun g hg e => ?_)
              rcases e with e | e
              · exact u2 g hg e
              · exact own_ne q5 hg q3 (by decide) e
            · intro b hb1 hb2
              simp only [Value.ownBlock, Option.some.injEq] at hb2
              exact far b (q5.lt _ hb1).2 (u2 b hb1) hb2.symm
            · intro b hb1 hb2
              simp only [Value.ownBlock, Option.some.injEq] at hb2
              exact far b (q2.lt _ hb1).2 (u3 b hb1) hb2.symm
            · exact q7.trans (T8.below q7.size (fun k hk => by have := F1 k hk; have := LO.out; omega)))
          refine wpIn_region_held (fun Z => (∀ o, Z.cell? ⟨w.heap.size, o, none⟩ = W.cell? ⟨w.heap.size, o, none⟩) ∧ (∀ o, Z.cell? ⟨b, o, none⟩ = W.cell? ⟨b, o, none⟩)) _ Try.mixed (by simp) ⟨fun _ => rfl, fun _ => rfl⟩ (fun hS => ?_) (fun _ _ h => h)
          ((refine wpAnyH_take (i := 1) (v := ?_) rfl (by kernel_rfl) (by kernel_rfl) (by kernel_rfl) (fun _ _ _ h => (by cases h.1)) (Or.inl ⟨by rfl, ?_⟩) (by assumption) ?_; rotate_left; (next => ((intro w hSw; (try dsimp only at hSw); go_simp) <;> with_reducible rfl)); (try simp only [Act.put, List.setIfInBounds_toArray, List.set_cons_zero, List.set_cons_succ])); (refine wpAnyH_take (i := 2) (v := ?_) rfl (by kernel_rfl) (by kernel_rfl) (by kernel_rfl) (fun _ _ _ h => (by cases h.1)) (Or.inl ⟨by rfl, ?_⟩) (by assumption) ?_; rotate_left; (next => ((intro w hSw; (try dsimp only at hSw); go_simp) <;> with_reducible rfl)); (try simp only [Act.put, List.setIfInBounds_toArray, List.set_cons_zero, List.set_cons_succ])); (refine wpAnyH_take (i := 3) (v := ?_) rfl (by kernel_rfl) (by kernel_rfl) (by kernel_rfl) (fun _ _ _ h => (by cases h.1)) (Or.inl ⟨by rfl, ?_⟩) (by assumption) ?_; rotate_left; (next => ((intro w hSw; (try dsimp only at hSw); go_simp) <;> with_reducible rfl)); (try simp only [Act.put, List.setIfInBounds_toArray, List.set_cons_zero, List.set_cons_succ])); (refine wpAnyH_take (i := 4) (v := ?_) rfl (by kernel_rfl) (by kernel_rfl) (by kernel_rfl) (fun _ _ _ h => (by cases h.1)) (Or.inl ⟨by rfl, ?_⟩) (by assumption) ?_; rotate_left; (next => ((intro w hSw; (try dsimp only at hSw); go_simp) <;> with_reducible rfl)); (try simp only [Act.put, List.setIfInBounds_toArray, List.set_cons_zero, List.set_cons_succ])); (refine wpAnyH_take (i := 5) (v := ?_) rfl (by kernel_rfl) (by kernel_rfl) (by kernel_rfl) (fun _ _ _ h => (by cases h.1)) (Or.inl ⟨by rfl, ?_⟩) (by assumption) ?_; rotate_left; (next => ((intro w hSw; (try dsimp only at hSw); go_simp) <;> with_reducible rfl)); (try simp only [Act.put, List.setIfInBounds_toArray, List.set_cons_zero, List.set_cons_succ])); (refine wpAnyH_take (i := 6) (v := ?_) rfl (by kernel_rfl) (by kernel_rfl) (by kernel_rfl) (fun _ _ _ h => (by cases h.1)) (Or.inl ⟨by rfl, ?_⟩) (by assumption) ?_; rotate_left; (next => ((intro w hSw; (try dsimp only at hSw); go_simp) <;> with_reducible rfl)); (try simp only [Act.put, List.setIfInBounds_toArray, List.set_cons_zero, List.set_cons_succ])); (refine wpAnyH_take (i := 7) (v := ?_) rfl (by kernel_rfl) (by kernel_rfl) (by kernel_rfl) (fun _ _ _ h => (by cases h.1)) (Or.inl ⟨by rfl, ?_⟩) (by assumption) ?_; rotate_left; (next => ((intro w hSw; (try dsimp only at hSw); go_simp) <;> with_reducible rfl)); (try simp only [Act.put, List.setIfInBounds_toArray, List.set_cons_zero, List.set_cons_succ])); (refine wpAnyH_take (i := 8) (v := ?_) rfl (by kernel_rfl) (by kernel_rfl) (by kernel_rfl) (fun _ _ _ h => (by cases h.1)) (Or.inl ⟨by rfl, ?_⟩) (by assumption) ?_; rotate_left; (next => ((intro w hSw; (try dsimp only at hSw); go_simp) <;> with_reducible rfl)); (try simp only [Act.put, List.setIfInBounds_toArray, List.set_cons_zero, List.set_cons_succ])); (refine wpAnyH_take (i := 9) (v := ?_) rfl (by kernel_rfl) (by kernel_rfl) (by kernel_rfl) (fun _ _ _ h => (by cases h.1)) (Or.inl ⟨by rfl, ?_⟩) (by assumption) ?_; rotate_left; (next => ((intro w hSw; (try dsimp only at hSw); go_simp) <;> with_reducible rfl)); (try simp only [Act.put, List.setIfInBounds_toArray, List.set_cons_zero, List.set_cons_succ])); (refine wpAnyH_take (i := 10) (v := ?_) rfl (by kernel_rfl) (by kernel_rfl) (by kernel_rfl) (fun _ _ _ h => (by cases h.1)) (Or.inl ⟨by rfl, ?_⟩) (by assumption) ?_; rotate_left; (next => ((intro w hSw; (try dsimp only at hSw); go_simp) <;> with_reducible rfl)); (try simp only [Act.put, List.setIfInBounds_toArray, List.set_cons_zero, List.set_cons_succ])))
          refine wpAnyH_ready (rs := [0, 11]) (by kernel_rfl) (by simp) ?_
          refine AllReadyH.cons rfl (fun K hK => ?_) (AllReadyH.cons rfl (fun K hK => ?_) AllReadyH.nil)
          · go_simp
            refine hK.out _ _ hS (fun hS => ?_)
            clear hK
            refine wpAnyH_ready (rs := [11]) (by kernel_rfl) (by simp) ?_
            refine AllReadyH.cons rfl (fun K hK => ?_) AllReadyH.nil
            go_simp
            have TZ := Lib.hid (show Touch (fun _ => False) W (W.drew.drew.alloc (.cells (flat Val.cs [v0, x1, x3]).toArray 34)) from (((Touch.refl _ _).drew).drew).alloc _)
            have BZ := Lib.hid (show (W.drew.drew.alloc (.cells (flat Val.cs [v0, x1, x3]).toArray 34)).heap[W.heap.size]? = some (.cells (flat Val.cs [v0, x1, x3]).toArray 34) from heap_alloc_new W.drew.drew _)
            refine hK.out _ _ (SKh.out _ (TZ.out.mono (fun _ _ h => h.elim))) (fun hS => ?_)
            clear hK
            refine wpAnyH_ready (rs := [12]) (by kernel_rfl) (by simp) ?_
            refine AllReadyH.cons rfl (fun K hK => ?_) AllReadyH.nil
            refine step_appL lo rfl (.tmp 43) (.tmp 54) rfl ts [v0, x1, x3] (yv := .slice A10 ts.length n10) (m := 3) (by simp [Act.eval, Act.put]) (by simp [Act.eval, Act.put]; rfl) rfl (by omega) ?_ (ownsRow_touch INV.out.2.2.2.1 TZ.out (fun _ _ h => h)) ?_ (by omega) ?_
            · exact Nat.le_trans (by have := LO.out; have := INV.out.2.2.2.2.2.2.1.size; omega) TZ.out.size
            · exact BZ.out
            intro g7 n7 w7 o7 t7 gg7
            have T7 : Touch (fun k => Value.ownBlock (.slice A10 ts.length n10) = some k ∨ k = w3.heap.size + 1) W w7 := (TZ.out.mono (fun _ _ h => h.elim)).trans t7 (fun _ _ h => .inl h)
            refine hK.out _ _ (SKh.out _ T7) (fun hS => ?_)
            clear hK
            have k10 : w7.heap[w3.heap.size + 1]? = some (.cells #[.slice A10 ts.length n10] 22) := (t7.block _ (Nat.lt_of_lt_of_le l10 TZ.out.size) (fun e => own_ne INV.out.2.2.2.1 e INV.out.2.2.1 (by decide) rfl)).trans ((TZ.out.block _ l10 (fun h => h)).trans INV.out.2.2.1)
            obtain ⟨s0, s1⟩ := cells1 k10
            have R7 := Lib.hid (And.intro o7 (And.intro T7 (And.intro gg7 k10)))
            clear o7 t7 T7 gg7 k10
            refine wpAnyH_ready (rs := [13]) (by kernel_rfl) (by simp) ?_
            refine AllReadyH.cons rfl (fun K hK => ?_) AllReadyH.nil
            go_simp
            have T8 := R7.out.2.1.set (p := ⟨w3.heap.size + 1, 0, none⟩) (.inl (.inr rfl)) (.slice (some ⟨g7, 0, none⟩) (ts ++ [v0, x1, x3]).length n7)
            have e8 : (ts ++ [v0, x1, x3]).length = ts.length + 3 := by simp
            have T8' := Lib.hid T8
            rw [e8] at T8
            refine hK.out _ _ (SKh.out _ T8) (fun hS => ?_)
            clear hK T8
            refine wpAnyH_done (by kernel_rfl) ⟨rfl, ?_⟩ _
            go_simp
            have FIN := Lib.hid (TO.out g7 n7 w7 R7.out.1 R7.out.2.1 R7.out.2.2.2 (by rcases R7.out.2.2.1 with h | h; exact .inl h; exact .inr (by rw [h]; exact TZ.out.size)))
            gi_wp2
            exact FIN.out _ (by rw [e8])
          · go_simp
            have TZ := Lib.hid (show Touch (fun _ => False) W (W.drew.drew.alloc (.cells (flat Val.cs [v0, x1, x3]).toArray 34)) from (((Touch.refl _ _).drew).drew).alloc _)
            have BZ := Lib.hid (show (W.drew.drew.alloc (.cells (flat Val.cs [v0, x1, x3]).toArray 34)).heap[W.heap.size]? = some (.cells (flat Val.cs [v0, x1, x3]).toArray 34) from heap_alloc_new W.drew.drew _)
            refine hK.out _ _ (SKh.out _ (TZ.out.mono (fun _ _ h => h.elim))) (fun hS => ?_)
            clear hK
            refine wpAnyH_ready (rs := [0]) (by kernel_rfl) (by simp) ?_
            refine AllReadyH.cons rfl (fun K hK => ?_) AllReadyH.nil
            go_simp
            refine hK.out _ _ hS (fun hS => ?_)
            clear hK
            refine wpAnyH_ready (rs := [12]) (by kernel_rfl) (by simp) ?_
            refine AllReadyH.cons rfl (fun K hK => ?_) AllReadyH.nil
            refine step_appL lo rfl (.tmp 43) (.tmp 54) rfl ts [v0, x1, x3] (yv := .slice A10 ts.length n10) (m := 3) (by simp [Act.eval, Act.put]) (by simp [Act.eval, Act.put]; rfl) rfl (by omega) ?_ (ownsRow_touch INV.out.2.2.2.1 TZ.out (fun _ _ h => h)) ?_ (by omega) ?_
            · exact Nat.le_trans (by have := LO.out; have := INV.out.2.2.2.2.2.2.1.size; omega) TZ.out.size
            · exact BZ.out
            intro g7 n7 w7 o7 t7 gg7
            have T7 : Touch (fun k => Value.ownBlock (.slice A10 ts.length n10) = some k ∨ k = w3.heap.size + 1) W w7 := (TZ.out.mono (fun _ _ h => h.elim)).trans t7 (fun _ _ h => .inl h)
            refine hK.out _ _ (SKh.out _ T7) (fun hS => ?_)
            clear hK
            have k10 : w7.heap[w3.heap.size + 1]? = some (.cells #[.slice A10 ts.length n10] 22) := (t7.block _ (Nat.lt_of_lt_of_le l10 TZ.out.size) (fun e => own_ne INV.out.2.2.2.1 e INV.out.2.2.1 (by decide) rfl)).trans ((TZ.out.block _ l10 (fun h => h)).trans INV.out.2.2.1)
            obtain ⟨s0, s1⟩ := cells1 k10
            have R7 := Lib.hid (And.intro o7 (And.intro T7 (And.intro gg7 k10)))
            clear o7 t7 T7 gg7 k10
            refine wpAnyH_ready (rs := [13]) (by kernel_rfl) (by simp) ?_
            refine AllReadyH.cons rfl (fun K hK => ?_) AllReadyH.nil
            go_simp
            have T8 := R7.out.2.1.set (p := ⟨w3.heap.size + 1, 0, none⟩) (.inl (.inr rfl)) (.slice (some ⟨g7, 0, none⟩) (ts ++ [v0, x1, x3]).length n7)
            have e8 : (ts ++ [v0, x1, x3]).length = ts.length + 3 := by simp
            have T8' := Lib.hid T8
            rw [e8] at T8
            refine hK.out _ _ (SKh.out _ T8) (fun hS => ?_)
            clear hK T8
            refine wpAnyH_done (by kernel_rfl) ⟨rfl, ?_⟩ _
            go_simp
            have FIN := Lib.hid (TO.out g7 n7 w7 R7.out.1 R7.out.2.1 R7.out.2.2.2 (by rcases R7.out.2.2.1 with h | h; exact .inl h; exact .inr (by rw [h]; exact TZ.out.size)))
            gi_wp2
            exact FIN.out _ (by rw [e8])
        · rw [hlv] at KD TD
          simp only [cond_true, List.append_nil] at KD TD
          have HLV := Lib.hid hlv
          clear hlv
          have TO2 := Lib.hid (show ∀ (tk : Val), keptD L c.mo (pre ++ [x]) = ks ++ [x0, x1, tk, x3] → ∀ (g7 n7 : Nat) (w7 : World), OwnV w7 lo (.slice (some ⟨g7, 0, none⟩) (ks ++ [x0, x1, tk, x3]).length n7) (ks ++ [x0, x1, tk, x3]) → Touch (fun k => Value.ownBlock (.slice A9 ks.length n9) = some k ∨ k = w3.heap.size) W w7 →
              w7.heap[w3.heap.size]? = some (cellO c.k c.sh c.fl c.ag (.slice A5 c.sl.length n5) (.slice A9 ks.length n9)) → (Value.ownBlock (.slice A9 ks.length n9) = some g7 ∨ W.heap.size ≤ g7) →
              ∀ W8, W8 = w7.setCell ⟨w3.heap.size, 5, none⟩ (.slice (some ⟨g7, 0, none⟩) (ks ++ [x0, x1, tk, x3]).length n7) →
              KeepsFrom w4.heap.size W W8 ∧ KpB wr.heap.size (w3.heap.size + 1 + 1) W W8 ∧ ∃ A9 n9 A10 n10, W8.heap[w3.heap.size]? = some (cellO c.k c.sh c.fl c.ag (.slice A5 c.sl.length n5) (.slice A9 (keptD L c.mo (pre ++ [x])).length n9)) ∧ OwnV W8 lo (.slice A9 (keptD L c.mo (pre ++ [x])).length n9) (keptD L c.mo (pre ++ [x])) ∧
                W8.heap[w3.heap.size + 1]? = some (.cells #[.slice A10 (toldsD L c.mo (pre ++ [x])).length n10] 22) ∧ OwnV W8 lo (.slice A10 (toldsD L c.mo (pre ++ [x])).length n10) (toldsD L c.mo (pre ++ [x])) ∧ OwnV W8 lo (.slice A5 c.sl.length n5) c.sl ∧
                ((∀ b, Value.ownBlock (.slice A5 c.sl.length n5) = some b → Value.ownBlock (.slice A9 (keptD L c.mo (pre ++ [x])).length n9) ≠ some b) ∧ (∀ b, Value.ownBlock (.slice A5 c.sl.length n5) = some b → Value.ownBlock (.slice A10 (toldsD L c.mo (pre ++ [x])).length n10) ≠ some b) ∧
                  (∀ b, Value.ownBlock (.slice A9 (keptD L c.mo (pre ++ [x])).length n9) = some b → Value.ownBlock (.slice A10 (toldsD L c.mo (pre ++ [x])).length n10) ≠ some b)) ∧ Below wr.heap.size wr W8 ∧ w4.heap.size ≤ W8.heap.size ∧ W8.heap[w3.heap.size + 1 + 1]? = some (cellO c.k c.sh c.fl c.ag (.slice A0 c.sl.length n0) (.slice (some ⟨b, off, none⟩) c.mo.length n2)) by
            rintro tk KD' g7 n7 w7 o7 T7 k9 gg W8 rfl
            obtain ⟨q1, q2, q3, q4, q5, ⟨u1, u2, u3⟩, q7, q8, qe⟩ := INV.out
            have T8 := T7.set (p := ⟨w3.heap.size, 5, none⟩) (.inl (.inr rfl)) (.slice (some ⟨g7, 0, none⟩) (ks ++ [x0, x1, tk, x3]).length n7)
            have lo4 : lo ≤ w3.heap.size := by have := LO.out; omega
            have F1 : ∀ k, (Value.ownBlock (.slice A9 ks.length n9) = some k ∨ k = w3.heap.size) → lo ≤ k := fun k h => by
              rcases h with h | h
              · exact (q2.lt _ h).1
              · omega
            have far : ∀ g, g < W.heap.size → Value.ownBlock (.slice A9 ks.length n9) ≠ some g → g ≠ g7 := fun g h1 h2 e => by
              rcases gg with h | h
              · exact h2 (e ▸ h)
              · omega
            rw [KD', TD.out]
            refine ⟨keeps_touch T8 (fun k hk => ?_), KpB.touch T8 (by have := q7.size; omega) (fun k hk => ?_) (by have := LO.out; omega), some ⟨g7, 0, none⟩, n7, A10, n10, heap_setCell_same _ _ _ _ _ _ k9, ?_, ?_, ?_, ?_, ⟨?_, u2, ?_⟩, ?_, Nat.le_trans q8 T8.size, (T8.block _ (by have := LO.out; omega) (fun e => by rcases e with e | e; exact own_ne q2 e qe (by decide) rfl; omega)).trans qe⟩
            · rcases hk with hk | rfl
              · exact owns_cells q2 hk
              · exact ⟨_, _, q1⟩
            · refine ⟨by have := F1 k hk; have := LO.out; omega, ?_⟩
              rcases hk with hk | hk
              · exact own_ne q2 hk qe (by decide)
              · omega
            · exact ownsRow_touch o7 ((Touch.refl (fun b => b = w3.heap.size) w7).set1 5 _) (fun g hg e => own_ne o7 hg k9 (by decide) e)
            · refine (T8.block _ l10 ?_).trans q3
              rintro (h | h)
              · exact own_ne q2 h q3 (by decide) rfl
              · omega
            · refine ownsRow_touch q4 T8 (fun g hg e => ?_)
              rcases e with e | e
              · exact u3 g e hg
              · exact own_ne q4 hg q1 (by decide) e
            · refine ownsRow_touch q5 T8 (fun g hg e => ?_)
              rcases e with e | e
              · exact u1 g hg e
              · exact own_ne q5 hg q1 (by decide) e
            · intro b hb1 hb2
              simp only [Value.ownBlock, Option.some.injEq] at hb2
              exact far b (q5.lt _ hb1).2 (u1 b hb1) hb2.symm
            · intro b hb1 hb2
              simp only [Value.ownBlock, Option.some.injEq] at hb1
              subst hb1
              rcases gg with h | h
              · exact u3 _ h hb2
              · have := (q4.lt _ hb2).2
                omega
            · exact q7.trans (T8.below q7.size (fun k hk => by have := F1 k hk; have := LO.out; omega)))
          refine wpIn_region_held (fun w' => w'.cell? ⟨MB + 1, 0, none⟩ = some (.map (some MB)) ∧ w'.cell? ⟨b, off + q * 3 + 1, none⟩ = some (.int .i64 x0.n) ∧ (Instr.lookup 48 (.map (some MB)) (.int .i64 x0.n) false).run Try.prog w' = .ok (.bool true) w') _ Try.mixed (by simp)
            ⟨t0, c01, (by have := (MSh.out.block (w' := W.drew) rfl).look i0.out; rw [HLV.out] at this; exact this)⟩ (fun hS => ?_) (fun _ _ h => h)
          ((refine wpAnyH_take (i := 0) (v := ?_) rfl (by kernel_rfl) (by kernel_rfl) (by kernel_rfl) (fun _ _ _ h => (by cases h.1)) (Or.inl ⟨by rfl, ?_⟩) (by assumption) ?_; rotate_left; (next => ((intro w hSw; (try dsimp only at hSw); go_simp) <;> with_reducible rfl)); (try simp only [Act.put, List.setIfInBounds_toArray, List.set_cons_zero, List.set_cons_succ])); (refine wpAnyH_take (i := 1) (v := ?_) rfl (by kernel_rfl) (by kernel_rfl) (by kernel_rfl) (fun _ _ _ h => (by cases h.1)) (Or.inl ⟨by rfl, ?_⟩) (by assumption) ?_; rotate_left; (next => ((intro w hSw; (try dsimp only at hSw); go_simp) <;> with_reducible rfl)); (try simp only [Act.put, List.setIfInBounds_toArray, List.set_cons_zero, List.set_cons_succ])); (refine wpAnyH_take (i := 2) (v := ?_) rfl (by kernel_rfl) (by kernel_rfl) (by kernel_rfl) (fun _ _ _ h => (by cases h.1)) (Or.inl ⟨by rfl, ?_⟩) (by assumption) ?_; rotate_left; (next => ((intro w hSw; (try dsimp only at hSw); go_simp) <;> with_reducible rfl)); (try simp only [Act.put, List.setIfInBounds_toArray, List.set_cons_zero, List.set_cons_succ])); (refine wpAnyH_take (i := 3) (v := ?_) rfl (by kernel_rfl) (by kernel_rfl) (by kernel_rfl) (fun _ _ _ h => (by cases h.1)) (Or.inl ⟨by rfl, ?_⟩) (by assumption) ?_; rotate_left; (next => ((intro w hSw; (try dsimp only at hSw); go_simp) <;> with_reducible rfl)); (try simp only [Act.put, List.setIfInBounds_toArray, List.set_cons_zero, List.set_cons_succ])); (refine wpAnyH_take (i := 4) (v := ?_) rfl (by kernel_rfl) (by kernel_rfl) (by kernel_rfl) (fun _ _ _ h => (by cases h.1)) (Or.inl ⟨by rfl, ?_⟩) (by assumption) ?_; rotate_left; (next => ((intro w hSw; (try dsimp only at hSw); go_simp) <;> with_reducible rfl)); (try simp only [Act.put, List.setIfInBounds_toArray, List.set_cons_zero, List.set_cons_succ])); (refine wpAnyH_take (i := 5) (v := ?_) rfl (by kernel_rfl) (by kernel_rfl) (by kernel_rfl) (fun _ _ _ h => (by cases h.1)) (Or.inl ⟨by rfl, ?_⟩) (by assumption) ?_; rotate_left; (next => ((intro w hSw; (try dsimp only at hSw); go_simp) <;> with_reducible rfl)); (try simp only [Act.put, List.setIfInBounds_toArray, List.set_cons_zero, List.set_cons_succ])); (refine wpAnyH_take (i := 6) (v := ?_) rfl (by kernel_rfl) (by kernel_rfl) (by kernel_rfl) (fun _ _ _ h => (by cases h.1)) (Or.inl ⟨by rfl, ?_⟩) (by assumption) ?_; rotate_left; (next => ((intro w hSw; (try dsimp only at hSw); go_simp) <;> with_reducible rfl)); (try simp only [Act.put, List.setIfInBounds_toArray, List.set_cons_zero, List.set_cons_succ])))
          refine wpAnyH_done (by kernel_rfl) ⟨rfl, ?_⟩ _
          go_simp
          gi_upto_region 16 with fail
          refine wpIn_world (fun Z => Touch (fun _ => False) W Z ∧ Z.heap[W.heap.size]? = some (.cells #[.int .i64 x2.k, .int .i64 x2.n, .string x2.s] 34)) ⟨Touch.drew ((Touch.refl _ _).alloc _), heap_alloc_new W _⟩ ?_
          rintro Z ⟨zT, zk⟩
          have z0' := (zT.cell lT (fun h => h)).trans t0
          obtain ⟨⟨g0, g1, g2⟩, r0, r1, r2⟩ := cells3f zk
          have lZ : W.heap.size < Z.heap.size := (Array.getElem?_eq_some_iff.1 zk).1
          have lk := (MSh.out.block (w' := Z) (zT.block _ MSh.out.lt (fun h => h))).look i2.out
          have ZZ := Lib.hid (And.intro zT zk)
          clear zT zk hS
          have hcases : ((x2.k == 7) = false ∧ tokD L x2 = x2) ∨ ((x2.k == 7) = true ∧ L x2.n = true ∧ tokD L x2 = x2) ∨ ((x2.k == 7) = true ∧ L x2.n = false ∧ tokD L x2 = Val.zero) := by
            unfold tokD
            cases (x2.k == 7) <;> cases L x2.n <;> simp
          have KT := Lib.hid (show keptD L c.mo (pre ++ [x]) = ks ++ [x0, x1, tokD L x2, x3] from KD)
          rcases hcases with ⟨h7, htk⟩ | ⟨h7, hl2, htk⟩ | ⟨h7, hl2, htk⟩
          all_goals rw [htk] at KT
          all_goals clear htk
          · gi_upto_region 18 with fail
            refine wpIn_world (fun Y => Touch (fun _ => False) W Y ∧ Y.heap[W.heap.size]? = some (valO x2)) ⟨ZZ.out.1, ZZ.out.2⟩ ?_
            rintro Y ⟨yT, yk⟩
            obtain ⟨tk, htk⟩ : ∃ tk : Val, tk = x2 := ⟨_, rfl⟩
            rw [← htk] at KT yk
            clear htk lk z0' g0 g1 g2 r0 r1 r2 ZZ lZ
            obtain ⟨⟨y0, y1, y2⟩, _⟩ := cells3f yk
            have lY : W.heap.size < Y.heap.size := (Array.getElem?_eq_some_iff.1 yk).1
            have y9 := (yT.block _ l9 (fun h => h)).trans INV.out.1
            obtain ⟨⟨_, _, _, _, _, e5⟩, _⟩ := cells6 y9
            have E0 : ∀ o, Y.cell? ⟨b, o, none⟩ = W.cell? ⟨b, o, none⟩ := fun o => yT.cell hb (fun h => h)
            have YT := Lib.hid yT
            have l9Y : w3.heap.size < Y.heap.size := Nat.lt_of_lt_of_le l9 yT.size
            have SK2 := Lib.hid (show ∀ X, Touch (fun k => Value.ownBlock (.slice A9 ks.length n9) = some k ∨ k = w3.heap.size) Y X → (∀ o, X.cell? ⟨b, o, none⟩ = W.cell? ⟨b, o, none⟩) ∧ X.cell? ⟨W.heap.size, 0, none⟩ = some (.int .i64 tk.k) ∧ X.cell? ⟨W.heap.size, 1, none⟩ = some (.int .i64 tk.n) ∧ X.cell? ⟨W.heap.size, 2, none⟩ = some (.string tk.s) by
              intro X hT
              have nF : ¬ (Value.ownBlock (.slice A9 ks.length n9) = some W.heap.size ∨ W.heap.size = w3.heap.size) := by
                rintro (h | h)
                · have := (INV.out.2.1.lt _ h).2; omega
                · omega
              refine ⟨fun o => (hT.cell (Nat.lt_of_lt_of_le hb YT.out.size) ?_).trans (E0 o), (hT.cell lY nF).trans y0, (hT.cell lY nF).trans y1, (hT.cell lY nF).trans y2⟩
              rintro (h | h)
              · have := (INV.out.2.1.lt _ h).1; have := LO.out; omega
              · have := LO.out; omega)
            have hS0 : (∀ o, Y.drew.cell? ⟨b, o, none⟩ = W.cell? ⟨b, o, none⟩) ∧ Y.drew.cell? ⟨W.heap.size, 0, none⟩ = some (.int .i64 tk.k) ∧ Y.drew.cell? ⟨W.heap.size, 1, none⟩ = some (.int .i64 tk.n) ∧ Y.drew.cell? ⟨W.heap.size, 2, none⟩ = some (.string tk.s) := ⟨E0, y0, y1, y2⟩
            clear yT yk y9
            refine wpIn_region_held (fun X => (∀ o, X.cell? ⟨b, o, none⟩ = W.cell? ⟨b, o, none⟩) ∧ X.cell? ⟨W.heap.size, 0, none⟩ = some (.int .i64 tk.k) ∧ X.cell? ⟨W.heap.size, 1, none⟩ = some (.int .i64 tk.n) ∧ X.cell? ⟨W.heap.size, 2, none⟩ = some (.string tk.s)) _ Try.mixed (by simp) hS0 (fun hS => ?_) (fun _ _ h => h)
            clear hS0
            ((refine wpAnyH_take (i := 0) (v := ?_) rfl (by kernel_rfl) (by kernel_rfl) (by kernel_rfl) (fun _ _ _ h => (by cases h.1)) (Or.inl ⟨by rfl, ?_⟩) (by assumption) ?_; rotate_left; (next => ((intro w hSw; (try dsimp only at hSw); go_simp) <;> with_reducible rfl)); (try simp only [Act.put, List.setIfInBounds_toArray, List.set_cons_zero, List.set_cons_succ])); (refine wpAnyH_take (i := 2) (v := ?_) rfl (by kernel_rfl) (by kernel_rfl) (by kernel_rfl) (fun _ _ _ h => (by cases h.1)) (Or.inl ⟨by rfl, ?_⟩) (by assumption) ?_; rotate_left; (next => ((intro w hSw; (try dsimp only at hSw); go_simp) <;> with_reducible rfl)); (try simp only [Act.put, List.setIfInBounds_toArray, List.set_cons_zero, List.set_cons_succ])); (refine wpAnyH_take (i := 3) (v := ?_) rfl (by kernel_rfl) (by kernel_rfl) (by kernel_rfl) (fun _ _ _ h => (by cases h.1)) (Or.inl ⟨by rfl, ?_⟩) (by assumption) ?_; rotate_left; (next => ((intro w hSw; (try dsimp only at hSw); go_simp) <;> with_reducible rfl)); (try simp only [Act.put, List.setIfInBounds_toArray, List.set_cons_zero, List.set_cons_succ])); (refine wpAnyH_take (i := 4) (v := ?_) rfl (by kernel_rfl) (by kernel_rfl) (by kernel_rfl) (fun _ _ _ h => (by cases h.1)) (Or.inl ⟨by rfl, ?_⟩) (by assumption) ?_; rotate_left; (next => ((intro w hSw; (try dsimp only at hSw); go_simp) <;> with_reducible rfl)); (try simp only [Act.put, List.setIfInBounds_toArray, List.set_cons_zero, List.set_cons_succ])); (refine wpAnyH_take (i := 5) (v := ?_) rfl (by kernel_rfl) (by kernel_rfl) (by kernel_rfl) (fun _ _ _ h => (by cases h.1)) (Or.inl ⟨by rfl, ?_⟩) (by assumption) ?_; rotate_left; (next => ((intro w hSw; (try dsimp only at hSw); go_simp) <;> with_reducible rfl)); (try simp only [Act.put, List.setIfInBounds_toArray, List.set_cons_zero, List.set_cons_succ])); (refine wpAnyH_take (i := 6) (v := ?_) rfl (by kernel_rfl) (by kernel_rfl) (by kernel_rfl) (fun _ _ _ h => (by cases h.1)) (Or.inl ⟨by rfl, ?_⟩) (by assumption) ?_; rotate_left; (next => ((intro w hSw; (try dsimp only at hSw); go_simp) <;> with_reducible rfl)); (try simp only [Act.put, List.setIfInBounds_toArray, List.set_cons_zero, List.set_cons_succ])); (refine wpAnyH_take (i := 7) (v := ?_) rfl (by kernel_rfl) (by kernel_rfl) (by kernel_rfl) (fun _ _ _ h => (by cases h.1)) (Or.inl ⟨by rfl, ?_⟩) (by assumption) ?_; rotate_left; (next => ((intro w hSw; (try dsimp only at hSw); go_simp) <;> with_reducible rfl)); (try simp only [Act.put, List.setIfInBounds_toArray, List.set_cons_zero, List.set_cons_succ])); (refine wpAnyH_take (i := 8) (v := ?_) rfl (by kernel_rfl) (by kernel_rfl) (by kernel_rfl) (fun _ _ _ h => (by cases h.1)) (Or.inl ⟨by rfl, ?_⟩) (by assumption) ?_; rotate_left; (next => ((intro w hSw; (try dsimp only at hSw); go_simp) <;> with_reducible rfl)); (try simp only [Act.put, List.setIfInBounds_toArray, List.set_cons_zero, List.set_cons_succ])); (refine wpAnyH_take (i := 9) (v := ?_) rfl (by kernel_rfl) (by kernel_rfl) (by kernel_rfl) (fun _ _ _ h => (by cases h.1)) (Or.inl ⟨by rfl, ?_⟩) (by assumption) ?_; rotate_left; (next => ((intro w hSw; (try dsimp only at hSw); go_simp) <;> with_reducible rfl)); (try simp only [Act.put, List.setIfInBounds_toArray, List.set_cons_zero, List.set_cons_succ])); (refine wpAnyH_take (i := 10) (v := ?_) rfl (by kernel_rfl) (by kernel_rfl) (by kernel_rfl) (fun _ _ _ h => (by cases h.1)) (Or.inl ⟨by rfl, ?_⟩) (by assumption) ?_; rotate_left; (next => ((intro w hSw; (try dsimp only at hSw); go_simp) <;> with_reducible rfl)); (try simp only [Act.put, List.setIfInBounds_toArray, List.set_cons_zero, List.set_cons_succ])); (refine wpAnyH_take (i := 11) (v := ?_) rfl (by kernel_rfl) (by kernel_rfl) (by kernel_rfl) (fun _ _ _ h => (by cases h.1)) (Or.inl ⟨by rfl, ?_⟩) (by assumption) ?_; rotate_left; (next => ((intro w hSw; (try dsimp only at hSw); go_simp) <;> with_reducible rfl)); (try simp only [Act.put, List.setIfInBounds_toArray, List.set_cons_zero, List.set_cons_succ])))
            refine wpAnyH_ready (rs := [1, 12]) (by kernel_rfl) (by simp) ?_
            refine AllReadyH.cons rfl (fun K hK => ?_) (AllReadyH.cons rfl (fun K hK => ?_) AllReadyH.nil)
            · go_simp
              refine hK.out _ _ hS (fun hS => ?_)
              clear hK
              refine wpAnyH_ready (rs := [12]) (by kernel_rfl) (by simp) ?_
              refine AllReadyH.cons rfl (fun K hK => ?_) AllReadyH.nil
              go_simp
              have TZ := Lib.hid (show Touch (fun _ => False) Y (Y.drew.alloc (.cells (flat Val.cs [x0, x1, tk, x3]).toArray 34)) from ((Touch.refl _ _).drew).alloc _)
              have BZ := Lib.hid (show (Y.drew.alloc (.cells (flat Val.cs [x0, x1, tk, x3]).toArray 34)).heap[Y.heap.size]? = some (.cells (flat Val.cs [x0, x1, tk, x3]).toArray 34) from heap_alloc_new Y.drew _)
              refine hK.out _ _ (SK2.out _ (TZ.out.mono (fun _ _ h => h.elim))) (fun hS => ?_)
              clear hK
              refine wpAnyH_ready (rs := [13]) (by kernel_rfl) (by simp) ?_
              refine AllReadyH.cons rfl (fun K hK => ?_) AllReadyH.nil
              have WT := YT.out.trans TZ.out (fun _ _ h => h)
              refine step_appL lo rfl (.tmp 71) (.tmp 82) rfl ks [x0, x1, tk, x3] (yv := .slice A9 ks.length n9) (m := 4) (by simp [Act.eval, Act.put]) (by simp [Act.eval, Act.put]; rfl) rfl (by omega) ?_ (ownsRow_touch INV.out.2.1 WT (fun _ _ h => h)) ?_ (by omega) ?_
              · exact Nat.le_trans (by have := LO.out; have := INV.out.2.2.2.2.2.2.1.size; omega) WT.size
              · exact BZ.out
              intro g7 n7 w7 o7 t7 gg7
              have T7 : Touch (fun k => Value.ownBlock (.slice A9 ks.length n9) = some k ∨ k = w3.heap.size) Y w7 := (TZ.out.mono (fun _ _ h => h.elim)).trans t7 (fun _ _ h => .inl h)
              have T7W : Touch (fun k => Value.ownBlock (.slice A9 ks.length n9) = some k ∨ k = w3.heap.size) W w7 := (YT.out.mono (fun _ _ h => h.elim)).trans T7 (fun _ _ h => h)
              refine hK.out _ _ (SK2.out _ T7) (fun hS => ?_)
              clear hK
              have k9 : w7.heap[w3.heap.size]? = some (cellO c.k c.sh c.fl c.ag (.slice A5 c.sl.length n5) (.slice A9 ks.length n9)) := (t7.block _ (Nat.lt_of_lt_of_le l9 WT.size) (fun e => own_ne INV.out.2.1 e INV.out.1 (by decide) rfl)).trans ((WT.block _ l9 (fun h => h)).trans INV.out.1)
              obtain ⟨⟨_, _, _, _, _, s0⟩, _, _, _, _, _, s1⟩ := cells6 k9
              have gg : Value.ownBlock (.slice A9 ks.length n9) = some g7 ∨ W.heap.size ≤ g7 := by rcases gg7 with h | h; exact .inl h; exact .inr (by rw [h]; exact WT.size)
              have R7 := Lib.hid (And.intro o7 (And.intro T7 (And.intro T7W (And.intro gg k9))))
              clear o7 t7 T7 T7W gg gg7 k9 WT
              ((refine wpAnyH_take (i := 14) (v := ?_) rfl (by kernel_rfl) (by kernel_rfl) (by kernel_rfl) (fun _ _ _ h => (by cases h.1)) (Or.inl ⟨by rfl, ?_⟩) (by assumption) ?_; rotate_left; (next => ((intro w hSw; (try dsimp only at hSw); go_simp) <;> with_reducible rfl)); (try simp only [Act.put, List.setIfInBounds_toArray, List.set_cons_zero, List.set_cons_succ])))
              refine wpAnyH_ready (rs := [15]) (by kernel_rfl) (by simp) ?_
              refine AllReadyH.cons rfl (fun K hK => ?_) AllReadyH.nil
              go_simp
              have T8 := R7.out.2.1.set (p := ⟨w3.heap.size, 5, none⟩) (.inl (.inr rfl)) (.slice (some ⟨g7, 0, none⟩) (ks ++ [x0, x1, tk, x3]).length n7)
              have e8 : (ks ++ [x0, x1, tk, x3]).length = ks.length + 4 := by simp
              rw [e8] at T8
              refine hK.out _ _ (SK2.out _ T8) (fun hS => ?_)
              clear hK T8
              refine wpAnyH_done (by kernel_rfl) ⟨rfl, ?_⟩ _
              go_simp
              have FIN := Lib.hid (TO2.out tk KT.out g7 n7 w7 R7.out.1 R7.out.2.2.1 R7.out.2.2.2.2 R7.out.2.2.2.1)
              gi_wp2
              exact FIN.out _ (by rw [e8])
            · go_simp
              have TZ := Lib.hid (show Touch (fun _ => False) Y (Y.drew.alloc (.cells (flat Val.cs [x0, x1, tk, x3]).toArray 34)) from ((Touch.refl _ _).drew).alloc _)
              have BZ := Lib.hid (show (Y.drew.alloc (.cells (flat Val.cs [x0, x1, tk, x3]).toArray 34)).heap[Y.heap.size]? = some (.cells (flat Val.cs [x0, x1, tk, x3]).toArray 34) from heap_alloc_new Y.drew _)
              refine hK.out _ _ (SK2.out _ (TZ.out.mono (fun _ _ h => h.elim))) (fun hS => ?_)
              clear hK
              refine wpAnyH_ready (rs := [1]) (by kernel_rfl) (by simp) ?_
              refine AllReadyH.cons rfl (fun K hK => ?_) AllReadyH.nil
              go_simp
              refine hK.out _ _ hS (fun hS => ?_)
              clear hK
              refine wpAnyH_ready (rs := [13]) (by kernel_rfl) (by simp) ?_
              refine AllReadyH.cons rfl (fun K hK => ?_) AllReadyH.nil
              have WT := YT.out.trans TZ.out (fun _ _ h => h)
              refine step_appL lo rfl (.tmp 71) (.tmp 82) rfl ks [x0, x1, tk, x3] (yv := .slice A9 ks.length n9) (m := 4) (by simp [Act.eval, Act.put]) (by simp [Act.eval, Act.put]; rfl) rfl (by omega) ?_ (ownsRow_touch INV.out.2.1 WT (fun _ _ h => h)) ?_ (by omega) ?_
              · exact Nat.le_trans (by have := LO.out; have := INV.out.2.2.2.2.2.2.1.size; omega) WT.size
              · exact BZ.out
              intro g7 n7 w7 o7 t7 gg7
              have T7 : Touch (fun k => Value.ownBlock (.slice A9 ks.length n9) = some k ∨ k = w3.heap.size) Y w7 := (TZ.out.mono (fun _ _ h => h.elim)).trans t7 (fun _ _ h => .inl h)
              have T7W : Touch (fun k => Value.ownBlock (.slice A9 ks.length n9) = some k ∨ k = w3.heap.size) W w7 := (YT.out.mono (fun _ _ h => h.elim)).trans T7 (fun _ _ h => h)
              refine hK.out _ _ (SK2.out _ T7) (fun hS => ?_)
              clear hK
              have k9 : w7.heap[w3.heap.size]? = some (cellO c.k c.sh c.fl c.ag (.slice A5 c.sl.length n5) (.slice A9 ks.length n9)) := (t7.block _ (Nat.lt_of_lt_of_le l9 WT.size) (fun e => own_ne INV.out.2.1 e INV.out.1 (by decide) rfl)).trans ((WT.block _ l9 (fun h => h)).trans INV.out.1)
              obtain ⟨⟨_, _, _, _, _, s0⟩, _, _, _, _, _, s1⟩ := cells6 k9
              have gg : Value.ownBlock (.slice A9 ks.length n9) = some g7 ∨ W.heap.size ≤ g7 := by rcases gg7 with h | h; exact .inl h; exact .inr (by rw [h]; exact WT.size)
              have R7 := Lib.hid (And.intro o7 (And.intro T7 (And.intro T7W (And.intro gg k9))))
              clear o7 t7 T7 T7W gg gg7 k9 WT
              ((refine wpAnyH_take (i := 14) (v := ?_) rfl (by kernel_rfl) (by kernel_rfl) (by kernel_rfl) (fun _ _ _ h => (by cases h.1)) (Or.inl ⟨by rfl, ?_⟩) (by assumption) ?_; rotate_left; (next => ((intro w hSw; (try dsimp only at hSw); go_simp) <;> with_reducible rfl)); (try simp only [Act.put, List.setIfInBounds_toArray, List.set_cons_zero, List.set_cons_succ])))
              refine wpAnyH_ready (rs := [15]) (by kernel_rfl) (by simp) ?_
              refine AllReadyH.cons rfl (fun K hK => ?_) AllReadyH.nil
              go_simp
              have T8 := R7.out.2.1.set (p := ⟨w3.heap.size, 5, none⟩) (.inl (.inr rfl)) (.slice (some ⟨g7, 0, none⟩) (ks ++ [x0, x1, tk, x3]).length n7)
              have e8 : (ks ++ [x0, x1, tk, x3]).length = ks.length + 4 := by simp
              rw [e8] at T8
              refine hK.out _ _ (SK2.out _ T8) (fun hS => ?_)
              clear hK T8
              refine wpAnyH_done (by kernel_rfl) ⟨rfl, ?_⟩ _
              go_simp
              have FIN := Lib.hid (TO2.out tk KT.out g7 n7 w7 R7.out.1 R7.out.2.2.1 R7.out.2.2.2.2 R7.out.2.2.2.1)
              gi_wp2
              exact FIN.out _ (by rw [e8])
          · rw [hl2] at lk
            gi_upto_region 18 with fail
            refine wpIn_world (fun Y => Touch (fun _ => False) W Y ∧ Y.heap[W.heap.size]? = some (valO x2)) ⟨ZZ.out.1, ZZ.out.2⟩ ?_
            rintro Y ⟨yT, yk⟩
            obtain ⟨tk, htk⟩ : ∃ tk : Val, tk = x2 := ⟨_, rfl⟩
            rw [← htk] at KT yk
            clear htk lk z0' g0 g1 g2 r0 r1 r2 ZZ lZ
            obtain ⟨⟨y0, y1, y2⟩, _⟩ := cells3f yk
            have lY : W.heap.size < Y.heap.size := (Array.getElem?_eq_some_iff.1 yk).1
            have y9 := (yT.block _ l9 (fun h => h)).trans INV.out.1
            obtain ⟨⟨_, _, _, _, _, e5⟩, _⟩ := cells6 y9
            have E0 : ∀ o, Y.cell? ⟨b, o, none⟩ = W.cell? ⟨b, o, none⟩ := fun o => yT.cell hb (fun h => h)
            have YT := Lib.hid yT
            have l9Y : w3.heap.size < Y.heap.size := Nat.lt_of_lt_of_le l9 yT.size
            have SK2 := Lib.hid (show ∀ X, Touch (fun k => Value.ownBlock (.slice A9 ks.length n9) = some k ∨ k = w3.heap.size) Y X → (∀ o, X.cell? ⟨b, o, none⟩ = W.cell? ⟨b, o, none⟩) ∧ X.cell? ⟨W.heap.size, 0, none⟩ = some (.int .i64 tk.k) ∧ X.cell? ⟨W.heap.size, 1, none⟩ = some (.int .i64 tk.n) ∧ X.cell? ⟨W.heap.size, 2, none⟩ = some (.string tk.s) by
              intro X hT
              have nF : ¬ (Value.ownBlock (.slice A9 ks.length n9) = some W.heap.size ∨ W.heap.size = w3.heap.size) := by
                rintro (h | h)
                · have := (INV.out.2.1.lt _ h).2; omega
                · omega
              refine ⟨fun o => (hT.cell (Nat.lt_of_lt_of_le hb YT.out.size) ?_).trans (E0 o), (hT.cell lY nF).trans y0, (hT.cell lY nF).trans y1, (hT.cell lY nF).trans y2⟩
              rintro (h | h)
              · have := (INV.out.2.1.lt _ h).1; have := LO.out; omega
              · have := LO.out; omega)
            have hS0 : (∀ o, Y.drew.cell? ⟨b, o, none⟩ = W.cell? ⟨b, o, none⟩) ∧ Y.drew.cell? ⟨W.heap.size, 0, none⟩ = some (.int .i64 tk.k) ∧ Y.drew.cell? ⟨W.heap.size, 1, none⟩ = some (.int .i64 tk.n) ∧ Y.drew.cell? ⟨W.heap.size, 2, none⟩ = some (.string tk.s) := ⟨E0, y0, y1, y2⟩
            clear yT yk y9
            refine wpIn_region_held (fun X => (∀ o, X.cell? ⟨b, o, none⟩ = W.cell? ⟨b, o, none⟩) ∧ X.cell? ⟨W.heap.size, 0, none⟩ = some (.int .i64 tk.k) ∧ X.cell? ⟨W.heap.size, 1, none⟩ = some (.int .i64 tk.n) ∧ X.cell? ⟨W.heap.size, 2, none⟩ = some (.string tk.s)) _ Try.mixed (by simp) hS0 (fun hS => ?_) (fun _ _ h => h)
            clear hS0
            ((refine wpAnyH_take (i := 0) (v := ?_) rfl (by kernel_rfl) (by kernel_rfl) (by kernel_rfl) (fun _ _ _ h => (by cases h.1)) (Or.inl ⟨by rfl, ?_⟩) (by assumption) ?_; rotate_left; (next => ((intro w hSw; (try dsimp only at hSw); go_simp) <;> with_reducible rfl)); (try simp only [Act.put, List.setIfInBounds_toArray, List.set_cons_zero, List.set_cons_succ])); (refine wpAnyH_take (i := 2) (v := ?_) rfl (by kernel_rfl) (by kernel_rfl) (by kernel_rfl) (fun _ _ _ h => (by cases h.1)) (Or.inl ⟨by rfl, ?_⟩) (by assumption) ?_; rotate_left; (next => ((intro w hSw; (try dsimp only at hSw); go_simp) <;> with_reducible rfl)); (try simp only [Act.put, List.setIfInBounds_toArray, List.set_cons_zero, List.set_cons_succ])); (refine wpAnyH_take (i := 3) (v := ?_) rfl (by kernel_rfl) (by kernel_rfl) (by kernel_rfl) (fun _ _ _ h => (by cases h.1)) (Or.inl ⟨by rfl, ?_⟩) (by assumption) ?_; rotate_left; (next => ((intro w hSw; (try dsimp only at hSw); go_simp) <;> with_reducible rfl)); (try simp only [Act.put, List.setIfInBounds_toArray, List.set_cons_zero, List.set_cons_succ])); (refine wpAnyH_take (i := 4) (v := ?_) rfl (by kernel_rfl) (by kernel_rfl) (by kernel_rfl) (fun _ _ _ h => (by cases h.1)) (Or.inl ⟨by rfl, ?_⟩) (by assumption) ?_; rotate_left; (next => ((intro w hSw; (try dsimp only at hSw); go_simp) <;> with_reducible rfl)); (try simp only [Act.put, List.setIfInBounds_toArray, List.set_cons_zero, List.set_cons_succ])); (refine wpAnyH_take (i := 5) (v := ?_) rfl (by kernel_rfl) (by kernel_rfl) (by kernel_rfl) (fun _ _ _ h => (by cases h.1)) (Or.inl ⟨by rfl, ?_⟩) (by assumption) ?_; rotate_left; (next => ((intro w hSw; (try dsimp only at hSw); go_simp) <;> with_reducible rfl)); (try simp only [Act.put, List.setIfInBounds_toArray, List.set_cons_zero, List.set_cons_succ])); (refine wpAnyH_take (i := 6) (v := ?_) rfl (by kernel_rfl) (by kernel_rfl) (by kernel_rfl) (fun _ _ _ h => (by cases h.1)) (Or.inl ⟨by rfl, ?_⟩) (by assumption) ?_; rotate_left; (next => ((intro w hSw; (try dsimp only at hSw); go_simp) <;> with_reducible rfl)); (try simp only [Act.put, List.setIfInBounds_toArray, List.set_cons_zero, List.set_cons_succ])); (refine wpAnyH_take (i := 7) (v := ?_) rfl (by kernel_rfl) (by kernel_rfl) (by kernel_rfl) (fun _ _ _ h => (by cases h.1)) (Or.inl ⟨by rfl, ?_⟩) (by assumption) ?_; rotate_left; (next => ((intro w hSw; (try dsimp only at hSw); go_simp) <;> with_reducible rfl)); (try simp only [Act.put, List.setIfInBounds_toArray, List.set_cons_zero, List.set_cons_succ])); (refine wpAnyH_take (i := 8) (v := ?_) rfl (by kernel_rfl) (by kernel_rfl) (by kernel_rfl) (fun _ _ _ h => (by cases h.1)) (Or.inl ⟨by rfl, ?_⟩) (by assumption) ?_; rotate_left; (next => ((intro w hSw; (try dsimp only at hSw); go_simp) <;> with_reducible rfl)); (try simp only [Act.put, List.setIfInBounds_toArray, List.set_cons_zero, List.set_cons_succ])); (refine wpAnyH_take (i := 9) (v := ?_) rfl (by kernel_rfl) (by kernel_rfl) (by kernel_rfl) (fun _ _ _ h => (by cases h.1)) (Or.inl ⟨by rfl, ?_⟩) (by assumption) ?_; rotate_left; (next => ((intro w hSw; (try dsimp only at hSw); go_simp) <;> with_reducible rfl)); (try simp only [Act.put, List.setIfInBounds_toArray, List.set_cons_zero, List.set_cons_succ])); (refine wpAnyH_take (i := 10) (v := ?_) rfl (by kernel_rfl) (by kernel_rfl) (by kernel_rfl) (fun _ _ _ h => (by cases h.1)) (Or.inl ⟨by rfl, ?_⟩) (by assumption) ?_; rotate_left; (next => ((intro w hSw; (try dsimp only at hSw); go_simp) <;> with_reducible rfl)); (try simp only [Act.put, List.setIfInBounds_toArray, List.set_cons_zero, List.set_cons_succ])); (refine wpAnyH_take (i := 11) (v := ?_) rfl (by kernel_rfl) (by kernel_rfl) (by kernel_rfl) (fun _ _ _ h => (by cases h.1)) (Or.inl ⟨by rfl, ?_⟩) (by assumption) ?_; rotate_left; (next => ((intro w hSw; (try dsimp only at hSw); go_simp) <;> with_reducible rfl)); (try simp only [Act.put, List.setIfInBounds_toArray, List.set_cons_zero, List.set_cons_succ])))
            refine wpAnyH_ready (rs := [1, 12]) (by kernel_rfl) (by simp) ?_
            refine AllReadyH.cons rfl (fun K hK => ?_) (AllReadyH.cons rfl (fun K hK => ?_) AllReadyH.nil)
            · go_simp
              refine hK.out _ _ hS (fun hS => ?_)
              clear hK
              refine wpAnyH_ready (rs := [12]) (by kernel_rfl) (by simp) ?_
              refine AllReadyH.cons rfl (fun K hK => ?_) AllReadyH.nil
              go_simp
              have TZ := Lib.hid (show Touch (fun _ => False) Y (Y.drew.alloc (.cells (flat Val.cs [x0, x1, tk, x3]).toArray 34)) from ((Touch.refl _ _).drew).alloc _)
              have BZ := Lib.hid (show (Y.drew.alloc (.cells (flat Val.cs [x0, x1, tk, x3]).toArray 34)).heap[Y.heap.size]? = some (.cells (flat Val.cs [x0, x1, tk, x3]).toArray 34) from heap_alloc_new Y.drew _)
              refine hK.out _ _ (SK2.out _ (TZ.out.mono (fun _ _ h => h.elim))) (fun hS => ?_)
              clear hK
              refine wpAnyH_ready (rs := [13]) (by kernel_rfl) (by simp) ?_
              refine AllReadyH.cons rfl (fun K hK => ?_) AllReadyH.nil
              have WT := YT.out.trans TZ.out (fun _ _ h => h)
              refine step_appL lo rfl (.tmp 71) (.tmp 82) rfl ks [x0, x1, tk, x3] (yv := .slice A9 ks.length n9) (m := 4) (by simp [Act.eval, Act.put]) (by simp [Act.eval, Act.put]; rfl) rfl (by omega) ?_ (ownsRow_touch INV.out.2.1 WT (fun _ _ h => h)) ?_ (by omega) ?_
              · exact Nat.le_trans (by have := LO.out; have := INV.out.2.2.2.2.2.2.1.size; omega) WT.size
              · exact BZ.out
              intro g7 n7 w7 o7 t7 gg7
              have T7 : Touch (fun k => Value.ownBlock (.slice A9 ks.length n9) = some k ∨ k = w3.heap.size) Y w7 := (TZ.out.mono (fun _ _ h => h.elim)).trans t7 (fun _ _ h => .inl h)
              have T7W : Touch (fun k => Value.ownBlock (.slice A9 ks.length n9) = some k ∨ k = w3.heap.size) W w7 := (YT.out.mono (fun _ _ h => h.elim)).trans T7 (fun _ _ h => h)
              refine hK.out _ _ (SK2.out _ T7) (fun hS => ?_)
              clear hK
              have k9 : w7.heap[w3.heap.size]? = some (cellO c.k c.sh c.fl c.ag (.slice A5 c.sl.length n5) (.slice A9 ks.length n9)) := (t7.block _ (Nat.lt_of_lt_of_le l9 WT.size) (fun e => own_ne INV.out.2.1 e INV.out.1 (by decide) rfl)).trans ((WT.block _ l9 (fun h => h)).trans INV.out.1)
              obtain ⟨⟨_, _, _, _, _, s0⟩, _, _, _, _, _, s1⟩ := cells6 k9
              have gg : Value.ownBlock (.slice A9 ks.length n9) = some g7 ∨ W.heap.size ≤ g7 := by rcases gg7 with h | h; exact .inl h; exact .inr (by rw [h]; exact WT.size)
              have R7 := Lib.hid (And.intro o7 (And.intro T7 (And.intro T7W (And.intro gg k9))))
              clear o7 t7 T7 T7W gg gg7 k9 WT
              ((refine wpAnyH_take (i := 14) (v := ?_) rfl (by kernel_rfl) (by kernel_rfl) (by kernel_rfl) (fun _ _ _ h => (by cases h.1)) (Or.inl ⟨by rfl, ?_⟩) (by assumption) ?_; rotate_left; (next => ((intro w hSw; (try dsimp only at hSw); go_simp) <;> with_reducible rfl)); (try simp only [Act.put, List.setIfInBounds_toArray, List.set_cons_zero, List.set_cons_succ])))
              refine wpAnyH_ready (rs := [15]) (by kernel_rfl) (by simp) ?_
              refine AllReadyH.cons rfl (fun K hK => ?_) AllReadyH.nil
              go_simp
              have T8 := R7.out.2.1.set (p := ⟨w3.heap.size, 5, none⟩) (.inl (.inr rfl)) (.slice (some ⟨g7, 0, none⟩) (ks ++ [x0, x1, tk, x3]).length n7)
              have e8 : (ks ++ [x0, x1, tk, x3]).length = ks.length + 4 := by simp
              rw [e8] at T8
              refine hK.out _ _ (SK2.out _ T8) (fun hS => ?_)
              clear hK T8
              refine wpAnyH_done (by kernel_rfl) ⟨rfl, ?_⟩ _
              go_simp
              have FIN := Lib.hid (TO2.out tk KT.out g7 n7 w7 R7.out.1 R7.out.2.2.1 R7.out.2.2.2.2 R7.out.2.2.2.1)
              gi_wp2
              exact FIN.out _ (by rw [e8])
            · go_simp
              have TZ := Lib.hid (show Touch (fun _ => False) Y (Y.drew.alloc (.cells (flat Val.cs [x0, x1, tk, x3]).toArray 34)) from ((Touch.refl _ _).drew).alloc _)
              have BZ := Lib.hid (show (Y.drew.alloc (.cells (flat Val.cs [x0, x1, tk, x3]).toArray 34)).heap[Y.heap.size]? = some (.cells (flat Val.cs [x0, x1, tk, x3]).toArray 34) from heap_alloc_new Y.drew _)
              refine hK.out _ _ (SK2.out _ (TZ.out.mono (fun _ _ h => h.elim))) (fun hS => ?_)
              clear hK
              refine wpAnyH_ready (rs := [1]) (by kernel_rfl) (by simp) ?_
              refine AllReadyH.cons rfl (fun K hK => ?_) AllReadyH.nil
              go_simp
              refine hK.out _ _ hS (fun hS => ?_)
              clear hK
              refine wpAnyH_ready (rs := [13]) (by kernel_rfl) (by simp) ?_
              refine AllReadyH.cons rfl (fun K hK => ?_) AllReadyH.nil
              have WT := YT.out.trans TZ.out (fun _ _ h => h)
              refine step_appL lo rfl (.tmp 71) (.tmp 82) rfl ks [x0, x1, tk, x3] (yv := .slice A9 ks.length n9) (m := 4) (by simp [Act.eval, Act.put]) (by simp [Act.eval, Act.put]; rfl) rfl (by omega) ?_ (ownsRow_touch INV.out.2.1 WT (fun _ _ h => h)) ?_ (by omega) ?_
              · exact Nat.le_trans (by have := LO.out; have := INV.out.2.2.2.2.2.2.1.size; omega) WT.size
              · exact BZ.out
              intro g7 n7 w7 o7 t7 gg7
              have T7 : Touch (fun k => Value.ownBlock (.slice A9 ks.length n9) = some k ∨ k = w3.heap.size) Y w7 := (TZ.out.mono (fun _ _ h => h.elim)).trans t7 (fun _ _ h => .inl h)
              have T7W : Touch (fun k => Value.ownBlock (.slice A9 ks.length n9) = some k ∨ k = w3.heap.size) W w7 := (YT.out.mono (fun _ _ h => h.elim)).trans T7 (fun _ _ h => h)
              refine hK.out _ _ (SK2.out _ T7) (fun hS => ?_)
              clear hK
              have k9 : w7.heap[w3.heap.size]? = some (cellO c.k c.sh c.fl c.ag (.slice A5 c.sl.length n5) (.slice A9 ks.length n9)) := (t7.block _ (Nat.lt_of_lt_of_le l9 WT.size) (fun e => own_ne INV.out.2.1 e INV.out.1 (by decide) rfl)).trans ((WT.block _ l9 (fun h => h)).trans INV.out.1)
              obtain ⟨⟨_, _, _, _, _, s0⟩, _, _, _, _, _, s1⟩ := cells6 k9
              have gg : Value.ownBlock (.slice A9 ks.length n9) = some g7 ∨ W.heap.size ≤ g7 := by rcases gg7 with h | h; exact .inl h; exact .inr (by rw [h]; exact WT.size)
              have R7 := Lib.hid (And.intro o7 (And.intro T7 (And.intro T7W (And.intro gg k9))))
              clear o7 t7 T7 T7W gg gg7 k9 WT
              ((refine wpAnyH_take (i := 14) (v := ?_) rfl (by kernel_rfl) (by kernel_rfl) (by kernel_rfl) (fun _ _ _ h => (by cases h.1)) (Or.inl ⟨by rfl, ?_⟩) (by assumption) ?_; rotate_left; (next => ((intro w hSw; (try dsimp only at hSw); go_simp) <;> with_reducible rfl)); (try simp only [Act.put, List.setIfInBounds_toArray, List.set_cons_zero, List.set_cons_succ])))
              refine wpAnyH_ready (rs := [15]) (by kernel_rfl) (by simp) ?_
              refine AllReadyH.cons rfl (fun K hK => ?_) AllReadyH.nil
              go_simp
              have T8 := R7.out.2.1.set (p := ⟨w3.heap.size, 5, none⟩) (.inl (.inr rfl)) (.slice (some ⟨g7, 0, none⟩) (ks ++ [x0, x1, tk, x3]).length n7)
              have e8 : (ks ++ [x0, x1, tk, x3]).length = ks.length + 4 := by simp
              rw [e8] at T8
              refine hK.out _ _ (SK2.out _ T8) (fun hS => ?_)
              clear hK T8
              refine wpAnyH_done (by kernel_rfl) ⟨rfl, ?_⟩ _
              go_simp
              have FIN := Lib.hid (TO2.out tk KT.out g7 n7 w7 R7.out.1 R7.out.2.2.1 R7.out.2.2.2.2 R7.out.2.2.2.1)
              gi_wp2
              exact FIN.out _ (by rw [e8])
          · rw [hl2] at lk
            gi_upto_region 18 with fail
            refine wpIn_world (fun Y => Touch (fun _ => False) W Y ∧ Y.heap[W.heap.size]? = some (valO Val.zero)) ⟨ZZ.out.1.trans (((((Touch.refl (fun b => b = W.heap.size) Z).set1 0 _).set1 1 _).set1 2 _)) (fun i hi e => by omega), heap_setCell_same _ _ _ _ _ _ (heap_setCell_same _ _ _ _ _ _ (heap_setCell_same _ _ _ _ _ _ ZZ.out.2))⟩ ?_
            rintro Y ⟨yT, yk⟩
            obtain ⟨tk, htk⟩ : ∃ tk : Val, tk = Val.zero := ⟨_, rfl⟩
            rw [← htk] at KT yk
            clear htk lk z0' g0 g1 g2 r0 r1 r2 ZZ lZ
            obtain ⟨⟨y0, y1, y2⟩, _⟩ := cells3f yk
            have lY : W.heap.size < Y.heap.size := (Array.getElem?_eq_some_iff.1 yk).1
            have y9 := (yT.block _ l9 (fun h => h)).trans INV.out.1
            obtain ⟨⟨_, _, _, _, _, e5⟩, _⟩ := cells6 y9
            have E0 : ∀ o, Y.cell? ⟨b, o, none⟩ = W.cell? ⟨b, o, none⟩ := fun o => yT.cell hb (fun h => h)
            have YT := Lib.hid yT
            have l9Y : w3.heap.size < Y.heap.size := Nat.lt_of_lt_of_le l9 yT.size
            have SK2 := Lib.hid (show ∀ X, Touch (fun k => Value.ownBlock (.slice A9 ks.length n9) = some k ∨ k = w3.heap.size) Y X → (∀ o, X.cell? ⟨b, o, none⟩ = W.cell? ⟨b, o, none⟩) ∧ X.cell? ⟨W.heap.size, 0, none⟩ = some (.int .i64 tk.k) ∧ X.cell? ⟨W.heap.size, 1, none⟩ = some (.int .i64 tk.n) ∧ X.cell? ⟨W.heap.size, 2, none⟩ = some (.string tk.s) by
              intro X hT
              have nF : ¬ (Value.ownBlock (.slice A9 ks.length n9) = some W.heap.size ∨ W.heap.size = w3.heap.size) := by
                rintro (h | h)
                · have := (INV.out.2.1.lt _ h).2; omega
                · omega
              refine ⟨fun o => (hT.cell (Nat.lt_of_lt_of_le hb YT.out.size) ?_).trans (E0 o), (hT.cell lY nF).trans y0, (hT.cell lY nF).trans y1, (hT.cell lY nF).trans y2⟩
              rintro (h | h)
              · have := (INV.out.2.1.lt _ h).1; have := LO.out; omega
              · have := LO.out; omega)
            have hS0 : (∀ o, Y.drew.cell? ⟨b, o, none⟩ = W.cell? ⟨b, o, none⟩) ∧ Y.drew.cell? ⟨W.heap.size, 0, none⟩ = some (.int .i64 tk.k) ∧ Y.drew.cell? ⟨W.heap.size, 1, none⟩ = some (.int .i64 tk.n) ∧ Y.drew.cell? ⟨W.heap.size, 2, none⟩ = some (.string tk.s) := ⟨E0, y0, y1, y2⟩
            clear yT yk y9
            refine wpIn_region_held (fun X => (∀ o, X.cell? ⟨b, o, none⟩ = W.cell? ⟨b, o, none⟩) ∧ X.cell? ⟨W.heap.size, 0, none⟩ = some (.int .i64 tk.k) ∧ X.cell? ⟨W.heap.size, 1, none⟩ = some (.int .i64 tk.n) ∧ X.cell? ⟨W.heap.size, 2, none⟩ = some (.string tk.s)) _ Try.mixed (by simp) hS0 (fun hS => ?_) (fun _ _ h => h)
            clear hS0
            ((refine wpAnyH_take (i := 0) (v := ?_) rfl (by kernel_rfl) (by kernel_rfl) (by kernel_rfl) (fun _ _ _ h => (by cases h.1)) (Or.inl ⟨by rfl, ?_⟩) (by assumption) ?_; rotate_left; (next => ((intro w hSw; (try dsimp only at hSw); go_simp) <;> with_reducible rfl)); (try simp only [Act.put, List.setIfInBounds_toArray, List.set_cons_zero, List.set_cons_succ])); (refine wpAnyH_take (i := 2) (v := ?_) rfl (by kernel_rfl) (by kernel_rfl) (by kernel_rfl) (fun _ _ _ h => (by cases h.1)) (Or.inl ⟨by rfl, ?_⟩) (by assumption) ?_; rotate_left; (next => ((intro w hSw; (try dsimp only at hSw); go_simp) <;> with_reducible rfl)); (try simp only [Act.put, List.setIfInBounds_toArray, List.set_cons_zero, List.set_cons_succ])); (refine wpAnyH_take (i := 3) (v := ?_) rfl (by kernel_rfl) (by kernel_rfl) (by kernel_rfl) (fun _ _ _ h => (by cases h.1)) (Or.inl ⟨by rfl, ?_⟩) (by assumption) ?_; rotate_left; (next => ((intro w hSw; (try dsimp only at hSw); go_simp) <;> with_reducible rfl)); (try simp only [Act.put, List.setIfInBounds_toArray, List.set_cons_zero, List.set_cons_succ])); (refine wpAnyH_take (i := 4) (v := ?_) rfl (by kernel_rfl) (by kernel_rfl) (by kernel_rfl) (fun _ _ _ h => (by cases h.1)) (Or.inl ⟨by rfl, ?_⟩) (by assumption) ?_; rotate_left; (next => ((intro w hSw; (try dsimp only at hSw); go_simp) <;> with_reducible rfl)); (try simp only [Act.put, List.setIfInBounds_toArray, List.set_cons_zero, List.set_cons_succ])); (refine wpAnyH_take (i := 5) (v := ?_) rfl (by kernel_rfl) (by kernel_rfl) (by kernel_rfl) (fun _ _ _ h => (by cases h.1)) (Or.inl ⟨by rfl, ?_⟩) (by assumption) ?_; rotate_left; (next => ((intro w hSw; (try dsimp only at hSw); go_simp) <;> with_reducible rfl)); (try simp only [Act.put, List.setIfInBounds_toArray, List.set_cons_zero, List.set_cons_succ])); (refine wpAnyH_take (i := 6) (v := ?_) rfl (by kernel_rfl) (by kernel_rfl) (by kernel_rfl) (fun _ _ _ h => (by cases h.1)) (Or.inl ⟨by rfl, ?_⟩) (by assumption) ?_; rotate_left; (next => ((intro w hSw; (try dsimp only at hSw); go_simp) <;> with_reducible rfl)); (try simp only [Act.put, List.setIfInBounds_toArray, List.set_cons_zero, List.set_cons_succ])); (refine wpAnyH_take (i := 7) (v := ?_) rfl (by kernel_rfl) (by kernel_rfl) (by kernel_rfl) (fun _ _ _ h => (by cases h.1)) (Or.inl ⟨by rfl, ?_⟩) (by assumption) ?_; rotate_left; (next => ((intro w hSw; (try dsimp only at hSw); go_simp) <;> with_reducible rfl)); (try simp only [Act.put, List.setIfInBounds_toArray, List.set_cons_zero, List.set_cons_succ])); (refine wpAnyH_take (i := 8) (v := ?_) rfl (by kernel_rfl) (by kernel_rfl) (by kernel_rfl) (fun _ _ _ h => (by cases h.1)) (Or.inl ⟨by rfl, ?_⟩) (by assumption) ?_; rotate_left; (next => ((intro w hSw; (try dsimp only at hSw); go_simp) <;> with_reducible rfl)); (try simp only [Act.put, List.setIfInBounds_toArray, List.set_cons_zero, List.set_cons_succ])); (refine wpAnyH_take (i := 9) (v := ?_) rfl (by kernel_rfl) (by kernel_rfl) (by kernel_rfl) (fun _ _ _ h => (by cases h.1)) (Or.inl ⟨by rfl, ?_⟩) (by assumption) ?_; rotate_left; (next => ((intro w hSw; (try dsimp only at hSw); go_simp) <;> with_reducible rfl)); (try simp only [Act.put, List.setIfInBounds_toArray, List.set_cons_zero, List.set_cons_succ])); (refine wpAnyH_take (i := 10) (v := ?_) rfl (by kernel_rfl) (by kernel_rfl) (by kernel_rfl) (fun _ _ _ h => (by cases h.1)) (Or.inl ⟨by rfl, ?_⟩) (by assumption) ?_; rotate_left; (next => ((intro w hSw; (try dsimp only at hSw); go_simp) <;> with_reducible rfl)); (try simp only [Act.put, List.setIfInBounds_toArray, List.set_cons_zero, List.set_cons_succ])); (refine wpAnyH_take (i := 11) (v := ?_) rfl (by kernel_rfl) (by kernel_rfl) (by kernel_rfl) (fun _ _ _ h => (by cases h.1)) (Or.inl ⟨by rfl, ?_⟩) (by assumption) ?_; rotate_left; (next => ((intro w hSw; (try dsimp only at hSw); go_simp) <;> with_reducible rfl)); (try simp only [Act.put, List.setIfInBounds_toArray, List.set_cons_zero, List.set_cons_succ])))
            refine wpAnyH_ready (rs := [1, 12]) (by kernel_rfl) (by simp) ?_
            refine AllReadyH.cons rfl (fun K hK => ?_) (AllReadyH.cons rfl (fun K hK => ?_) AllReadyH.nil)
            · go_simp
              refine hK.out _ _ hS (fun hS => ?_)
              clear hK
              refine wpAnyH_ready (rs := [12]) (by kernel_rfl) (by simp) ?_
              refine AllReadyH.cons rfl (fun K hK => ?_) AllReadyH.nil
              go_simp
              have TZ := Lib.hid (show Touch (fun _ => False) Y (Y.drew.alloc (.cells (flat Val.cs [x0, x1, tk, x3]).toArray 34)) from ((Touch.refl _ _).drew).alloc _)
              have BZ := Lib.hid (show (Y.drew.alloc (.cells (flat Val.cs [x0, x1, tk, x3]).toArray 34)).heap[Y.heap.size]? = some (.cells (flat Val.cs [x0, x1, tk, x3]).toArray 34) from heap_alloc_new Y.drew _)
              refine hK.out _ _ (SK2.out _ (TZ.out.mono (fun _ _ h => h.elim))) (fun hS => ?_)
              clear hK
              refine wpAnyH_ready (rs := [13]) (by kernel_rfl) (by simp) ?_
              refine AllReadyH.cons rfl (fun K hK => ?_) AllReadyH.nil
              have WT := YT.out.trans TZ.out (fun _ _ h => h)
              refine step_appL lo rfl (.tmp 71) (.tmp 82) rfl ks [x0, x1, tk, x3] (yv := .slice A9 ks.length n9) (m := 4) (by simp [Act.eval, Act.put]) (by simp [Act.eval, Act.put]; rfl) rfl (by omega) ?_ (ownsRow_touch INV.out.2.1 WT (fun _ _ h => h)) ?_ (by omega) ?_
              · exact Nat.le_trans (by have := LO.out; have := INV.out.2.2.2.2.2.2.1.size; omega) WT.size
              · exact BZ.out
              intro g7 n7 w7 o7 t7 gg7
              have T7 : Touch (fun k => Value.ownBlock (.slice A9 ks.length n9) = some k ∨ k = w3.heap.size) Y w7 := (TZ.out.mono (fun _ _ h => h.elim)).trans t7 (fun _ _ h => .inl h)
              have T7W : Touch (fun k => Value.ownBlock (.slice A9 ks.length n9) = some k ∨ k = w3.heap.size) W w7 := (YT.out.mono (fun _ _ h => h.elim)).trans T7 (fun _ _ h => h)
              refine hK.out _ _ (SK2.out _ T7) (fun hS => ?_)
              clear hK
              have k9 : w7.heap[w3.heap.size]? = some (cellO c.k c.sh c.fl c.ag (.slice A5 c.sl.length n5) (.slice A9 ks.length n9)) := (t7.block _ (Nat.lt_of_lt_of_le l9 WT.size) (fun e => own_ne INV.out.2.1 e INV.out.1 (by decide) rfl)).trans ((WT.block _ l9 (fun h => h)).trans INV.out.1)
              obtain ⟨⟨_, _, _, _, _, s0⟩, _, _, _, _, _, s1⟩ := cells6 k9
              have gg : Value.ownBlock (.slice A9 ks.length n9) = some g7 ∨ W.heap.size ≤ g7 := by rcases gg7 with h | h; exact .inl h; exact .inr (by rw [h]; exact WT.size)
              have R7 := Lib.hid (And.intro o7 (And.intro T7 (And.intro T7W (And.intro gg k9))))
              clear o7 t7 T7 T7W gg gg7 k9 WT
              ((refine wpAnyH_take (i := 14) (v := ?_) rfl (by kernel_rfl) (by kernel_rfl) (by kernel_rfl) (fun _ _ _ h => (by cases h.1)) (Or.inl ⟨by rfl, ?_⟩) (by assumption) ?_; rotate_left; (next => ((intro w hSw; (try dsimp only at hSw); go_simp) <;> with_reducible rfl)); (try simp only [Act.put, List.setIfInBounds_toArray, List.set_cons_zero, List.set_cons_succ])))
              refine wpAnyH_ready (rs := [15]) (by kernel_rfl) (by simp) ?_
              refine AllReadyH.cons rfl (fun K hK => ?_) AllReadyH.nil
              go_simp
              have T8 := R7.out.2.1.set (p := ⟨w3.heap.size, 5, none⟩) (.inl (.inr rfl)) (.slice (some ⟨g7, 0, none⟩) (ks ++ [x0, x1, tk, x3]).length n7)
              have e8 : (ks ++ [x0, x1, tk, x3]).length = ks.length + 4 := by simp
              rw [e8] at T8
              refine hK.out _ _ (SK2.out _ T8) (fun hS => ?_)
              clear hK T8
              refine wpAnyH_done (by kernel_rfl) ⟨rfl, ?_⟩ _
              go_simp
              have FIN := Lib.hid (TO2.out tk KT.out g7 n7 w7 R7.out.1 R7.out.2.2.1 R7.out.2.2.2.2 R7.out.2.2.2.1)
              gi_wp2
              exact FIN.out _ (by rw [e8])
            · go_simp
              have TZ := Lib.hid (show Touch (fun _ => False) Y (Y.drew.alloc (.cells (flat Val.cs [x0, x1, tk, x3]).toArray 34)) from ((Touch.refl _ _).drew).alloc _)
              have BZ := Lib.hid (show (Y.drew.alloc (.cells (flat Val.cs [x0, x1, tk, x3]).toArray 34)).heap[Y.heap.size]? = some (.cells (flat Val.cs [x0, x1, tk, x3]).toArray 34) from heap_alloc_new Y.drew _)
              refine hK.out _ _ (SK2.out _ (TZ.out.mono (fun _ _ h => h.elim))) (fun hS => ?_)
              clear hK
              refine wpAnyH_ready (rs := [1]) (by kernel_rfl) (by simp) ?_
              refine AllReadyH.cons rfl (fun K hK => ?_) AllReadyH.nil
              go_simp
              refine hK.out _ _ hS (fun hS => ?_)
              clear hK
              refine wpAnyH_ready (rs := [13]) (by kernel_rfl) (by simp) ?_
              refine AllReadyH.cons rfl (fun K hK => ?_) AllReadyH.nil
              have WT := YT.out.trans TZ.out (fun _ _ h => h)
              refine step_appL lo rfl (.tmp 71) (.tmp 82) rfl ks [x0, x1, tk, x3] (yv := .slice A9 ks.length n9) (m := 4) (by simp [Act.eval, Act.put]) (by simp [Act.eval, Act.put]; rfl) rfl (by omega) ?_ (ownsRow_touch INV.out.2.1 WT (fun _ _ h => h)) ?_ (by omega) ?_
              · exact Nat.le_trans (by have := LO.out; have := INV.out.2.2.2.2.2.2.1.size; omega) WT.size
              · exact BZ.out
              intro g7 n7 w7 o7 t7 gg7
              have T7 : Touch (fun k => Value.ownBlock (.slice A9 ks.length n9) = some k ∨ k = w3.heap.size) Y w7 := (TZ.out.mono (fun _ _ h => h.elim)).trans t7 (fun _ _ h => .inl h)
              have T7W : Touch (fun k => Value.ownBlock (.slice A9 ks.length n9) = some k ∨ k = w3.heap.size) W w7 := (YT.out.mono (fun _ _ h => h.elim)).trans T7 (fun _ _ h => h)
              refine hK.out _ _ (SK2.out _ T7) (fun hS => ?_)
              clear hK
              have k9 : w7.heap[w3.heap.size]? = some (cellO c.k c.sh c.fl c.ag (.slice A5 c.sl.length n5) (.slice A9 ks.length n9)) := (t7.block _ (Nat.lt_of_lt_of_le l9 WT.size) (fun e => own_ne INV.out.2.1 e INV.out.1 (by decide) rfl)).trans ((WT.block _ l9 (fun h => h)).trans INV.out.1)
              obtain ⟨⟨_, _, _, _, _, s0⟩, _, _, _, _, _, s1⟩ := cells6 k9
              have gg : Value.ownBlock (.slice A9 ks.length n9) = some g7 ∨ W.heap.size ≤ g7 := by rcases gg7 with h | h; exact .inl h; exact .inr (by rw [h]; exact WT.size)
              have R7 := Lib.hid (And.intro o7 (And.intro T7 (And.intro T7W (And.intro gg k9))))
              clear o7 t7 T7 T7W gg gg7 k9 WT
              ((refine wpAnyH_take (i := 14) (v := ?_) rfl (by kernel_rfl) (by kernel_rfl) (by kernel_rfl) (fun _ _ _ h => (by cases h.1)) (Or.inl ⟨by rfl, ?_⟩) (by assumption) ?_; rotate_left; (next => ((intro w hSw; (try dsimp only at hSw); go_simp) <;> with_reducible rfl)); (try simp only [Act.put, List.setIfInBounds_toArray, List.set_cons_zero, List.set_cons_succ])))
              refine wpAnyH_ready (rs := [15]) (by kernel_rfl) (by simp) ?_
              refine AllReadyH.cons rfl (fun K hK => ?_) AllReadyH.nil
              go_simp
              have T8 := R7.out.2.1.set (p := ⟨w3.heap.size, 5, none⟩) (.inl (.inr rfl)) (.slice (some ⟨g7, 0, none⟩) (ks ++ [x0, x1, tk, x3]).length n7)
              have e8 : (ks ++ [x0, x1, tk, x3]).length = ks.length + 4 := by simp
              rw [e8] at T8
              refine hK.out _ _ (SK2.out _ T8) (fun hS => ?_)
              clear hK T8
              refine wpAnyH_done (by kernel_rfl) ⟨rfl, ?_⟩ _
              go_simp
              have FIN := Lib.hid (TO2.out tk KT.out g7 n7 w7 R7.out.1 R7.out.2.2.1 R7.out.2.2.2.2 R7.out.2.2.2.1)
              gi_wp2
              exact FIN.out _ (by rw [e8])
end Go.Proofs.Ytokoigjcakgpdaa
