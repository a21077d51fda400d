/- The laws' goes, walked. -/
import Derived.Test.YtiagegecnopfgaaDoorPaW
namespace Go.Proofs.YtiagegecnopfgaaDoor
set_option linter.all false
open Go.ChangeShapes Go.WideShapes Go.ChangeAt Go.RowKit Go.Sort Go.Deep

/-- a name -/
abbrev nmT (s : ByteArray) : Tree := .mk 34 0 0 0 s []
/-- a node of a kind and its kids -/
abbrev opT (o : Int) (l : List Tree) : Tree := .mk o 0 0 0 bs0 l
theorem PowTab.bel {X Y : World} (h : PowTab X) (hb : Below X.heap.size X Y) : PowTab Y := ((Tab.start h).low fun b hl => hb.block b hl).1
theorem IsNd.nil {P : Nat → Prop} {X : World} : IsNd P X (.slice none 0 0) [] := .mk [] .nil_ (fun a n c e h0 => by simp at h0) rfl (by simp) (by simp)
theorem nd_row {P : Nat → Prop} {X : World} {b n : Nat} {T : TypeId} {l : List Tree} (rs : List NodeR) (hb : X.heap[b]? = some (.cells (flat NodeR.cs rs).toArray T)) (hn : rs.length = n) (hl : l.length = n) (hm : n ≤ 1000) (hP : P b)
    (hh : ∀ (i : Nat) (x : NodeR) (t : Tree), rs[i]? = some x → l[i]? = some t → (x.op = t.op ∧ x.a = t.at_ ∧ x.n = t.n ∧ x.m = t.m ∧ x.s = t.s) ∧ IsNd P X x.k t.kids) : IsNd P X (.slice (some ⟨b, 0, none⟩) n n) l := by
  subst hn
  refine .mk rs ⟨by unfold maxLen; omega, some ⟨b, 0, none⟩, rs.length, rfl, Nat.le_refl _, fun _ => ⟨b, 0, rfl, (Array.getElem?_eq_some_iff.1 hb).1, fun i y hy j u hu => ?_⟩⟩ (fun a n c e h0 => ?_) hl.symm (fun i x t hx ht => (hh i x t hx ht).1) (fun i x t hx ht => (hh i x t hx ht).2)
  · rw [cell_of_row X b _ _ _ _ hb]
    have := flat_at nr_len rs i y j u hy hu
    simpa using this
  · simp only [Value.slice.injEq, Option.some.injEq] at e
    rw [← e.1]
    exact hP
theorem nd_one {P : Nat → Prop} {X : World} {b : Nat} {T : TypeId} {t : Tree} {k : Value} (hb : X.heap[b]? = some (.cells #[.int .i64 t.op, .int .i64 t.at_, .int .i64 t.n, .int .i64 t.m, .string t.s, k] T)) (hP : P b) (h : IsNd P X k t.kids) : IsNd P X (.slice (some ⟨b, 0, none⟩) 1 1) [t] := by
  refine nd_row [⟨t.op, t.at_, t.n, t.m, t.s, k⟩] hb rfl rfl (by decide) hP fun i x u hx hu => ?_
  match i with
  | 0 =>
    simp at hx hu
    subst hx hu
    exact ⟨⟨rfl, rfl, rfl, rfl, rfl⟩, h⟩
  | i + 1 => simp at hx
theorem nd_two {P : Nat → Prop} {X : World} {b : Nat} {T : TypeId} {t t' : Tree} {k k' : Value} (hb : X.heap[b]? = some (.cells #[.int .i64 t.op, .int .i64 t.at_, .int .i64 t.n, .int .i64 t.m, .string t.s, k, .int .i64 t'.op, .int .i64 t'.at_, .int .i64 t'.n, .int .i64 t'.m, .string t'.s, k'] T)) (hP : P b)
    (h : IsNd P X k t.kids) (h' : IsNd P X k' t'.kids) : IsNd P X (.slice (some ⟨b, 0, none⟩) 2 2) [t, t'] := by
  refine nd_row [⟨t.op, t.at_, t.n, t.m, t.s, k⟩, ⟨t'.op, t'.at_, t'.n, t'.m, t'.s, k'⟩] hb rfl rfl (by decide) hP fun i x u hx hu => ?_
  match i with
  | 0 =>
    simp at hx hu
    subst hx hu
    exact ⟨⟨rfl, rfl, rfl, rfl, rfl⟩, h⟩
  | 1 =>
    simp at hx hu
    subst hx hu
    exact ⟨⟨rfl, rfl, rfl, rfl, rfl⟩, h'⟩
  | i + 2 => simp at hx
abbrev sA : ByteArray := ⟨#[97]⟩
abbrev sB : ByteArray := ⟨#[98]⟩
abbrev sR : ByteArray := ⟨#[114]⟩
/-- [a, b = 1] -/
abbrev gP : Tree := opT 60 [nmT sA, opT 63 [nmT sB, .mk 30 0 1 0 bs0 []]]
/-- {a: a, ...r} -/
abbrev gQ : Tree := opT 61 [opT 62 [.mk 31 0 0 0 sA [], nmT sA], opT 64 [nmT sR]]
theorem gP_deep : deepT gP = 1 := by simp [deepT, deepK, deepA]
theorem gP_steps : stepsT gP = ([⟨4, 1, 0, bs0, Tree.z, []⟩, ⟨12, 0, 1, bs0, Tree.z, []⟩, ⟨5, 2, 1, bs0, Tree.z, []⟩, ⟨10, 0, 2, bs0, nmT sA, []⟩, ⟨5, 3, 1, bs0, Tree.z, []⟩, ⟨9, 3, 0, bs0, .mk 30 0 1 0 bs0 [], []⟩, ⟨10, 0, 3, bs0, nmT sB, []⟩, ⟨8, 0, 1, bs0, Tree.z, []⟩], 4, 0) := by
  simp [stepsT, gP_deep, apT, arT, apA, Mk.lay, Mk.next, Tree.op]
theorem gQ_steps : stepsT gQ = ([⟨1, 0, 0, bs0, Tree.z, []⟩, ⟨11, 1, 0, sA, Tree.z, []⟩, ⟨2, 2, 0, bs0, Tree.z, [1]⟩, ⟨10, 0, 2, bs0, nmT sA, []⟩, ⟨3, 3, 0, bs0, Tree.z, [1]⟩, ⟨10, 0, 3, bs0, nmT sR, []⟩], 4, 0) := by
  simp [stepsT, deepT, deepK, deepA, deepB, apT, obT, apA, apR, apP, apB, Mk.lay, Mk.next, Tree.op, Tree.m, Tree.kids, Tree.s, restK, keyOk, keyS]
set_option maxRecDepth 100000 in
theorem name_any (s : ByteArray) (w : World) : Calls Tryd.prog 23 #[.string s] w fun e w' => e = .returned (.agg #[.int .i64 34, .int .i64 0, .int .i64 0, .int .i64 0, .string s, .slice none 0 0]) ∧ Below w.heap.size w w' := by
  go_enter Tryd.func23, Tryd.ntmps23
  go_wp2
  refine bodyPost_ret (v := .agg #[.int .i64 34, .int .i64 0, .int .i64 0, .int .i64 0, .string s, .slice none 0 0]) (by simp [results, Tryd.results23, go_sem, *]) rfl ?_
  exact ⟨rfl, by (repeat (with_reducible first | exact Below.refl _ _ | (refine bl_set ?_ (by first | omega | (simp; done) | (simp; omega)) _) | refine bl_gr ?_ _ | refine bl_al ?_ _ | refine below_setRow ?_ (by first | omega | (simp; done) | (simp; omega)) _ | refine bl_drewN ?_ _ | refine Below.drew ?_ | (refine bl_tr ?_ (by assumption))))⟩
theorem heap_alloc_at (W : World) (o : Obj) {n : Nat} (h : W.heap.size = n) : (W.alloc o).heap[n]? = some o := by rw [← h]; exact heap_alloc_new _ _
abbrev oP1 : Obj := .cells #[.int .i64 34, .int .i64 0, .int .i64 0, .int .i64 0, .string sB, .slice none 0 0, .int .i64 30, .int .i64 0, .int .i64 1, .int .i64 0, .string bs0, .slice none 0 0] 24
abbrev oP2 (g : Nat) : Obj := .cells #[.int .i64 34, .int .i64 0, .int .i64 0, .int .i64 0, .string sA, .slice none 0 0, .int .i64 63, .int .i64 0, .int .i64 0, .int .i64 0, .string bs0, .slice (some ⟨g, 0, none⟩) 2 2] 24
/-- the pattern p laid down -/
theorem lit_p {G : World} {g : Nat} (hg : G.heap.size = g) {X : World} (hX : X = ((G.alloc oP1).alloc (oP2 g)).alloc (nodeO gP (.slice (some ⟨g + 1, 0, none⟩) 2 2))) :
    X.heap[g + 1 + 1]? = some (nodeO gP (.slice (some ⟨g + 1, 0, none⟩) gP.kids.length 2)) ∧ IsNd anyB X (.slice (some ⟨g + 1, 0, none⟩) gP.kids.length 2) gP.kids ∧ Below G.heap.size G X := by
  subst hg hX
  refine ⟨heap_alloc_at _ _ (by simp), ?_, by (repeat (with_reducible first | exact Below.refl _ _ | (refine bl_set ?_ (by first | omega | (simp; done) | (simp; omega)) _) | refine bl_gr ?_ _ | refine bl_al ?_ _ | refine below_setRow ?_ (by first | omega | (simp; done) | (simp; omega)) _ | refine bl_drewN ?_ _ | refine Below.drew ?_ | (refine bl_tr ?_ (by assumption))))⟩
  refine nd_two (t := nmT sA) (t' := opT 63 [nmT sB, .mk 30 0 1 0 bs0 []]) (k := .slice none 0 0) (k' := .slice (some ⟨G.heap.size, 0, none⟩) 2 2) (T := 24) ?_ trivial .nil (nd_two (t := nmT sB) (t' := .mk 30 0 1 0 bs0 []) (k := .slice none 0 0) (k' := .slice none 0 0) (T := 24) ?_ trivial .nil .nil)
  · rw [heap_alloc_old _ _ (by simp)]
    exact heap_alloc_at _ _ (by simp)
  · rw [heap_alloc_old _ _ (by simp; omega), heap_alloc_old _ _ (by simp)]
    exact heap_alloc_new _ _
abbrev oQ1 : Obj := .cells #[.int .i64 31, .int .i64 0, .int .i64 0, .int .i64 0, .string sA, .slice none 0 0, .int .i64 34, .int .i64 0, .int .i64 0, .int .i64 0, .string sA, .slice none 0 0] 24
abbrev oQ2 : Obj := .cells #[.int .i64 34, .int .i64 0, .int .i64 0, .int .i64 0, .string sR, .slice none 0 0] 24
abbrev oQ3 (g h : Nat) : Obj := .cells #[.int .i64 62, .int .i64 0, .int .i64 0, .int .i64 0, .string bs0, .slice (some ⟨g, 0, none⟩) 2 2, .int .i64 64, .int .i64 0, .int .i64 0, .int .i64 0, .string bs0, .slice (some ⟨h, 0, none⟩) 1 1] 24
/-- the pattern q laid down -/
theorem lit_q {X : World} {pc pd : Regrown} {g h : Nat} (hg : X.heap.size + pc.os.size = g) (hh : X.heap.size + pc.os.size + 1 + pd.os.size = h) {Z : World} (hZ : Z = (((gr ((gr X pc).alloc oQ1) pd).alloc oQ2).alloc (oQ3 g h)).alloc (nodeO gQ (.slice (some ⟨h + 1, 0, none⟩) 2 2))) :
    Z.heap[h + 1 + 1]? = some (nodeO gQ (.slice (some ⟨h + 1, 0, none⟩) gQ.kids.length 2)) ∧ IsNd anyB Z (.slice (some ⟨h + 1, 0, none⟩) gQ.kids.length 2) gQ.kids ∧ Below X.heap.size X Z := by
  subst hZ
  have s1 : (gr X pc).heap.size = g := by rw [gr_size, hg]
  have s2 : ((gr X pc).alloc oQ1).heap.size = g + 1 := by rw [World.size_alloc, s1]
  have s3 : (gr ((gr X pc).alloc oQ1) pd).heap.size = h := by rw [gr_size, s2]; omega
  refine ⟨heap_alloc_at _ _ (by rw [World.size_alloc, World.size_alloc, s3]), ?_, by (repeat (with_reducible first | exact Below.refl _ _ | (refine bl_set ?_ (by first | omega | (simp; done) | (simp; omega)) _) | refine bl_gr ?_ _ | refine bl_al ?_ _ | refine below_setRow ?_ (by first | omega | (simp; done) | (simp; omega)) _ | refine bl_drewN ?_ _ | refine Below.drew ?_ | (refine bl_tr ?_ (by assumption))))⟩
  refine nd_two (t := opT 62 [.mk 31 0 0 0 sA [], nmT sA]) (t' := opT 64 [nmT sR]) (k := .slice (some ⟨g, 0, none⟩) 2 2) (k' := .slice (some ⟨h, 0, none⟩) 1 1) (T := 24) ?_ trivial (nd_two (t := .mk 31 0 0 0 sA []) (t' := nmT sA) (k := .slice none 0 0) (k' := .slice none 0 0) (T := 24) ?_ trivial .nil .nil) (nd_one (t := nmT sR) (k := .slice none 0 0) (T := 24) ?_ trivial .nil)
  · rw [heap_alloc_old _ _ (by rw [World.size_alloc, World.size_alloc, s3]; omega)]
    exact heap_alloc_at _ _ (by rw [World.size_alloc, s3])
  · rw [heap_alloc_old _ _ (by rw [World.size_alloc, World.size_alloc, s3]; omega), heap_alloc_old _ _ (by rw [World.size_alloc, s3]; omega), heap_alloc_old _ _ (by rw [s3]; omega), (below_gr _ pd).block g (by rw [s2]; omega)]
    exact heap_alloc_at _ _ s1
  · rw [heap_alloc_old _ _ (by rw [World.size_alloc, World.size_alloc, s3]; omega), heap_alloc_old _ _ (by rw [World.size_alloc, s3]; omega)]
    exact heap_alloc_at _ _ s3
theorem IsNd.lt {P : Nat → Prop} {w : World} {v : Value} {l : List Tree} (h : IsNd P w v l) : IsNd (fun b => b < w.heap.size) w v l := h.keep (Nat.le_refl _) fun b _ hlt => ⟨rfl, hlt⟩
theorem ok_nil : OkK [] := .mk (by simp) (by simp)
theorem ok_cons {t : Tree} {l : List Tree} (h : i64ok t.op ∧ i64ok t.at_ ∧ i64ok t.n ∧ i64ok t.m ∧ t.s.size ≤ maxLen) (hk : OkK t.kids) (hl : OkK l) : OkK (t :: l) := .mk (fun u hu => by
  rcases List.mem_cons.1 hu with rfl | hu
  · exact h
  · exact hl.at_ hu) (fun u hu => by
  rcases List.mem_cons.1 hu with rfl | hu
  · exact hk
  · exact hl.kids hu)
theorem ok_small {t : Tree} (h : decide (-1000 ≤ t.op ∧ t.op ≤ 1000 ∧ -1000 ≤ t.at_ ∧ t.at_ ≤ 1000 ∧ -1000 ≤ t.n ∧ t.n ≤ 1000 ∧ -1000 ≤ t.m ∧ t.m ≤ 1000 ∧ t.s.size ≤ 1000) = true) : i64ok t.op ∧ i64ok t.at_ ∧ i64ok t.n ∧ i64ok t.m ∧ t.s.size ≤ maxLen := by
  rw [decide_eq_true_eq] at h
  unfold i64ok maxLen
  omega
theorem gP_ok : OkK [gP] := ok_cons (ok_small rfl) (ok_cons (ok_small rfl) ok_nil (ok_cons (ok_small rfl) (ok_cons (ok_small rfl) ok_nil (ok_cons (ok_small rfl) ok_nil ok_nil)) ok_nil)) ok_nil
theorem gQ_ok : OkK [gQ] := ok_cons (ok_small rfl) (ok_cons (ok_small rfl) (ok_cons (ok_small rfl) ok_nil (ok_cons (ok_small rfl) ok_nil ok_nil)) (ok_cons (ok_small rfl) (ok_cons (ok_small rfl) ok_nil ok_nil) ok_nil)) ok_nil
theorem gP_size : sizeT gP ≤ 100000 := by simp [sizeT, sizeK]
theorem gQ_size : sizeT gQ ≤ 100000 := by simp [sizeT, sizeK]
/-- what goes reads of the steps of p -/
theorem read_p {w : World} {v : Value} (h : RdL w v (stepsT gP).1) : ∃ (c b off : Nat), v = .slice (some ⟨b, off, none⟩) 8 c ∧ b < w.heap.size ∧ w.cell? ⟨b, off + 22, none⟩ = some (.int .i64 5) ∧ w.cell? ⟨b, off + 23, none⟩ = some (.int .i64 2) ∧ w.cell? ⟨b, off + 55, none⟩ = some (.int .i64 9) ∧ w.cell? ⟨b, off + 56, none⟩ = some (.int .i64 3) ∧ w.cell? ⟨b, off + 77, none⟩ = some (.int .i64 8) := by
  rw [gP_steps] at h
  obtain ⟨A, c, rfl⟩ := h.form
  obtain ⟨_, _, _, _, b, off, rfl, hb, _, h2⟩ := h.get (q := 2) rfl
  obtain ⟨_, _, _, _, b', off', e, _, _, h5⟩ := h.get (q := 5) rfl
  simp only [Option.some.injEq, Addr.mk.injEq, and_true] at e
  obtain ⟨rfl, rfl⟩ := e
  obtain ⟨_, _, _, _, b', off', e, _, _, h7⟩ := h.get (q := 7) rfl
  simp only [Option.some.injEq, Addr.mk.injEq, and_true] at e
  obtain ⟨rfl, rfl⟩ := e
  exact ⟨c, b, off, rfl, hb, h2.1, h2.2.1, h5.1, h5.2.1, h7.1⟩
theorem read_q {w : World} {v : Value} (h : RdL w v (stepsT gQ).1) : ∃ (c b off c4 : Nat) (A4 : Option Addr), v = .slice (some ⟨b, off, none⟩) 6 c ∧ b < w.heap.size ∧ w.cell? ⟨b, off + 22, none⟩ = some (.int .i64 2) ∧ w.cell? ⟨b, off + 32, none⟩ = some (.slice A4 1 c4) ∧ w.cell? ⟨b, off + 44, none⟩ = some (.int .i64 3) ∧ w.cell? ⟨b, off + 45, none⟩ = some (.int .i64 3) := by
  rw [gQ_steps] at h
  obtain ⟨A, c, rfl⟩ := h.form
  obtain ⟨_, _, A4, c4, b, off, rfl, hb, _, h2⟩ := h.get (q := 2) rfl
  obtain ⟨_, _, _, _, b', off', e, _, _, h5⟩ := h.get (q := 4) rfl
  simp only [Option.some.injEq, Addr.mk.injEq, and_true] at e
  obtain ⟨rfl, rfl⟩ := e
  exact ⟨c, b, off, c4, A4, rfl, hb, h2.1, h2.2.2.2.2.2.2.2.2.2.2, h5.1, h5.2.1⟩
/-- what Steps answers, as it is read -/
def RetRd (X : World) (t : Tree) (a b : Int) (e : Ending) (Y : World) : Prop := ∃ v, e = .returned (.tuple #[v, .int .i64 a, .int .i64 b]) ∧ IsSt X.heap.size Y v (stepsT t).1 ∧ Below X.heap.size X Y
theorem RetSt.rd {X Y : World} {t : Tree} {e : Ending} {a b : Int} (h : RetSt X t e Y) (ha : (stepsT t).2.1 = a) (hb : (stepsT t).2.2 = b) : RetRd X t a b e Y := by
  subst ha hb
  exact h
set_option maxRecDepth 100000 in
set_option maxHeartbeats 8000000 in
theorem goes_any (w : World) (hp : PowTab w) : Calls Tryd.prog 8 #[] w fun e w' => e = .returned (.bool true) ∧ Below w.heap.size w w' := by
  have HP := Lib.hid hp
  have NA := Lib.hid (fun W => name_any sA W)
  have NB := Lib.hid (fun W => name_any sB W)
  have NR := Lib.hid (fun W => name_any sR W)
  clear hp
  go_enter Tryd.func8, Tryd.ntmps8
  go_upto_region 2 with (first | (go_at_call_of 23 (Value.string ⟨#[97]⟩); refine (callGr (NA.out _)).mono ?_; rintro e w' ⟨pa, rfl, rfl⟩) | (go_at_call_of 23 (Value.string ⟨#[98]⟩); refine (callGr (NB.out _)).mono ?_; rintro e w' ⟨pb, rfl, rfl⟩))
  have LP := Lib.hid (lit_p (G := gr w (rapp pa pb)) (g := w.heap.size + (rapp pa pb).os.size) (gr_size _ _) rfl)
  generalize w.heap.size + (rapp pa pb).os.size = g at *
  refine wpd_world (fun X => X.heap[g + 1 + 1]? = some (nodeO gP (.slice (some ⟨g + 1, 0, none⟩) gP.kids.length 2)) ∧ IsNd anyB X (.slice (some ⟨g + 1, 0, none⟩) gP.kids.length 2) gP.kids ∧ Below w.heap.size w X) ⟨LP.out.1, LP.out.2.1, bl_tr (bl_gr (Below.refl _ _) _) LP.out.2.2⟩ ?_
  clear LP
  intro X hX
  have XP := Lib.hid hX
  clear hX
  go_upto_region 3 with (first | (go_at_call_of 23 (Value.string ⟨#[97]⟩); refine (callGr (NA.out _)).mono ?_; rintro e w' ⟨pc, rfl, rfl⟩) | (go_at_call_of 23 (Value.string ⟨#[114]⟩); refine (callGr (NR.out _)).mono ?_; rintro e w' ⟨pd, rfl, rfl⟩))
  have LQ := Lib.hid (lit_q (X := X) (pc := pc) (pd := pd) rfl rfl rfl)
  generalize X.heap.size + pc.os.size = g2 at *
  generalize g2 + 1 + pd.os.size = h2 at *
  refine wpd_world (fun Z => (Z.heap[g + 1 + 1]? = some (nodeO gP (.slice (some ⟨g + 1, 0, none⟩) gP.kids.length 2)) ∧ IsNd anyB Z (.slice (some ⟨g + 1, 0, none⟩) gP.kids.length 2) gP.kids) ∧ (Z.heap[h2 + 1 + 1]? = some (nodeO gQ (.slice (some ⟨h2 + 1, 0, none⟩) gQ.kids.length 2)) ∧ IsNd anyB Z (.slice (some ⟨h2 + 1, 0, none⟩) gQ.kids.length 2) gQ.kids) ∧ Below w.heap.size w Z)
    ⟨⟨(LQ.out.2.2.block _ (Array.getElem?_eq_some_iff.1 XP.out.1).1).trans XP.out.1, XP.out.2.1.bel LQ.out.2.2⟩, ⟨LQ.out.1, LQ.out.2.1⟩, bl_tr XP.out.2.2 LQ.out.2.2⟩ ?_
  clear LQ XP NA NB NR
  intro Z hZ
  have XZ := Lib.hid hZ
  have LZ := Lib.hid (And.intro (Array.getElem?_eq_some_iff.1 hZ.1.1).1 (Array.getElem?_eq_some_iff.1 hZ.2.1.1).1)
  have SP := Lib.hid (fun V (hV : Below Z.heap.size Z V) => (steps_any gP (some ⟨g + 1, 0, none⟩) 2 V gP_size ((hZ.1.2.bel hV).lt) gP_ok (HP.out.bel (bl_tr hZ.2.2 hV))).mono fun e Y h => h.rd (a := 4) (b := 0) (by rw [gP_steps]) (by rw [gP_steps]))
  have SQ := Lib.hid (fun V (hV : Below Z.heap.size Z V) => (steps_any gQ (some ⟨h2 + 1, 0, none⟩) 2 V gQ_size ((hZ.2.1.2.bel hV).lt) gQ_ok (HP.out.bel (bl_tr hZ.2.2 hV))).mono fun e Y h => h.rd (a := 4) (b := 0) (by rw [gQ_steps]) (by rw [gQ_steps]))
  have DP := Lib.hid (fun V (hV : Below Z.heap.size Z V) => by have := deep_any anyB gP (some ⟨g + 1, 0, none⟩) 2 V gP_size (hZ.1.2.bel hV); rw [gP_deep] at this; exact this)
  obtain ⟨⟨a0, a1, a2, a3, a4, a5⟩, _⟩ := cells6n hZ.1.1
  have l1 := LZ.out.1
  clear hZ HP
  go_upto_region 4 with (go_at_call 10; go_loud (refine (SP.out _ (Below.refl _ _)).mono ?_; rintro e Y ⟨v, rfl, y1, y2⟩; have YS := Lib.hid (And.intro y1.rd y2); obtain ⟨cp, bp, op, rfl, -⟩ := read_p y1.rd; clear y1 y2))
  have BY := Lib.hid (And.intro ((YS.out.2.block _ LZ.out.1).trans XZ.out.1.1) ((YS.out.2.block _ LZ.out.2).trans XZ.out.2.1.1))
  obtain ⟨⟨b0, b1, b2, b3, b4, b5⟩, _⟩ := cells6n BY.out.2
  have l2 : h2 + 1 + 1 < Y.heap.size := Nat.lt_of_lt_of_le LZ.out.2 YS.out.2.size
  clear a0 a1 a2 a3 a4 a5 l1
  go_wp2_with (first | (go_at_call 10; go_loud (refine (SQ.out _ (bl_tr YS.out.2 (show Below Y.heap.size Y _ by (repeat (with_reducible first | exact Below.refl _ _ | (refine bl_set ?_ (by first | omega | (simp; done) | (simp; omega)) _) | refine bl_gr ?_ _ | refine bl_al ?_ _ | refine below_setRow ?_ (by first | omega | (simp; done) | (simp; omega)) _ | refine bl_drewN ?_ _ | refine Below.drew ?_ | (refine bl_tr ?_ (by assumption))))))).mono ?_; rintro e V ⟨v, rfl, y1, y2⟩; have VB := Lib.hid (show Below Y.heap.size Y V from bl_tr (by (repeat (with_reducible first | exact Below.refl _ _ | (refine bl_set ?_ (by first | omega | (simp; done) | (simp; omega)) _) | refine bl_gr ?_ _ | refine bl_al ?_ _ | refine below_setRow ?_ (by first | omega | (simp; done) | (simp; omega)) _ | refine bl_drewN ?_ _ | refine Below.drew ?_ | (refine bl_tr ?_ (by assumption))))) y2); have VZ := Lib.hid (bl_tr XZ.out.2.2 (bl_tr YS.out.2 VB.out)); obtain ⟨⟨c0, c1, c2, c3, c4, c5⟩, _⟩ := cells6n ((VB.out.block _ (Nat.lt_of_lt_of_le LZ.out.1 YS.out.2.size)).trans BY.out.1); have l3 : g + 1 + 1 < V.heap.size := Nat.lt_of_lt_of_le (Nat.lt_of_lt_of_le LZ.out.1 YS.out.2.size) VB.out.size; obtain ⟨cp', bp', op', e1, l4, f0, f1, f2, f3, f4⟩ := read_p (YS.out.1.below VB.out); simp only [Value.slice.injEq, Option.some.injEq, Addr.mk.injEq, and_true, true_and] at e1; obtain ⟨⟨rfl, rfl⟩, rfl⟩ := e1; obtain ⟨cq, bq, oq, cr, Ar, rfl, l5, g0, g1, g2', g3⟩ := read_q y1.rd; clear y1 y2 b0 b1 b2 b3 b4 b5 l2)) | (go_at_call 14; go_loud (refine (DP.out _ (bl_tr YS.out.2 (bl_tr VB.out (show Below V.heap.size V _ by (repeat (with_reducible first | exact Below.refl _ _ | (refine bl_set ?_ (by first | omega | (simp; done) | (simp; omega)) _) | refine bl_gr ?_ _ | refine bl_al ?_ _ | refine below_setRow ?_ (by first | omega | (simp; done) | (simp; omega)) _ | refine bl_drewN ?_ _ | refine Below.drew ?_ | (refine bl_tr ?_ (by assumption)))))))).mono ?_; rintro e U ⟨rfl, hu⟩; have UB := Lib.hid (bl_tr VZ.out (show Below V.heap.size V U from bl_tr (by (repeat (with_reducible first | exact Below.refl _ _ | (refine bl_set ?_ (by first | omega | (simp; done) | (simp; omega)) _) | refine bl_gr ?_ _ | refine bl_al ?_ _ | refine below_setRow ?_ (by first | omega | (simp; done) | (simp; omega)) _ | refine bl_drewN ?_ _ | refine Below.drew ?_ | (refine bl_tr ?_ (by assumption))))) hu)); clear hu)))
  go_ret
  exact ⟨rfl, UB.out⟩
end Go.Proofs.YtiagegecnopfgaaDoor
