/- Code objects and images as they stand in memory; arguments opened. -/
import Derived.Test.YtcmpgohpncnagaaOwn
namespace Go.Proofs.Ytcmpgohpncnagaa
set_option linter.all false
open Go.ChangeShapes Go.WideShapes Go.ChangeAt Go.RowKit Go.Sort Go.Deep

/-- an instruction -/
structure InsD where
  op : Int
  a : Int
  b : Int
  c : Int
deriving DecidableEq
abbrev InsD.cs (x : InsD) : List Value := [.int .i64 x.op, .int .i64 x.a, .int .i64 x.b, .int .i64 x.c]
abbrev InsD.agg (x : InsD) : Value := .agg #[.int .i64 x.op, .int .i64 x.a, .int .i64 x.b, .int .i64 x.c]
def InsD.ok (x : InsD) : Prop := i64ok x.op ∧ i64ok x.a ∧ i64ok x.b ∧ i64ok x.c
instance : Inhabited InsD := ⟨⟨0, 0, 0, 0⟩⟩
/-- a handler -/
structure GrdD where
  f : Int
  t : Int
  g : Int
  r : Int
deriving DecidableEq
abbrev GrdD.cs (x : GrdD) : List Value := [.int .i64 x.f, .int .i64 x.t, .int .i64 x.g, .int .i64 x.r]
abbrev GrdD.agg (x : GrdD) : Value := .agg #[.int .i64 x.f, .int .i64 x.t, .int .i64 x.g, .int .i64 x.r]
def GrdD.ok (x : GrdD) : Prop := i64ok x.f ∧ i64ok x.t ∧ i64ok x.g ∧ i64ok x.r
instance : Inhabited GrdD := ⟨⟨0, 0, 0, 0⟩⟩
theorem ins_len (x : InsD) : (InsD.cs x).length = 4 := rfl
theorem grd_len (x : GrdD) : (GrdD.cs x).length = 4 := rfl
abbrev IsI4 (w : World) (v : Value) (xs : List InsD) : Prop := SlOf w 4 InsD.cs v xs
abbrev IsG4 (w : World) (v : Value) (xs : List GrdD) : Prop := SlOf w 4 GrdD.cs v xs
/-- a code object -/
structure CodeD where
  nm : ByteArray
  kd : Int
  ln : Int
  rg : Int
  ins : List InsD
  pl : List Val
  ks : List Val
  gs : List GrdD
abbrev codeV (nm : ByteArray) (kd ln rg : Int) (i p k g : Value) : Value := .agg #[.string nm, .int .i64 kd, .int .i64 ln, .int .i64 rg, i, p, k, g]
/-- .. its slices as they stand -/
structure CodeR where
  nm : ByteArray
  kd : Int
  ln : Int
  rg : Int
  i : Value
  p : Value
  k : Value
  g : Value
abbrev CodeR.cs (c : CodeR) : List Value := [.string c.nm, .int .i64 c.kd, .int .i64 c.ln, .int .i64 c.rg, c.i, c.p, c.k, c.g]
instance : Inhabited CodeD := ⟨⟨⟨#[]⟩, 0, 0, 0, [], [], [], []⟩⟩
instance : Inhabited CodeR := ⟨⟨⟨#[]⟩, 0, 0, 0, .nilFunc, .nilFunc, .nilFunc, .nilFunc⟩⟩
theorem cdr_len (x : CodeR) : (CodeR.cs x).length = 8 := rfl
def CodeD.ok (c : CodeD) : Prop := c.nm.size ≤ maxLen ∧ i64ok c.kd ∧ i64ok c.ln ∧ i64ok c.rg ∧ (∀ x ∈ c.ins, x.ok) ∧ (∀ x ∈ c.pl, x.ok) ∧ (∀ x ∈ c.ks, x.ok) ∧ (∀ x ∈ c.gs, x.ok)
/-- the four slices of a code object hold its lists -/
structure Cd4 (w : World) (i p k g : Value) (c : CodeD) : Prop where
  i : IsI4 w i c.ins
  p : IsV w p c.pl
  k : SlOf w 3 Val.cs k c.ks
  g : IsG4 w g c.gs
theorem Cd4.below {w w' : World} {i p k g : Value} {c : CodeD} (h : Cd4 w i p k g c) (hb : Below w.heap.size w w') : Cd4 w' i p k g c := ⟨h.i.below hb, h.p.below hb, h.k.below hb, h.g.below hb⟩
def Holds8 (w : World) (r : CodeR) (c : CodeD) : Prop := r.nm = c.nm ∧ r.kd = c.kd ∧ r.ln = c.ln ∧ r.rg = c.rg ∧ Cd4 w r.i r.p r.k r.g c
theorem Holds8.below {w w' : World} {r : CodeR} {c : CodeD} (h : Holds8 w r c) (hb : Below w.heap.size w w') : Holds8 w' r c := ⟨h.1, h.2.1, h.2.2.1, h.2.2.2.1, h.2.2.2.2.below hb⟩
/-- a slice of code objects that reads as l -/
def IsCd (w : World) (v : Value) (l : List CodeD) : Prop := ∃ rs : List CodeR, SlOf w 8 CodeR.cs v rs ∧ rs.length = l.length ∧ ∀ (i : Nat) (r : CodeR) (c : CodeD), rs[i]? = some r → l[i]? = some c → Holds8 w r c
theorem IsCd.below {w w' : World} {v : Value} {l : List CodeD} (h : IsCd w v l) (hb : Below w.heap.size w w') : IsCd w' v l := by
  obtain ⟨rs, h1, h2, h3⟩ := h
  exact ⟨rs, h1.below hb, h2, fun i r c hr hc => (h3 i r c hr hc).below hb⟩

section
variable {H : Type} {enc : TypeId × Value → H} {w : World} {base : Nat} {spare : Nat → Bool} {held : Bool}
set_option maxRecDepth 100000 in
theorem open_ins {m : Nat} {cs : List Value} {x : DataW H × List MemPlace} (h : DataW.trod enc Try.prog w base spare held m 45 cs = some x) : ∃ r : InsD, cs = r.cs ∧ r.ok := by
  obtain ⟨xs, m, _, _, hlen, hl, hf⟩ := DataW.trod_struct Try.underlying45 h
  have hC : Try.prog.cellsOf 45 = 4 := by kernel_rfl
  rw [hC] at hlen
  match cs, hlen with
  | [c0, c1, c2, c3], _ =>
    match xs, hl with
    | [y0, y1, y2, y3], _ =>
      have ci : Try.prog.cellsOf 3 = 1 := by kernel_rfl
      have h0 := hf 0 _ rfl
      have h1 := hf 1 _ rfl
      have h2 := hf 2 _ rfl
      have h3 := hf 3 _ rfl
      simp only [List.getElem_toArray, List.getElem_cons_zero, List.getElem_cons_succ, ci, List.drop_zero, List.drop_succ_cons, List.take_succ_cons, List.take_zero, List.getElem?_cons_zero, List.getElem?_cons_succ] at h0 h1 h2 h3
      obtain ⟨a, e0, _, w0⟩ := DataW.trod_int Try.underlying3 h0
      obtain ⟨b, e1, _, w1⟩ := DataW.trod_int Try.underlying3 h1
      obtain ⟨c, e2, _, w2⟩ := DataW.trod_int Try.underlying3 h2
      obtain ⟨d, e3, _, w3⟩ := DataW.trod_int Try.underlying3 h3
      simp only [List.cons.injEq, and_true] at e0 e1 e2 e3
      exact ⟨⟨a, b, c, d⟩, by rw [e0, e1, e2, e3], wf_i64ok w0, wf_i64ok w1, wf_i64ok w2, wf_i64ok w3⟩
set_option maxRecDepth 100000 in
theorem open_grd {m : Nat} {cs : List Value} {x : DataW H × List MemPlace} (h : DataW.trod enc Try.prog w base spare held m 48 cs = some x) : ∃ r : GrdD, cs = r.cs ∧ r.ok := by
  obtain ⟨xs, m, _, _, hlen, hl, hf⟩ := DataW.trod_struct Try.underlying48 h
  have hC : Try.prog.cellsOf 48 = 4 := by kernel_rfl
  rw [hC] at hlen
  match cs, hlen with
  | [c0, c1, c2, c3], _ =>
    match xs, hl with
    | [y0, y1, y2, y3], _ =>
      have ci : Try.prog.cellsOf 3 = 1 := by kernel_rfl
      have h0 := hf 0 _ rfl
      have h1 := hf 1 _ rfl
      have h2 := hf 2 _ rfl
      have h3 := hf 3 _ rfl
      simp only [List.getElem_toArray, List.getElem_cons_zero, List.getElem_cons_succ, ci, List.drop_zero, List.drop_succ_cons, List.take_succ_cons, List.take_zero, List.getElem?_cons_zero, List.getElem?_cons_succ] at h0 h1 h2 h3
      obtain ⟨a, e0, _, w0⟩ := DataW.trod_int Try.underlying3 h0
      obtain ⟨b, e1, _, w1⟩ := DataW.trod_int Try.underlying3 h1
      obtain ⟨c, e2, _, w2⟩ := DataW.trod_int Try.underlying3 h2
      obtain ⟨d, e3, _, w3⟩ := DataW.trod_int Try.underlying3 h3
      simp only [List.cons.injEq, and_true] at e0 e1 e2 e3
      exact ⟨⟨a, b, c, d⟩, by rw [e0, e1, e2, e3], wf_i64ok w0, wf_i64ok w1, wf_i64ok w2, wf_i64ok w3⟩
set_option maxRecDepth 100000 in
theorem open_code {m : Nat} {cs : List Value} {x : DataW H × List MemPlace} (h : DataW.trod enc Try.prog w base spare held m 27 cs = some x) : ∃ r : CodeR, cs = r.cs ∧ ∃ c : CodeD, Holds8 w r c ∧ c.ok := by
  obtain ⟨xs, m, _, _, hlen, hl, hf⟩ := DataW.trod_struct Try.underlying27 h
  have hC : Try.prog.cellsOf 27 = 8 := by kernel_rfl
  rw [hC] at hlen
  match cs, hlen with
  | [c0, c1, c2, c3, c4, c5, c6, c7], _ =>
    match xs, hl with
    | [y0, y1, y2, y3, y4, y5, y6, y7], _ =>
      have ci : Try.prog.cellsOf 3 = 1 := by kernel_rfl
      have cst : Try.prog.cellsOf 9 = 1 := by kernel_rfl
      have c4' : Try.prog.cellsOf 22 = 1 := by kernel_rfl
      have c5' : Try.prog.cellsOf 23 = 1 := by kernel_rfl
      have c6' : Try.prog.cellsOf 24 = 1 := by kernel_rfl
      have c7' : Try.prog.cellsOf 25 = 1 := by kernel_rfl
      have h0 := hf 0 _ rfl
      have h1 := hf 1 _ rfl
      have h2 := hf 2 _ rfl
      have h3 := hf 3 _ rfl
      have h4 := hf 4 _ rfl
      have h5 := hf 5 _ rfl
      have h6 := hf 6 _ rfl
      have h7 := hf 7 _ rfl
      simp only [List.getElem_toArray, List.getElem_cons_zero, List.getElem_cons_succ, ci, cst, c4', c5', c6', c7', List.drop_zero, List.drop_succ_cons, List.take_succ_cons, List.take_zero, List.getElem?_cons_zero, List.getElem?_cons_succ] at h0 h1 h2 h3 h4 h5 h6 h7
      obtain ⟨s, e0, _, w0⟩ := DataW.trod_string Try.underlying9 h0
      obtain ⟨b, e1, _, w1⟩ := DataW.trod_int Try.underlying3 h1
      obtain ⟨c, e2, _, w2⟩ := DataW.trod_int Try.underlying3 h2
      obtain ⟨d, e3, _, w3⟩ := DataW.trod_int Try.underlying3 h3
      obtain ⟨v4, l4, e4, k4, o4⟩ := open_sl (α := InsD) (en := InsD.cs) (ok := InsD.ok) Try.underlying22 (n := 4) (by kernel_rfl) (by omega) (fun _ _ _ h => open_ins h) h4
      obtain ⟨v5, l5, e5, k5, o5⟩ := open_sl (α := Val) (en := Val.cs) (ok := Val.ok) Try.underlying23 (n := 3) (by kernel_rfl) (by omega) (fun _ _ _ h => open_val h) h5
      obtain ⟨v6, l6, e6, k6, o6⟩ := open_sl (α := Val) (en := Val.cs) (ok := Val.ok) Try.underlying24 (n := 3) (by kernel_rfl) (by omega) (fun _ _ _ h => open_key h) h6
      obtain ⟨v7, l7, e7, k7, o7⟩ := open_sl (α := GrdD) (en := GrdD.cs) (ok := GrdD.ok) Try.underlying25 (n := 4) (by kernel_rfl) (by omega) (fun _ _ _ h => open_grd h) h7
      simp only [List.cons.injEq, and_true] at e0 e1 e2 e3 e4 e5 e6 e7
      exact ⟨⟨s, b, c, d, v4, v5, v6, v7⟩, by rw [e0, e1, e2, e3, e4, e5, e6, e7], ⟨s, b, c, d, l4, l5, l6, l7⟩, ⟨rfl, rfl, rfl, rfl, k4, k5, k6, k7⟩, w0, wf_i64ok w1, wf_i64ok w2, wf_i64ok w3, o4, o5, o6, o7⟩
set_option maxRecDepth 100000 in
theorem arg_code {v : Value} {d : DataW H} {p : List MemPlace} {r : Reach} {b0 : Nat} (hv : Value.okWide Try.prog w r b0 27 v) (h : DataW.Trod enc Try.prog w base spare held 27 v d p) :
    ∃ (i p k g : Value) (c : CodeD), v = codeV c.nm c.kd c.ln c.rg i p k g ∧ Cd4 w i p k g c ∧ c.ok := by
  obtain ⟨cs, n, rfl, hn⟩ := trod_agg Try.underlying27 hv h
  obtain ⟨x, rfl, c, ⟨h1, h2, h3, h4, h5⟩, hk⟩ := open_code hn
  exact ⟨x.i, x.p, x.k, x.g, c, by rw [← h1, ← h2, ← h3, ← h4], h5, hk⟩
set_option maxRecDepth 100000 in
theorem open_codes {m : Nat} {cs : List Value} {x : DataW H × List MemPlace} (h : DataW.trod enc Try.prog w base spare held m 37 cs = some x) : ∃ (v : Value) (l : List CodeD), cs = [v] ∧ IsCd w v l ∧ ∀ c ∈ l, c.ok := by
  obtain ⟨v, rs, rfl, hs, hok⟩ := open_sl (α := CodeR) (en := CodeR.cs) (ok := fun r => ∃ c : CodeD, Holds8 w r c ∧ c.ok) Try.underlying37 (n := 8) (by kernel_rfl) (by omega) (fun _ _ _ h => open_code h) h
  have hex : ∀ i, i < rs.length → ∃ c : CodeD, ∀ r, rs[i]? = some r → Holds8 w r c ∧ c.ok := fun i hi => by
    obtain ⟨c, hc⟩ := hok _ (List.getElem_mem hi)
    exact ⟨c, fun r hr => by rw [List.getElem?_eq_getElem hi] at hr; cases hr; exact hc⟩
  obtain ⟨f, hf⟩ := choose_lt hex
  refine ⟨v, (List.range rs.length).map f, rfl, ⟨rs, hs, by simp, fun i r c hr hc => ?_⟩, fun c hc => ?_⟩
  · have hi := (List.getElem?_eq_some_iff.1 hr).1
    simp [hi] at hc
    subst hc
    exact (hf i hi r hr).1
  · obtain ⟨i, hi, rfl⟩ := List.mem_map.1 hc
    have hi' : i < rs.length := by simpa using hi
    exact (hf i hi' _ (List.getElem?_eq_getElem hi')).2
abbrev imgV (v : Value) : Value := .agg #[v]
set_option maxRecDepth 100000 in
theorem arg_image {v : Value} {d : DataW H} {p : List MemPlace} {r : Reach} {b0 : Nat} (hv : Value.okWide Try.prog w r b0 39 v) (h : DataW.Trod enc Try.prog w base spare held 39 v d p) :
    ∃ (s : Value) (l : List CodeD), v = imgV s ∧ IsCd w s l ∧ ∀ c ∈ l, c.ok := by
  obtain ⟨cs, n, rfl, hn⟩ := trod_agg Try.underlying39 hv h
  obtain ⟨xs, m, _, _, hlen, hl, hf⟩ := DataW.trod_struct Try.underlying39 hn
  have hC : Try.prog.cellsOf 39 = 1 := by kernel_rfl
  rw [hC] at hlen
  match cs, hlen with
  | [c0], _ =>
    match xs, hl with
    | [y0], _ =>
      have c4' : Try.prog.cellsOf 37 = 1 := by kernel_rfl
      have h0 := hf 0 _ rfl
      simp only [List.getElem_toArray, List.getElem_cons_zero, c4', List.drop_zero, List.take_succ_cons, List.take_zero, List.getElem?_cons_zero] at h0
      obtain ⟨s, l, e0, h1, h2⟩ := open_codes h0
      simp only [List.cons.injEq, and_true] at e0
      exact ⟨s, l, by rw [e0], h1, h2⟩
end
end Go.Proofs.Ytcmpgohpncnagaa
