/- The reference's apart, walked. -/
import Derived.Test.YtiagegecnopfgaaDoorPcC
namespace Go.Proofs.YtiagegecnopfgaaDoor
set_option linter.all false
open Go.ChangeShapes Go.WideShapes Go.ChangeAt Go.RowKit Go.Sort Go.Deep
variable {E : Nat → Prop}

def HoldR (E : Nat → Prop) (lo : Nat) (X : World) (r : StepR) : Prop := IsNd (fun b => b < lo) X r.nk r.d.nd.kids ∧ IsKs E lo X r.ks r.d.ks
theorem HoldR.touch {F : Nat → Prop} {lo : Nat} {X Y : World} {r : StepR} (h : HoldR E lo X r) (ht : Touch F X Y) (hF : ∀ b, F b → b < X.heap.size → lo ≤ b ∧ ((∃ cs, X.heap[b]? = some (Obj.cells cs 3)) → E b)) : HoldR E lo Y r :=
  ⟨h.1.keep ht.size fun b hp hlt => ⟨ht.block b hlt (fun e => by have := (hF b e hlt).1; omega), hp⟩, h.2.keep ht.size fun b hp hlt => ht.block b hlt fun e => hp.2.1 ((hF b e hlt).2 hp.2.2)⟩
/-- a list of steps in a row of its own -/
def RowR (E : Nat → Prop) (lo : Nat) (v : Value) (n : Nat) (rs : List StepR) (X : World) : Prop := rs.length = n ∧ X.ownsRow lo 55 11 v n (flat StepR.cs rs) ∧ ∀ r ∈ rs, HoldR E lo X r
theorem RowR.touch {F : Nat → Prop} {lo n : Nat} {v : Value} {rs : List StepR} {X Y : World} (h : RowR E lo v n rs X) (ht : Touch F X Y) (hF : ∀ b, F b → b < X.heap.size → lo ≤ b ∧ ((∃ cs, X.heap[b]? = some (Obj.cells cs 3)) → E b)) (hr : ∀ g, v.ownBlock = some g → ¬ F g) : RowR E lo v n rs Y :=
  ⟨h.1, ownsRow_touch h.2.1 ht (fun g hg e => hr g hg e), fun r hr' => (h.2.2 r hr').touch ht hF⟩
theorem RowR.below {lo n : Nat} {v : Value} {rs : List StepR} {X Y : World} (h : RowR E lo v n rs X) (hb : Below X.heap.size X Y) : RowR E lo v n rs Y := h.touch (F := fun _ => False) (Touch.of_below hb) (fun _ e => e.elim) (fun _ _ e => e)
theorem RowR.typ {lo n : Nat} {v : Value} {rs : List StepR} {X : World} (h : RowR E lo v n rs X) {b : Nat} {cs : Array Value} {T : TypeId} (hb : X.heap[b]? = some (Obj.cells cs T)) (hT : T ≠ 55) : ¬ v.ownBlock = some b := fun e => by
  obtain ⟨cs', e2⟩ := own_typeN h.2.1 b e
  rw [hb] at e2
  simp only [Option.some.injEq, Obj.cells.injEq] at e2
  exact hT e2.2.1
theorem RowR.own {lo n : Nat} {v : Value} {rs : List StepR} {X : World} (h : RowR E lo v n rs X) : ∀ b, v.ownBlock = some b → b < X.heap.size → lo ≤ b ∧ ((∃ cs, X.heap[b]? = some (Obj.cells cs 3)) → E b) := fun b hb _ => ⟨(own_ltN h.2.1 b hb).1, fun ⟨cs, hc⟩ => absurd hb (h.typ hc (by decide))⟩
theorem RowR.app {lo n g c : Nat} {v : Value} {rs : List StepR} {r : StepR} {V Z : World} (h : RowR E lo v n rs V) (hr : HoldR E lo V r) (o : Z.ownsRow lo 55 11 (.slice (some ⟨g, 0, none⟩) (n + 1) c) (n + 1) (flat StepR.cs (rs ++ [r]))) (hg : V.grownBy Z v.ownBlock) :
    RowR E lo (.slice (some ⟨g, 0, none⟩) (n + 1) c) (n + 1) (rs ++ [r]) Z := by
  have T := touch_grownE hg
  refine ⟨by simp [h.1], o, fun x hx => ?_⟩
  rcases List.mem_append.1 hx with hx | hx
  · exact (h.2.2 x hx).touch T fun b hb hl => h.own b hb hl
  · rw [List.mem_singleton.1 hx]
    exact hr.touch T fun b hb hl => h.own b hb hl
/-- only the row was touched; where the new row lies -/
def Rel (v : Value) (X Y : World) (v' : Value) : Prop := Touch (fun b => v.ownBlock = some b) X Y ∧ ∀ g, v'.ownBlock = some g → v.ownBlock = some g ∨ X.heap.size ≤ g
theorem Rel.trans {v v' v2 : Value} {X Y Z : World} (h : Rel v X Y v') (k : Rel v' Y Z v2) : Rel v X Z v2 := by
  refine ⟨Touch.trans h.1 k.1 fun b hb e => ?_, fun g hg => ?_⟩
  · rcases h.2 b e with h1 | h1
    · exact h1
    · omega
  · rcases k.2 g hg with h1 | h1
    · exact h.2 g h1
    · exact .inr (Nat.le_trans h.1.size h1)
theorem Rel.below {v : Value} {X Y : World} (h : Below X.heap.size X Y) : Rel v X Y v := ⟨Touch.of_below h, fun _ hg => .inl hg⟩
theorem Rel.toNil {v v' : Value} {X Y : World} (h : Rel v X Y v') : Rel v X Y (.slice none 0 0) := ⟨h.1, fun g hg => by simp [Value.ownBlock] at hg⟩
theorem Rel.app {v : Value} {X Y : World} {g n c : Nat} (hg : X.grownBy Y v.ownBlock) (hw : v.ownBlock = some g ∨ g = X.heap.size) : Rel v X Y (.slice (some ⟨g, 0, none⟩) n c) := ⟨touch_grownE hg, fun k hk => by
  simp only [Value.ownBlock, Option.some.injEq] at hk
  subst hk
  rcases hw with h | h
  · exact .inl h
  · exact .inr (by omega)⟩
theorem Rel.size {v v' : Value} {X Y : World} (h : Rel v X Y v') : X.heap.size ≤ Y.heap.size := Touch.size h.1
/-- blocks of another type stay -/
theorem Rel.box {lo n b : Nat} {v v' : Value} {rs : List StepR} {X Y : World} (h : Rel v X Y v') (hr : RowR E lo v n rs X) {cs : Array Value} {T : TypeId} (hb : X.heap[b]? = some (Obj.cells cs T)) (hT : T ≠ 55) : Y.heap[b]? = some (Obj.cells cs T) := (h.1.block b (Array.getElem?_eq_some_iff.1 hb).1 (hr.typ hb hT)).trans hb
/-- old blocks stay -/
theorem Rel.low {lo n : Nat} {v v' : Value} {rs : List StepR} {X Y : World} (h : Rel v X Y v') (hr : RowR E lo v n rs X) (hl : lo ≤ X.heap.size) : ∀ b, b < lo → Y.heap[b]? = X.heap[b]? := fun b hb => h.1.block b (by omega) fun e => by have := (own_ltN hr.2.1 b e).1; omega
abbrev nilS : Value := .slice none 0 0
def RetB (v : Value) (X : World) (e : Ending) (Y : World) : Prop := e = .returned (.tuple #[nilS, .int .i64 0, .bool false]) ∧ Rel v X Y nilS
def RetK (E : Nat → Prop) (lo : Nat) (v : Value) (X : World) (y : Mk) (e : Ending) (Y : World) : Prop := ∃ (B : Option Addr) (n c : Nat) (rs : List StepR), e = .returned (.tuple #[.slice B n c, .int .i64 y.g, .bool true]) ∧ RowR E lo (.slice B n c) n rs Y ∧ rs.map (·.d) = y.l ∧ Rel v X Y (.slice B n c)
def RetRf (E : Nat → Prop) (lo : Nat) (v : Value) (X : World) (y : Mk) (e : Ending) (Y : World) : Prop := (y.b = true ∧ RetB v X e Y) ∨ (y.b = false ∧ RetK E lo v X y e Y)
theorem RetRf.bad {lo : Nat} {v : Value} {X : World} {y : Mk} {e : Ending} {Y : World} (h : RetRf E lo v X y e Y) (hb : y.b = true) : RetB v X e Y := by
  rcases h with h | h
  · exact h.2
  · rw [hb] at h
    cases h.1
theorem RetRf.good {lo : Nat} {v : Value} {X : World} {y : Mk} {e : Ending} {Y : World} (h : RetRf E lo v X y e Y) (hb : y.b = false) : RetK E lo v X y e Y := by
  rcases h with h | h
  · rw [hb] at h
    cases h.1
  · exact h.2
/-- what a part starts from -/
def ReS (E : Nat → Prop) (lo : Nat) (v : Value) (n : Nat) (rs : List StepR) (X : World) : Prop := lo ≤ X.heap.size ∧ (∀ b, E b → b < X.heap.size) ∧ RowR E lo v n rs X
theorem ReS.below {lo n : Nat} {v : Value} {rs : List StepR} {X Y : World} (h : ReS E lo v n rs X) (hb : Below X.heap.size X Y) : ReS E lo v n rs Y := ⟨Nat.le_trans h.1 hb.size, fun b e => Nat.lt_of_lt_of_le (h.2.1 b e) hb.size, h.2.2.below hb⟩
theorem ReS.app {lo n g c : Nat} {v : Value} {rs : List StepR} {r : StepR} {V Z : World} (h : ReS E lo v n rs V) (hr : HoldR E lo V r) (o : Z.ownsRow lo 55 11 (.slice (some ⟨g, 0, none⟩) (n + 1) c) (n + 1) (flat StepR.cs (rs ++ [r]))) (hg : V.grownBy Z v.ownBlock) :
    ReS E lo (.slice (some ⟨g, 0, none⟩) (n + 1) c) (n + 1) (rs ++ [r]) Z := ⟨Nat.le_trans h.1 (touch_grownE hg).size, fun b e => Nat.lt_of_lt_of_le (h.2.1 b e) (touch_grownE hg).size, h.2.2.app hr o hg⟩
def mkR (rs : List StepR) (g : Int) : Mk := ⟨rs.map (·.d), g, false⟩
theorem mkR_lay (rs : List StepR) (g : Int) (r : StepR) : mkR (rs ++ [r]) g = (mkR rs g).lay r.d := by simp [mkR, Mk.lay]
def ApRC (N : Nat) : Prop := ∀ (E : Nat → Prop) (lo : Nat) (B : Option Addr) (n c : Nat) (rs : List StepR) (t : Tree) (A : Option Addr) (ct : Nat) (g r : Int) (X : World), sizeT t < N → ReS E lo (.slice B n c) n rs X → IsNd (fun b => b < lo) X (.slice A t.kids.length ct) t.kids → OkK [t] → Bd (mkR rs g) (sizeT t) →
  Calls Tryd.prog 25 #[.slice B n c, .int .i64 g, .int .i64 r, nodeV t (.slice A t.kids.length ct)] X (RetRf E lo (.slice B n c) X (apT t r (mkR rs g)))
def ObRC (N : Nat) : Prop := ∀ (E : Nat → Prop) (lo : Nat) (B : Option Addr) (n c : Nat) (rs : List StepR) (t : Tree) (A : Option Addr) (ct : Nat) (g r : Int) (X : World), sizeT t < N → ReS E lo (.slice B n c) n rs X → IsNd (fun b => b < lo) X (.slice A t.kids.length ct) t.kids → OkK [t] → Bd (mkR rs g) (sizeT t) →
  Calls Tryd.prog 32 #[.slice B n c, .int .i64 g, .int .i64 r, nodeV t (.slice A t.kids.length ct)] X (RetRf E lo (.slice B n c) X (obT (restK t.kids) t.kids r [] ((mkR rs g).lay ⟨1, 0, r, bs0, Tree.z, []⟩)))
def ArRC (N : Nat) : Prop := ∀ (E : Nat → Prop) (lo : Nat) (B : Option Addr) (n c : Nat) (rs : List StepR) (t : Tree) (A : Option Addr) (ct : Nat) (g r : Int) (X : World), sizeT t < N → ReS E lo (.slice B n c) n rs X → IsNd (fun b => b < lo) X (.slice A t.kids.length ct) t.kids → OkK [t] → Bd (mkR rs g) (sizeT t) →
  Calls Tryd.prog 33 #[.slice B n c, .int .i64 g, .int .i64 r, nodeV t (.slice A t.kids.length ct)] X (RetRf E lo (.slice B n c) X (arT t.kids g (((mkR rs g).next.lay ⟨4, g, r, bs0, Tree.z, []⟩).lay ⟨12, 0, g, bs0, Tree.z, []⟩)))
set_option maxRecDepth 100000 in
set_option maxHeartbeats 8000000 in
theorem apr_34 {N : Nat} (hN : N ≤ 100001) (lo : Nat) (B : Option Addr) (n c : Nat) (rs : List StepR) (t : Tree) (A : Option Addr) (ct : Nat) (g r : Int) (X : World) (ht : sizeT t < N + 1) (h : ReS E lo (.slice B n c) n rs X) (hT : IsNd (fun b => b < lo) X (.slice A t.kids.length ct) t.kids) (hO : OkK [t]) (hB : Bd (mkR rs g) (sizeT t)) (ho : t.op = 34) :
    Calls Tryd.prog 25 #[.slice B n c, .int .i64 g, .int .i64 r, nodeV t (.slice A t.kids.length ct)] X (RetRf E lo (.slice B n c) X (apT t r (mkR rs g))) := by
  have o34 : (t.op == 34) = true := by rw [ho]; decide
  have o51 : (t.op == 51) = false := by rw [ho]; decide
  have o52 : (t.op == 52) = false := by rw [ho]; decide
  have o63 : (t.op == 63) = false := by rw [ho]; decide
  have o61 : (t.op == 61) = false := by rw [ho]; decide
  have o60 : (t.op == 60) = false := by rw [ho]; decide
  have R := Lib.hid (show apT t r (mkR rs g) = (mkR rs g).lay ⟨10, 0, r, bs0, t, []⟩ by rw [apT_eq, if_pos (by omega)])
  rw [R.out]
  have HS := Lib.hid h
  have HT := Lib.hid hT
  have HB := Lib.hid hB
  clear h hT hO hB ho ht
  go_enter Tryd.func25, Tryd.ntmps25
  go_wp2_with (at_builtin; go_loud (refine wpList_app1 elem_stepR rfl _ _ rfl lo rs ⟨⟨10, 0, r, bs0, t, []⟩, A, ct, none, 0⟩ HS.out.2.2.1 (yv := .slice B n c) (b := X.heap.size + 1) rfl rfl (ownsRow_below HS.out.2.2.2.1 (by (repeat (with_reducible first | exact Below.refl _ _ | (refine bl_set ?_ (by first | omega | (simp; done) | (simp; omega)) _) | refine bl_gr ?_ _ | refine bl_al ?_ _ | refine below_setRow ?_ (by first | omega | (simp; done) | (simp; omega)) _ | refine bl_drewN ?_ _ | refine Below.drew ?_ | (refine bl_tr ?_ (by assumption)))))) (Nat.le_trans HS.out.1 (show Below X.heap.size X _ from (by (repeat (with_reducible first | exact Below.refl _ _ | (refine bl_set ?_ (by first | omega | (simp; done) | (simp; omega)) _) | refine bl_gr ?_ _ | refine bl_al ?_ _ | refine below_setRow ?_ (by first | omega | (simp; done) | (simp; omega)) _ | refine bl_drewN ?_ _ | refine Below.drew ?_ | (refine bl_tr ?_ (by assumption)))))).size) (heap_alloc_at _ _ (by simp)) (one_step _) (by have h1 := HB.out.2.2; have h2 := HS.out.2.2.1; simp only [mkR, List.length_map] at h1; omega) (by decide) ?_; intro g5 m5 n5 w5 em o5 gr5 gw5 gl5; have NX := Lib.hid ((HS.out.below (Y := (X.alloc (nodeO t (.slice A t.kids.length ct))).alloc (stepRO ⟨⟨10, 0, r, bs0, t, []⟩, A, ct, none, 0⟩)) (by (repeat (with_reducible first | exact Below.refl _ _ | (refine bl_set ?_ (by first | omega | (simp; done) | (simp; omega)) _) | refine bl_gr ?_ _ | refine bl_al ?_ _ | refine below_setRow ?_ (by first | omega | (simp; done) | (simp; omega)) _ | refine bl_drewN ?_ _ | refine Below.drew ?_ | (refine bl_tr ?_ (by assumption)))))).app ⟨HT.out.keep (by simp; omega) fun b hp hlt => ⟨(show Below X.heap.size X _ from by (repeat (with_reducible first | exact Below.refl _ _ | (refine bl_set ?_ (by first | omega | (simp; done) | (simp; omega)) _) | refine bl_gr ?_ _ | refine bl_al ?_ _ | refine below_setRow ?_ (by first | omega | (simp; done) | (simp; omega)) _ | refine bl_drewN ?_ _ | refine Below.drew ?_ | (refine bl_tr ?_ (by assumption))))).block b hlt, hp⟩, IsKs.nil⟩ o5 gr5); have RL := Lib.hid ((Rel.below (v := .slice B n c) (show Below X.heap.size X ((X.alloc (nodeO t (.slice A t.kids.length ct))).alloc (stepRO ⟨⟨10, 0, r, bs0, t, []⟩, A, ct, none, 0⟩)) from by (repeat (with_reducible first | exact Below.refl _ _ | (refine bl_set ?_ (by first | omega | (simp; done) | (simp; omega)) _) | refine bl_gr ?_ _ | refine bl_al ?_ _ | refine below_setRow ?_ (by first | omega | (simp; done) | (simp; omega)) _ | refine bl_drewN ?_ _ | refine Below.drew ?_ | (refine bl_tr ?_ (by assumption)))))).trans (Rel.app (n := n + 1) (c := n5) gr5 gw5)); have EM := Lib.hid em; clear o5 gr5 gw5 em))
  go_ret3
  refine .inr ⟨rfl, some ⟨g5, 0, none⟩, n + 1, n5, _, ?_, NX.out.2.2, by simp [mkR, Mk.lay], RL.out⟩
  rw [EM.out]
  rfl
set_option maxRecDepth 100000 in
set_option maxHeartbeats 8000000 in
theorem apr_51 {N : Nat} (hN : N ≤ 100001) (lo : Nat) (B : Option Addr) (n c : Nat) (rs : List StepR) (t : Tree) (A : Option Addr) (ct : Nat) (g r : Int) (X : World) (ht : sizeT t < N + 1) (h : ReS E lo (.slice B n c) n rs X) (hT : IsNd (fun b => b < lo) X (.slice A t.kids.length ct) t.kids) (hO : OkK [t]) (hB : Bd (mkR rs g) (sizeT t)) (ho : t.op = 51) :
    Calls Tryd.prog 25 #[.slice B n c, .int .i64 g, .int .i64 r, nodeV t (.slice A t.kids.length ct)] X (RetRf E lo (.slice B n c) X (apT t r (mkR rs g))) := by
  have o34 : (t.op == 34) = false := by rw [ho]; decide
  have o51 : (t.op == 51) = true := by rw [ho]; decide
  have o52 : (t.op == 52) = false := by rw [ho]; decide
  have o63 : (t.op == 63) = false := by rw [ho]; decide
  have o61 : (t.op == 61) = false := by rw [ho]; decide
  have o60 : (t.op == 60) = false := by rw [ho]; decide
  have R := Lib.hid (show apT t r (mkR rs g) = (mkR rs g).lay ⟨10, 0, r, bs0, t, []⟩ by rw [apT_eq, if_pos (by omega)])
  rw [R.out]
  have HS := Lib.hid h
  have HT := Lib.hid hT
  have HB := Lib.hid hB
  clear h hT hO hB ho ht
  go_enter Tryd.func25, Tryd.ntmps25
  go_wp2_with (at_builtin; go_loud (refine wpList_app1 elem_stepR rfl _ _ rfl lo rs ⟨⟨10, 0, r, bs0, t, []⟩, A, ct, none, 0⟩ HS.out.2.2.1 (yv := .slice B n c) (b := X.heap.size + 1) rfl rfl (ownsRow_below HS.out.2.2.2.1 (by (repeat (with_reducible first | exact Below.refl _ _ | (refine bl_set ?_ (by first | omega | (simp; done) | (simp; omega)) _) | refine bl_gr ?_ _ | refine bl_al ?_ _ | refine below_setRow ?_ (by first | omega | (simp; done) | (simp; omega)) _ | refine bl_drewN ?_ _ | refine Below.drew ?_ | (refine bl_tr ?_ (by assumption)))))) (Nat.le_trans HS.out.1 (show Below X.heap.size X _ from (by (repeat (with_reducible first | exact Below.refl _ _ | (refine bl_set ?_ (by first | omega | (simp; done) | (simp; omega)) _) | refine bl_gr ?_ _ | refine bl_al ?_ _ | refine below_setRow ?_ (by first | omega | (simp; done) | (simp; omega)) _ | refine bl_drewN ?_ _ | refine Below.drew ?_ | (refine bl_tr ?_ (by assumption)))))).size) (heap_alloc_at _ _ (by simp)) (one_step _) (by have h1 := HB.out.2.2; have h2 := HS.out.2.2.1; simp only [mkR, List.length_map] at h1; omega) (by decide) ?_; intro g5 m5 n5 w5 em o5 gr5 gw5 gl5; have NX := Lib.hid ((HS.out.below (Y := (X.alloc (nodeO t (.slice A t.kids.length ct))).alloc (stepRO ⟨⟨10, 0, r, bs0, t, []⟩, A, ct, none, 0⟩)) (by (repeat (with_reducible first | exact Below.refl _ _ | (refine bl_set ?_ (by first | omega | (simp; done) | (simp; omega)) _) | refine bl_gr ?_ _ | refine bl_al ?_ _ | refine below_setRow ?_ (by first | omega | (simp; done) | (simp; omega)) _ | refine bl_drewN ?_ _ | refine Below.drew ?_ | (refine bl_tr ?_ (by assumption)))))).app ⟨HT.out.keep (by simp; omega) fun b hp hlt => ⟨(show Below X.heap.size X _ from by (repeat (with_reducible first | exact Below.refl _ _ | (refine bl_set ?_ (by first | omega | (simp; done) | (simp; omega)) _) | refine bl_gr ?_ _ | refine bl_al ?_ _ | refine below_setRow ?_ (by first | omega | (simp; done) | (simp; omega)) _ | refine bl_drewN ?_ _ | refine Below.drew ?_ | (refine bl_tr ?_ (by assumption))))).block b hlt, hp⟩, IsKs.nil⟩ o5 gr5); have RL := Lib.hid ((Rel.below (v := .slice B n c) (show Below X.heap.size X ((X.alloc (nodeO t (.slice A t.kids.length ct))).alloc (stepRO ⟨⟨10, 0, r, bs0, t, []⟩, A, ct, none, 0⟩)) from by (repeat (with_reducible first | exact Below.refl _ _ | (refine bl_set ?_ (by first | omega | (simp; done) | (simp; omega)) _) | refine bl_gr ?_ _ | refine bl_al ?_ _ | refine below_setRow ?_ (by first | omega | (simp; done) | (simp; omega)) _ | refine bl_drewN ?_ _ | refine Below.drew ?_ | (refine bl_tr ?_ (by assumption)))))).trans (Rel.app (n := n + 1) (c := n5) gr5 gw5)); have EM := Lib.hid em; clear o5 gr5 gw5 em))
  go_ret3
  refine .inr ⟨rfl, some ⟨g5, 0, none⟩, n + 1, n5, _, ?_, NX.out.2.2, by simp [mkR, Mk.lay], RL.out⟩
  rw [EM.out]
  rfl
set_option maxRecDepth 100000 in
set_option maxHeartbeats 8000000 in
theorem apr_52 {N : Nat} (hN : N ≤ 100001) (lo : Nat) (B : Option Addr) (n c : Nat) (rs : List StepR) (t : Tree) (A : Option Addr) (ct : Nat) (g r : Int) (X : World) (ht : sizeT t < N + 1) (h : ReS E lo (.slice B n c) n rs X) (hT : IsNd (fun b => b < lo) X (.slice A t.kids.length ct) t.kids) (hO : OkK [t]) (hB : Bd (mkR rs g) (sizeT t)) (ho : t.op = 52) :
    Calls Tryd.prog 25 #[.slice B n c, .int .i64 g, .int .i64 r, nodeV t (.slice A t.kids.length ct)] X (RetRf E lo (.slice B n c) X (apT t r (mkR rs g))) := by
  have o34 : (t.op == 34) = false := by rw [ho]; decide
  have o51 : (t.op == 51) = false := by rw [ho]; decide
  have o52 : (t.op == 52) = true := by rw [ho]; decide
  have o63 : (t.op == 63) = false := by rw [ho]; decide
  have o61 : (t.op == 61) = false := by rw [ho]; decide
  have o60 : (t.op == 60) = false := by rw [ho]; decide
  have R := Lib.hid (show apT t r (mkR rs g) = (mkR rs g).lay ⟨10, 0, r, bs0, t, []⟩ by rw [apT_eq, if_pos (by omega)])
  rw [R.out]
  have HS := Lib.hid h
  have HT := Lib.hid hT
  have HB := Lib.hid hB
  clear h hT hO hB ho ht
  go_enter Tryd.func25, Tryd.ntmps25
  go_wp2_with (at_builtin; go_loud (refine wpList_app1 elem_stepR rfl _ _ rfl lo rs ⟨⟨10, 0, r, bs0, t, []⟩, A, ct, none, 0⟩ HS.out.2.2.1 (yv := .slice B n c) (b := X.heap.size + 1) rfl rfl (ownsRow_below HS.out.2.2.2.1 (by (repeat (with_reducible first | exact Below.refl _ _ | (refine bl_set ?_ (by first | omega | (simp; done) | (simp; omega)) _) | refine bl_gr ?_ _ | refine bl_al ?_ _ | refine below_setRow ?_ (by first | omega | (simp; done) | (simp; omega)) _ | refine bl_drewN ?_ _ | refine Below.drew ?_ | (refine bl_tr ?_ (by assumption)))))) (Nat.le_trans HS.out.1 (show Below X.heap.size X _ from (by (repeat (with_reducible first | exact Below.refl _ _ | (refine bl_set ?_ (by first | omega | (simp; done) | (simp; omega)) _) | refine bl_gr ?_ _ | refine bl_al ?_ _ | refine below_setRow ?_ (by first | omega | (simp; done) | (simp; omega)) _ | refine bl_drewN ?_ _ | refine Below.drew ?_ | (refine bl_tr ?_ (by assumption)))))).size) (heap_alloc_at _ _ (by simp)) (one_step _) (by have h1 := HB.out.2.2; have h2 := HS.out.2.2.1; simp only [mkR, List.length_map] at h1; omega) (by decide) ?_; intro g5 m5 n5 w5 em o5 gr5 gw5 gl5; have NX := Lib.hid ((HS.out.below (Y := (X.alloc (nodeO t (.slice A t.kids.length ct))).alloc (stepRO ⟨⟨10, 0, r, bs0, t, []⟩, A, ct, none, 0⟩)) (by (repeat (with_reducible first | exact Below.refl _ _ | (refine bl_set ?_ (by first | omega | (simp; done) | (simp; omega)) _) | refine bl_gr ?_ _ | refine bl_al ?_ _ | refine below_setRow ?_ (by first | omega | (simp; done) | (simp; omega)) _ | refine bl_drewN ?_ _ | refine Below.drew ?_ | (refine bl_tr ?_ (by assumption)))))).app ⟨HT.out.keep (by simp; omega) fun b hp hlt => ⟨(show Below X.heap.size X _ from by (repeat (with_reducible first | exact Below.refl _ _ | (refine bl_set ?_ (by first | omega | (simp; done) | (simp; omega)) _) | refine bl_gr ?_ _ | refine bl_al ?_ _ | refine below_setRow ?_ (by first | omega | (simp; done) | (simp; omega)) _ | refine bl_drewN ?_ _ | refine Below.drew ?_ | (refine bl_tr ?_ (by assumption))))).block b hlt, hp⟩, IsKs.nil⟩ o5 gr5); have RL := Lib.hid ((Rel.below (v := .slice B n c) (show Below X.heap.size X ((X.alloc (nodeO t (.slice A t.kids.length ct))).alloc (stepRO ⟨⟨10, 0, r, bs0, t, []⟩, A, ct, none, 0⟩)) from by (repeat (with_reducible first | exact Below.refl _ _ | (refine bl_set ?_ (by first | omega | (simp; done) | (simp; omega)) _) | refine bl_gr ?_ _ | refine bl_al ?_ _ | refine below_setRow ?_ (by first | omega | (simp; done) | (simp; omega)) _ | refine bl_drewN ?_ _ | refine Below.drew ?_ | (refine bl_tr ?_ (by assumption)))))).trans (Rel.app (n := n + 1) (c := n5) gr5 gw5)); have EM := Lib.hid em; clear o5 gr5 gw5 em))
  go_ret3
  refine .inr ⟨rfl, some ⟨g5, 0, none⟩, n + 1, n5, _, ?_, NX.out.2.2, by simp [mkR, Mk.lay], RL.out⟩
  rw [EM.out]
  rfl
set_option maxRecDepth 100000 in
set_option maxHeartbeats 8000000 in
theorem apr_63b {N : Nat} (hN : N ≤ 100001) (IH : ApRC N) (lo : Nat) (B : Option Addr) (n c : Nat) (rs : List StepR) (t : Tree) (A : Option Addr) (ct : Nat) (g r : Int) (X : World) (ht : sizeT t < N + 1) (h : ReS E lo (.slice B n c) n rs X) (hT : IsNd (fun b => b < lo) X (.slice A t.kids.length ct) t.kids) (hO : OkK [t]) (hB : Bd (mkR rs g) (sizeT t)) (d0 d1 : Tree) (ho : t.op = 63) (hk : t.kids = [d0, d1]) (hy : (apT d0 r ((mkR rs g).lay ⟨9, r, 0, bs0, d1, []⟩)).b = true) :
    Calls Tryd.prog 25 #[.slice B n c, .int .i64 g, .int .i64 r, nodeV t (.slice A t.kids.length ct)] X (RetRf E lo (.slice B n c) X (apT t r (mkR rs g))) := by
  have o34 : (t.op == 34) = false := by rw [ho]; decide
  have o51 : (t.op == 51) = false := by rw [ho]; decide
  have o52 : (t.op == 52) = false := by rw [ho]; decide
  have o63 : (t.op == 63) = true := by rw [ho]; decide
  have o61 : (t.op == 61) = false := by rw [ho]; decide
  have o60 : (t.op == 60) = false := by rw [ho]; decide
  have R := Lib.hid (show apT t r (mkR rs g) = apT d0 r ((mkR rs g).lay ⟨9, r, 0, bs0, d1, []⟩) by rw [apT_eq, if_neg (by omega), if_pos ho, if_pos (by rw [hk]; rfl), hk, apA]; rfl)
  rw [R.out]
  have HS := Lib.hid h
  have HT := Lib.hid hT
  have HO := Lib.hid hO
  have HB := Lib.hid hB
  have HZ := Lib.hid ht
  have T0 := Lib.hid (OneB.start X (nodeO t (.slice A t.kids.length ct)))
  have SZ := Lib.hid (show sizeT t = 1 + (sizeT d0 + (sizeT d1 + 0)) by rw [sizeT_eq, hk]; rfl)
  have k0 : t.kids[0]? = some d0 := by rw [hk]; rfl
  have k1 : t.kids[1]? = some d1 := by rw [hk]; rfl
  have g1 : ((t.kids.length : Int) == 2) = true := by rw [hk]; rfl
  have g2 : (1 : Int) < (t.kids.length : Int) := by rw [hk]; simp
  have g3 : (0 : Int) < (t.kids.length : Int) := by rw [hk]; simp
  obtain ⟨b, off, cap, A5, c5, e1, lb, hb0, hk0, f0⟩ := hT.at_ k0
  simp only [Value.slice.injEq] at e1
  obtain ⟨rfl, _, rfl⟩ := e1
  obtain ⟨b', off', cap', A6, c6, e1, _, _, hk1, f1⟩ := hT.at_ k1
  simp only [Value.slice.injEq, Option.some.injEq, Addr.mk.injEq, and_true] at e1
  obtain ⟨⟨rfl, rfl⟩, -⟩ := e1
  rw [Nat.zero_mul, Nat.add_zero] at f0
  rw [Nat.one_mul] at f1
  have KK0 := Lib.hid (And.intro hk0 (And.intro f0 hb0))
  have KK1 := Lib.hid (And.intro hk1 f1)
  have OK0 := Lib.hid (hO.kid (List.mem_of_getElem? k0))
  have HY := Lib.hid hy
  clear h hT hO hB ho ht hk hk0 hk1 k0 k1 f0 f1 hy
  go_enter Tryd.func25, Tryd.ntmps25
  go_upto_region 4 with fail
  refine wpd_world (fun Z => OneB X Z (nodeO t (.slice (some ⟨b, off, none⟩) t.kids.length ct))) T0.out ?_
  intro Z hZ
  have BZ := Lib.hid hZ
  obtain ⟨⟨a0, a1, a2, a3, a4, a5⟩, _⟩ := cells6n hZ.1
  have l0 := hZ.lt
  clear hZ T0
  obtain ⟨y0, y1, y2, y3, y4, y5⟩ := KK1.out.2.low (lo := lo) KK0.out.2.2 ⟨BZ.out.2.os, BZ.out.2.tape, BZ.out.2.output, BZ.out.2.size, fun k hk => BZ.out.2.block k (Nat.lt_of_lt_of_le hk HS.out.1)⟩
  have lbZ : b < Z.heap.size := Nat.lt_of_lt_of_le lb BZ.out.2.size
  go_upto_region 5 with (at_builtin; go_loud (refine wpList_app1 elem_stepR rfl _ _ rfl lo rs ⟨⟨9, r, 0, bs0, d1, []⟩, A6, c6, none, 0⟩ HS.out.2.2.1 (yv := .slice B n c) (b := Z.heap.size) rfl rfl (ownsRow_below HS.out.2.2.2.1 (bl_tr BZ.out.2 (bl_al (Below.refl _ _) _))) (Nat.le_trans HS.out.1 (show Below X.heap.size X _ from (bl_tr BZ.out.2 (bl_al (Below.refl _ _) _))).size) (heap_alloc_new _ _) (one_step _) (by have h1 := HB.out.2.2; have h2 := HS.out.2.2.1; simp only [mkR, List.length_map] at h1; omega) (by decide) ?_; intro g5 m5 n5 w5 em o5 gr5 gw5 gl5; have SV := HS.out.below (bl_tr BZ.out.2 (show Below Z.heap.size Z (Z.alloc (stepRO ⟨⟨9, r, 0, bs0, d1, []⟩, A6, c6, none, 0⟩)) from by (repeat (with_reducible first | exact Below.refl _ _ | (refine bl_set ?_ (by first | omega | (simp; done) | (simp; omega)) _) | refine bl_gr ?_ _ | refine bl_al ?_ _ | refine below_setRow ?_ (by first | omega | (simp; done) | (simp; omega)) _ | refine bl_drewN ?_ _ | refine Below.drew ?_ | (refine bl_tr ?_ (by assumption)))))); have S5 := Lib.hid (show ReS E lo (.slice (some ⟨g5, 0, none⟩) m5 n5) m5 (rs ++ [⟨⟨9, r, 0, bs0, d1, []⟩, A6, c6, none, 0⟩]) w5 from by rw [em]; exact SV.app ⟨KK1.out.1.bel (bl_tr BZ.out.2 (by (repeat (with_reducible first | exact Below.refl _ _ | (refine bl_set ?_ (by first | omega | (simp; done) | (simp; omega)) _) | refine bl_gr ?_ _ | refine bl_al ?_ _ | refine below_setRow ?_ (by first | omega | (simp; done) | (simp; omega)) _ | refine bl_drewN ?_ _ | refine Below.drew ?_ | (refine bl_tr ?_ (by assumption)))))), IsKs.nil⟩ o5 gr5); have R5 := Lib.hid (show Rel (.slice B n c) X w5 (.slice (some ⟨g5, 0, none⟩) m5 n5) from (Rel.below (bl_tr BZ.out.2 (by (repeat (with_reducible first | exact Below.refl _ _ | (refine bl_set ?_ (by first | omega | (simp; done) | (simp; omega)) _) | refine bl_gr ?_ _ | refine bl_al ?_ _ | refine below_setRow ?_ (by first | omega | (simp; done) | (simp; omega)) _ | refine bl_drewN ?_ _ | refine Below.drew ?_ | (refine bl_tr ?_ (by assumption))))))).trans (Rel.app gr5 gw5)); have X5 := Lib.hid (show w5.heap[X.heap.size]? = some (nodeO t (.slice (some ⟨b, off, none⟩) t.kids.length ct)) from (Rel.app (n := m5) (c := n5) gr5 gw5).box SV.2.2 ((BZ.out.step (bl_al (Below.refl _ _) _)).1) (by decide)); clear o5 gr5 gw5 em))
  clear a0 a1 a2 a3 a4 a5 l0 y0 y1 y2 y3 y4 y5 lbZ
  obtain ⟨⟨a0, a1, a2, a3, a4, a5⟩, _⟩ := cells6n X5.out
  have l0 := (Array.getElem?_eq_some_iff.1 X5.out).1
  have hlow := R5.out.low HS.out.2.2 HS.out.1
  obtain ⟨y0, y1, y2, y3, y4, y5⟩ := (show AtN w5 b off d0 (.slice A5 d0.kids.length c5) from by
    obtain ⟨h0, h1, h2, h3, h4, h5⟩ := KK0.out.2.1
    have f := fun j => World.cell?_of_block (a := ⟨b, j, none⟩) (hlow b KK0.out.2.2)
    exact ⟨(f _).trans h0, (f _).trans h1, (f _).trans h2, (f _).trans h3, (f _).trans h4, (f _).trans h5⟩)
  have lbZ : b < w5.heap.size := Nat.lt_of_lt_of_le lb R5.out.size
  have IC := Lib.hid (IH E lo (some ⟨g5, 0, none⟩) m5 n5 (rs ++ [⟨⟨9, r, 0, bs0, d1, []⟩, A6, c6, none, 0⟩]) d0 A5 c5 g r w5 (by have h1 := SZ.out; have h2 := HZ.out; omega) S5.out (nd_low KK0.out.1 R5.out.size hlow) OK0.out (by have h1 := HB.out; have h2 := SZ.out; unfold Bd at h1 ⊢; rw [mkR_lay, lay_len, lay_g]; omega))
  rw [mkR_lay] at IC
  clear hlow
  go_wp2_with (go_at_call 25; go_loud (refine (IC.out.mono fun e Y h => h.bad HY.out).mono ?_; rintro e Y ⟨rfl, r8⟩; have H8 := Lib.hid (R5.out.trans r8); clear r8))
  go_ret3
  exact .inl ⟨HY.out, rfl, H8.out⟩
set_option maxRecDepth 100000 in
set_option maxHeartbeats 8000000 in
theorem apr_63g {N : Nat} (hN : N ≤ 100001) (IH : ApRC N) (lo : Nat) (B : Option Addr) (n c : Nat) (rs : List StepR) (t : Tree) (A : Option Addr) (ct : Nat) (g r : Int) (X : World) (ht : sizeT t < N + 1) (h : ReS E lo (.slice B n c) n rs X) (hT : IsNd (fun b => b < lo) X (.slice A t.kids.length ct) t.kids) (hO : OkK [t]) (hB : Bd (mkR rs g) (sizeT t)) (d0 d1 : Tree) (ho : t.op = 63) (hk : t.kids = [d0, d1]) (hy : (apT d0 r ((mkR rs g).lay ⟨9, r, 0, bs0, d1, []⟩)).b = false) :
    Calls Tryd.prog 25 #[.slice B n c, .int .i64 g, .int .i64 r, nodeV t (.slice A t.kids.length ct)] X (RetRf E lo (.slice B n c) X (apT t r (mkR rs g))) := by
  have o34 : (t.op == 34) = false := by rw [ho]; decide
  have o51 : (t.op == 51) = false := by rw [ho]; decide
  have o52 : (t.op == 52) = false := by rw [ho]; decide
  have o63 : (t.op == 63) = true := by rw [ho]; decide
  have o61 : (t.op == 61) = false := by rw [ho]; decide
  have o60 : (t.op == 60) = false := by rw [ho]; decide
  have R := Lib.hid (show apT t r (mkR rs g) = apT d0 r ((mkR rs g).lay ⟨9, r, 0, bs0, d1, []⟩) by rw [apT_eq, if_neg (by omega), if_pos ho, if_pos (by rw [hk]; rfl), hk, apA]; rfl)
  rw [R.out]
  have HS := Lib.hid h
  have HT := Lib.hid hT
  have HO := Lib.hid hO
  have HB := Lib.hid hB
  have HZ := Lib.hid ht
  have T0 := Lib.hid (OneB.start X (nodeO t (.slice A t.kids.length ct)))
  have SZ := Lib.hid (show sizeT t = 1 + (sizeT d0 + (sizeT d1 + 0)) by rw [sizeT_eq, hk]; rfl)
  have k0 : t.kids[0]? = some d0 := by rw [hk]; rfl
  have k1 : t.kids[1]? = some d1 := by rw [hk]; rfl
  have g1 : ((t.kids.length : Int) == 2) = true := by rw [hk]; rfl
  have g2 : (1 : Int) < (t.kids.length : Int) := by rw [hk]; simp
  have g3 : (0 : Int) < (t.kids.length : Int) := by rw [hk]; simp
  obtain ⟨b, off, cap, A5, c5, e1, lb, hb0, hk0, f0⟩ := hT.at_ k0
  simp only [Value.slice.injEq] at e1
  obtain ⟨rfl, _, rfl⟩ := e1
  obtain ⟨b', off', cap', A6, c6, e1, _, _, hk1, f1⟩ := hT.at_ k1
  simp only [Value.slice.injEq, Option.some.injEq, Addr.mk.injEq, and_true] at e1
  obtain ⟨⟨rfl, rfl⟩, -⟩ := e1
  rw [Nat.zero_mul, Nat.add_zero] at f0
  rw [Nat.one_mul] at f1
  have KK0 := Lib.hid (And.intro hk0 (And.intro f0 hb0))
  have KK1 := Lib.hid (And.intro hk1 f1)
  have OK0 := Lib.hid (hO.kid (List.mem_of_getElem? k0))
  have HY := Lib.hid hy
  clear h hT hO hB ho ht hk hk0 hk1 k0 k1 f0 f1 hy
  go_enter Tryd.func25, Tryd.ntmps25
  go_upto_region 4 with fail
  refine wpd_world (fun Z => OneB X Z (nodeO t (.slice (some ⟨b, off, none⟩) t.kids.length ct))) T0.out ?_
  intro Z hZ
  have BZ := Lib.hid hZ
  obtain ⟨⟨a0, a1, a2, a3, a4, a5⟩, _⟩ := cells6n hZ.1
  have l0 := hZ.lt
  clear hZ T0
  obtain ⟨y0, y1, y2, y3, y4, y5⟩ := KK1.out.2.low (lo := lo) KK0.out.2.2 ⟨BZ.out.2.os, BZ.out.2.tape, BZ.out.2.output, BZ.out.2.size, fun k hk => BZ.out.2.block k (Nat.lt_of_lt_of_le hk HS.out.1)⟩
  have lbZ : b < Z.heap.size := Nat.lt_of_lt_of_le lb BZ.out.2.size
  go_upto_region 5 with (at_builtin; go_loud (refine wpList_app1 elem_stepR rfl _ _ rfl lo rs ⟨⟨9, r, 0, bs0, d1, []⟩, A6, c6, none, 0⟩ HS.out.2.2.1 (yv := .slice B n c) (b := Z.heap.size) rfl rfl (ownsRow_below HS.out.2.2.2.1 (bl_tr BZ.out.2 (bl_al (Below.refl _ _) _))) (Nat.le_trans HS.out.1 (show Below X.heap.size X _ from (bl_tr BZ.out.2 (bl_al (Below.refl _ _) _))).size) (heap_alloc_new _ _) (one_step _) (by have h1 := HB.out.2.2; have h2 := HS.out.2.2.1; simp only [mkR, List.length_map] at h1; omega) (by decide) ?_; intro g5 m5 n5 w5 em o5 gr5 gw5 gl5; have SV := HS.out.below (bl_tr BZ.out.2 (show Below Z.heap.size Z (Z.alloc (stepRO ⟨⟨9, r, 0, bs0, d1, []⟩, A6, c6, none, 0⟩)) from by (repeat (with_reducible first | exact Below.refl _ _ | (refine bl_set ?_ (by first | omega | (simp; done) | (simp; omega)) _) | refine bl_gr ?_ _ | refine bl_al ?_ _ | refine below_setRow ?_ (by first | omega | (simp; done) | (simp; omega)) _ | refine bl_drewN ?_ _ | refine Below.drew ?_ | (refine bl_tr ?_ (by assumption)))))); have S5 := Lib.hid (show ReS E lo (.slice (some ⟨g5, 0, none⟩) m5 n5) m5 (rs ++ [⟨⟨9, r, 0, bs0, d1, []⟩, A6, c6, none, 0⟩]) w5 from by rw [em]; exact SV.app ⟨KK1.out.1.bel (bl_tr BZ.out.2 (by (repeat (with_reducible first | exact Below.refl _ _ | (refine bl_set ?_ (by first | omega | (simp; done) | (simp; omega)) _) | refine bl_gr ?_ _ | refine bl_al ?_ _ | refine below_setRow ?_ (by first | omega | (simp; done) | (simp; omega)) _ | refine bl_drewN ?_ _ | refine Below.drew ?_ | (refine bl_tr ?_ (by assumption)))))), IsKs.nil⟩ o5 gr5); have R5 := Lib.hid (show Rel (.slice B n c) X w5 (.slice (some ⟨g5, 0, none⟩) m5 n5) from (Rel.below (bl_tr BZ.out.2 (by (repeat (with_reducible first | exact Below.refl _ _ | (refine bl_set ?_ (by first | omega | (simp; done) | (simp; omega)) _) | refine bl_gr ?_ _ | refine bl_al ?_ _ | refine below_setRow ?_ (by first | omega | (simp; done) | (simp; omega)) _ | refine bl_drewN ?_ _ | refine Below.drew ?_ | (refine bl_tr ?_ (by assumption))))))).trans (Rel.app gr5 gw5)); have X5 := Lib.hid (show w5.heap[X.heap.size]? = some (nodeO t (.slice (some ⟨b, off, none⟩) t.kids.length ct)) from (Rel.app (n := m5) (c := n5) gr5 gw5).box SV.2.2 ((BZ.out.step (bl_al (Below.refl _ _) _)).1) (by decide)); clear o5 gr5 gw5 em))
  clear a0 a1 a2 a3 a4 a5 l0 y0 y1 y2 y3 y4 y5 lbZ
  obtain ⟨⟨a0, a1, a2, a3, a4, a5⟩, _⟩ := cells6n X5.out
  have l0 := (Array.getElem?_eq_some_iff.1 X5.out).1
  have hlow := R5.out.low HS.out.2.2 HS.out.1
  obtain ⟨y0, y1, y2, y3, y4, y5⟩ := (show AtN w5 b off d0 (.slice A5 d0.kids.length c5) from by
    obtain ⟨h0, h1, h2, h3, h4, h5⟩ := KK0.out.2.1
    have f := fun j => World.cell?_of_block (a := ⟨b, j, none⟩) (hlow b KK0.out.2.2)
    exact ⟨(f _).trans h0, (f _).trans h1, (f _).trans h2, (f _).trans h3, (f _).trans h4, (f _).trans h5⟩)
  have lbZ : b < w5.heap.size := Nat.lt_of_lt_of_le lb R5.out.size
  have IC := Lib.hid (IH E lo (some ⟨g5, 0, none⟩) m5 n5 (rs ++ [⟨⟨9, r, 0, bs0, d1, []⟩, A6, c6, none, 0⟩]) d0 A5 c5 g r w5 (by have h1 := SZ.out; have h2 := HZ.out; omega) S5.out (nd_low KK0.out.1 R5.out.size hlow) OK0.out (by have h1 := HB.out; have h2 := SZ.out; unfold Bd at h1 ⊢; rw [mkR_lay, lay_len, lay_g]; omega))
  rw [mkR_lay] at IC
  clear hlow
  go_wp2_with (go_at_call 25; go_loud (refine (IC.out.mono fun e Y h => h.good HY.out).mono ?_; rintro e Y ⟨B8, n8, c8, rs8, rfl, h8, m8, r8⟩; have H8 := Lib.hid (And.intro h8 (And.intro m8 (R5.out.trans r8))); clear h8 m8 r8))
  go_ret3
  exact .inr ⟨HY.out, B8, n8, c8, rs8, rfl, H8.out.1, H8.out.2.1, H8.out.2.2⟩
set_option maxRecDepth 100000 in
set_option maxHeartbeats 8000000 in
theorem apr_61b {N : Nat} (hN : N ≤ 100001) (IOb : ObRC (N + 1)) (lo : Nat) (B : Option Addr) (n c : Nat) (rs : List StepR) (t : Tree) (A : Option Addr) (ct : Nat) (g r : Int) (X : World) (ht : sizeT t < N + 1) (h : ReS E lo (.slice B n c) n rs X) (hT : IsNd (fun b => b < lo) X (.slice A t.kids.length ct) t.kids) (hO : OkK [t]) (hB : Bd (mkR rs g) (sizeT t)) (ho : t.op = 61) (hy : (obT (restK t.kids) t.kids r [] ((mkR rs g).lay ⟨1, 0, r, bs0, Tree.z, []⟩)).b = true) :
    Calls Tryd.prog 25 #[.slice B n c, .int .i64 g, .int .i64 r, nodeV t (.slice A t.kids.length ct)] X (RetRf E lo (.slice B n c) X (apT t r (mkR rs g))) := by
  have o34 : (t.op == 34) = false := by rw [ho]; decide
  have o51 : (t.op == 51) = false := by rw [ho]; decide
  have o52 : (t.op == 52) = false := by rw [ho]; decide
  have o63 : (t.op == 63) = false := by rw [ho]; decide
  have o61 : (t.op == 61) = true := by rw [ho]; decide
  have o60 : (t.op == 60) = false := by rw [ho]; decide
  have R := Lib.hid (show apT t r (mkR rs g) = obT (restK t.kids) t.kids r [] ((mkR rs g).lay ⟨1, 0, r, bs0, Tree.z, []⟩) by rw [apT_eq, if_neg (by omega), if_neg (by omega), if_pos ho]; try rfl)
  rw [R.out]
  have HS := Lib.hid h
  have HT := Lib.hid hT
  have HO := Lib.hid hO
  have HB := Lib.hid hB
  have HZ := Lib.hid ht
  have T0 := Lib.hid (OneB.start X (nodeO t (.slice A t.kids.length ct)))
  have HY := Lib.hid hy
  have IC := Lib.hid (fun Z (hZ : Below X.heap.size X Z) => IOb E lo B n c rs t A ct g r Z ht (h.below hZ) (hT.bel hZ) hO hB)
  clear h hT hO hB ho ht hy
  go_enter Tryd.func25, Tryd.ntmps25
  go_upto_region 6 with fail
  refine wpd_world (fun Z => OneB X Z (nodeO t (.slice A t.kids.length ct))) T0.out ?_
  intro Z hZ
  have BZ := Lib.hid hZ
  obtain ⟨⟨a0, a1, a2, a3, a4, a5⟩, _⟩ := cells6n hZ.1
  have l0 := hZ.lt
  clear hZ T0
  go_wp2_with (go_at_call 32; go_loud (refine ((IC.out Z BZ.out.2).mono fun e Y h => h.bad HY.out).mono ?_; rintro e Y ⟨rfl, r8⟩; have H8 := Lib.hid ((Rel.below BZ.out.2).trans r8); clear r8))
  go_ret3
  exact .inl ⟨HY.out, rfl, H8.out⟩
set_option maxRecDepth 100000 in
set_option maxHeartbeats 8000000 in
theorem apr_61g {N : Nat} (hN : N ≤ 100001) (IOb : ObRC (N + 1)) (lo : Nat) (B : Option Addr) (n c : Nat) (rs : List StepR) (t : Tree) (A : Option Addr) (ct : Nat) (g r : Int) (X : World) (ht : sizeT t < N + 1) (h : ReS E lo (.slice B n c) n rs X) (hT : IsNd (fun b => b < lo) X (.slice A t.kids.length ct) t.kids) (hO : OkK [t]) (hB : Bd (mkR rs g) (sizeT t)) (ho : t.op = 61) (hy : (obT (restK t.kids) t.kids r [] ((mkR rs g).lay ⟨1, 0, r, bs0, Tree.z, []⟩)).b = false) :
    Calls Tryd.prog 25 #[.slice B n c, .int .i64 g, .int .i64 r, nodeV t (.slice A t.kids.length ct)] X (RetRf E lo (.slice B n c) X (apT t r (mkR rs g))) := by
  have o34 : (t.op == 34) = false := by rw [ho]; decide
  have o51 : (t.op == 51) = false := by rw [ho]; decide
  have o52 : (t.op == 52) = false := by rw [ho]; decide
  have o63 : (t.op == 63) = false := by rw [ho]; decide
  have o61 : (t.op == 61) = true := by rw [ho]; decide
  have o60 : (t.op == 60) = false := by rw [ho]; decide
  have R := Lib.hid (show apT t r (mkR rs g) = obT (restK t.kids) t.kids r [] ((mkR rs g).lay ⟨1, 0, r, bs0, Tree.z, []⟩) by rw [apT_eq, if_neg (by omega), if_neg (by omega), if_pos ho]; try rfl)
  rw [R.out]
  have HS := Lib.hid h
  have HT := Lib.hid hT
  have HO := Lib.hid hO
  have HB := Lib.hid hB
  have HZ := Lib.hid ht
  have T0 := Lib.hid (OneB.start X (nodeO t (.slice A t.kids.length ct)))
  have HY := Lib.hid hy
  have IC := Lib.hid (fun Z (hZ : Below X.heap.size X Z) => IOb E lo B n c rs t A ct g r Z ht (h.below hZ) (hT.bel hZ) hO hB)
  clear h hT hO hB ho ht hy
  go_enter Tryd.func25, Tryd.ntmps25
  go_upto_region 6 with fail
  refine wpd_world (fun Z => OneB X Z (nodeO t (.slice A t.kids.length ct))) T0.out ?_
  intro Z hZ
  have BZ := Lib.hid hZ
  obtain ⟨⟨a0, a1, a2, a3, a4, a5⟩, _⟩ := cells6n hZ.1
  have l0 := hZ.lt
  clear hZ T0
  go_wp2_with (go_at_call 32; go_loud (refine ((IC.out Z BZ.out.2).mono fun e Y h => h.good HY.out).mono ?_; rintro e Y ⟨B8, n8, c8, rs8, rfl, h8, m8, r8⟩; have H8 := Lib.hid (And.intro h8 (And.intro m8 ((Rel.below BZ.out.2).trans r8))); clear h8 m8 r8))
  go_ret3
  exact .inr ⟨HY.out, B8, n8, c8, rs8, rfl, H8.out.1, H8.out.2.1, H8.out.2.2⟩
set_option maxRecDepth 100000 in
set_option maxHeartbeats 8000000 in
theorem apr_60b {N : Nat} (hN : N ≤ 100001) (IAr : ArRC (N + 1)) (lo : Nat) (B : Option Addr) (n c : Nat) (rs : List StepR) (t : Tree) (A : Option Addr) (ct : Nat) (g r : Int) (X : World) (ht : sizeT t < N + 1) (h : ReS E lo (.slice B n c) n rs X) (hT : IsNd (fun b => b < lo) X (.slice A t.kids.length ct) t.kids) (hO : OkK [t]) (hB : Bd (mkR rs g) (sizeT t)) (ho : t.op = 60) (hy : (arT t.kids g (((mkR rs g).next.lay ⟨4, g, r, bs0, Tree.z, []⟩).lay ⟨12, 0, g, bs0, Tree.z, []⟩)).b = true) :
    Calls Tryd.prog 25 #[.slice B n c, .int .i64 g, .int .i64 r, nodeV t (.slice A t.kids.length ct)] X (RetRf E lo (.slice B n c) X (apT t r (mkR rs g))) := by
  have o34 : (t.op == 34) = false := by rw [ho]; decide
  have o51 : (t.op == 51) = false := by rw [ho]; decide
  have o52 : (t.op == 52) = false := by rw [ho]; decide
  have o63 : (t.op == 63) = false := by rw [ho]; decide
  have o61 : (t.op == 61) = false := by rw [ho]; decide
  have o60 : (t.op == 60) = true := by rw [ho]; decide
  have R := Lib.hid (show apT t r (mkR rs g) = arT t.kids g (((mkR rs g).next.lay ⟨4, g, r, bs0, Tree.z, []⟩).lay ⟨12, 0, g, bs0, Tree.z, []⟩) by rw [apT_eq, if_neg (by omega), if_neg (by omega), if_neg (by omega), if_pos ho]; try rfl)
  rw [R.out]
  have HS := Lib.hid h
  have HT := Lib.hid hT
  have HO := Lib.hid hO
  have HB := Lib.hid hB
  have HZ := Lib.hid ht
  have T0 := Lib.hid (OneB.start X (nodeO t (.slice A t.kids.length ct)))
  have HY := Lib.hid hy
  have IC := Lib.hid (fun Z (hZ : Below X.heap.size X Z) => IAr E lo B n c rs t A ct g r Z ht (h.below hZ) (hT.bel hZ) hO hB)
  clear h hT hO hB ho ht hy
  go_enter Tryd.func25, Tryd.ntmps25
  go_upto_region 6 with fail
  refine wpd_world (fun Z => OneB X Z (nodeO t (.slice A t.kids.length ct))) T0.out ?_
  intro Z hZ
  have BZ := Lib.hid hZ
  obtain ⟨⟨a0, a1, a2, a3, a4, a5⟩, _⟩ := cells6n hZ.1
  have l0 := hZ.lt
  clear hZ T0
  go_wp2_with (go_at_call 33; go_loud (refine ((IC.out Z BZ.out.2).mono fun e Y h => h.bad HY.out).mono ?_; rintro e Y ⟨rfl, r8⟩; have H8 := Lib.hid ((Rel.below BZ.out.2).trans r8); clear r8))
  go_ret3
  exact .inl ⟨HY.out, rfl, H8.out⟩
set_option maxRecDepth 100000 in
set_option maxHeartbeats 8000000 in
theorem apr_60g {N : Nat} (hN : N ≤ 100001) (IAr : ArRC (N + 1)) (lo : Nat) (B : Option Addr) (n c : Nat) (rs : List StepR) (t : Tree) (A : Option Addr) (ct : Nat) (g r : Int) (X : World) (ht : sizeT t < N + 1) (h : ReS E lo (.slice B n c) n rs X) (hT : IsNd (fun b => b < lo) X (.slice A t.kids.length ct) t.kids) (hO : OkK [t]) (hB : Bd (mkR rs g) (sizeT t)) (ho : t.op = 60) (hy : (arT t.kids g (((mkR rs g).next.lay ⟨4, g, r, bs0, Tree.z, []⟩).lay ⟨12, 0, g, bs0, Tree.z, []⟩)).b = false) :
    Calls Tryd.prog 25 #[.slice B n c, .int .i64 g, .int .i64 r, nodeV t (.slice A t.kids.length ct)] X (RetRf E lo (.slice B n c) X (apT t r (mkR rs g))) := by
  have o34 : (t.op == 34) = false := by rw [ho]; decide
  have o51 : (t.op == 51) = false := by rw [ho]; decide
  have o52 : (t.op == 52) = false := by rw [ho]; decide
  have o63 : (t.op == 63) = false := by rw [ho]; decide
  have o61 : (t.op == 61) = false := by rw [ho]; decide
  have o60 : (t.op == 60) = true := by rw [ho]; decide
  have R := Lib.hid (show apT t r (mkR rs g) = arT t.kids g (((mkR rs g).next.lay ⟨4, g, r, bs0, Tree.z, []⟩).lay ⟨12, 0, g, bs0, Tree.z, []⟩) by rw [apT_eq, if_neg (by omega), if_neg (by omega), if_neg (by omega), if_pos ho]; try rfl)
  rw [R.out]
  have HS := Lib.hid h
  have HT := Lib.hid hT
  have HO := Lib.hid hO
  have HB := Lib.hid hB
  have HZ := Lib.hid ht
  have T0 := Lib.hid (OneB.start X (nodeO t (.slice A t.kids.length ct)))
  have HY := Lib.hid hy
  have IC := Lib.hid (fun Z (hZ : Below X.heap.size X Z) => IAr E lo B n c rs t A ct g r Z ht (h.below hZ) (hT.bel hZ) hO hB)
  clear h hT hO hB ho ht hy
  go_enter Tryd.func25, Tryd.ntmps25
  go_upto_region 6 with fail
  refine wpd_world (fun Z => OneB X Z (nodeO t (.slice A t.kids.length ct))) T0.out ?_
  intro Z hZ
  have BZ := Lib.hid hZ
  obtain ⟨⟨a0, a1, a2, a3, a4, a5⟩, _⟩ := cells6n hZ.1
  have l0 := hZ.lt
  clear hZ T0
  go_wp2_with (go_at_call 33; go_loud (refine ((IC.out Z BZ.out.2).mono fun e Y h => h.good HY.out).mono ?_; rintro e Y ⟨B8, n8, c8, rs8, rfl, h8, m8, r8⟩; have H8 := Lib.hid (And.intro h8 (And.intro m8 ((Rel.below BZ.out.2).trans r8))); clear h8 m8 r8))
  go_ret3
  exact .inr ⟨HY.out, B8, n8, c8, rs8, rfl, H8.out.1, H8.out.2.1, H8.out.2.2⟩
set_option maxRecDepth 100000 in
set_option maxHeartbeats 8000000 in
theorem apr_63n {N : Nat} (hN : N ≤ 100001) (lo : Nat) (B : Option Addr) (n c : Nat) (rs : List StepR) (t : Tree) (A : Option Addr) (ct : Nat) (g r : Int) (X : World) (ht : sizeT t < N + 1) (h : ReS E lo (.slice B n c) n rs X) (hT : IsNd (fun b => b < lo) X (.slice A t.kids.length ct) t.kids) (hO : OkK [t]) (hB : Bd (mkR rs g) (sizeT t)) (ho : t.op = 63) (h2 : ¬ t.kids.length = 2) :
    Calls Tryd.prog 25 #[.slice B n c, .int .i64 g, .int .i64 r, nodeV t (.slice A t.kids.length ct)] X (RetRf E lo (.slice B n c) X (apT t r (mkR rs g))) := by
  have o34 : (t.op == 34) = false := by rw [ho]; decide
  have o51 : (t.op == 51) = false := by rw [ho]; decide
  have o52 : (t.op == 52) = false := by rw [ho]; decide
  have o63 : (t.op == 63) = true := by rw [ho]; decide
  have o61 : (t.op == 61) = false := by rw [ho]; decide
  have o60 : (t.op == 60) = false := by rw [ho]; decide
  have g1 : ((t.kids.length : Int) == 2) = false := by rw [beq_eq_false_iff_ne]; omega
  have R := Lib.hid (show apT t r (mkR rs g) = (mkR rs g).bad by rw [apT_eq, if_neg (by omega), if_pos ho, if_neg h2])
  rw [R.out]
  have BX := Lib.hid (show Rel (.slice B n c) X (X.alloc (nodeO t (.slice A t.kids.length ct))) nilS from (Rel.below (v := .slice B n c) (by (repeat (with_reducible first | exact Below.refl _ _ | (refine bl_set ?_ (by first | omega | (simp; done) | (simp; omega)) _) | refine bl_gr ?_ _ | refine bl_al ?_ _ | refine below_setRow ?_ (by first | omega | (simp; done) | (simp; omega)) _ | refine bl_drewN ?_ _ | refine Below.drew ?_ | (refine bl_tr ?_ (by assumption)))))).toNil)
  clear h hT hO hB ht ho h2
  go_enter Tryd.func25, Tryd.ntmps25
  go_wp2
  go_ret3
  exact .inl ⟨rfl, rfl, BX.out⟩
set_option maxRecDepth 100000 in
set_option maxHeartbeats 8000000 in
theorem apr_no {N : Nat} (hN : N ≤ 100001) (lo : Nat) (B : Option Addr) (n c : Nat) (rs : List StepR) (t : Tree) (A : Option Addr) (ct : Nat) (g r : Int) (X : World) (ht : sizeT t < N + 1) (h : ReS E lo (.slice B n c) n rs X) (hT : IsNd (fun b => b < lo) X (.slice A t.kids.length ct) t.kids) (hO : OkK [t]) (hB : Bd (mkR rs g) (sizeT t)) (h34 : ¬ t.op = 34) (h51 : ¬ t.op = 51) (h52 : ¬ t.op = 52) (h63 : ¬ t.op = 63) (h61 : ¬ t.op = 61) (h60 : ¬ t.op = 60) :
    Calls Tryd.prog 25 #[.slice B n c, .int .i64 g, .int .i64 r, nodeV t (.slice A t.kids.length ct)] X (RetRf E lo (.slice B n c) X (apT t r (mkR rs g))) := by
  have o34 : (t.op == 34) = false := beq_eq_false_iff_ne.2 h34
  have o51 : (t.op == 51) = false := beq_eq_false_iff_ne.2 h51
  have o52 : (t.op == 52) = false := beq_eq_false_iff_ne.2 h52
  have o63 : (t.op == 63) = false := beq_eq_false_iff_ne.2 h63
  have o61 : (t.op == 61) = false := beq_eq_false_iff_ne.2 h61
  have o60 : (t.op == 60) = false := beq_eq_false_iff_ne.2 h60
  have R := Lib.hid (show apT t r (mkR rs g) = (mkR rs g).bad by rw [apT_eq, if_neg (by omega), if_neg (by omega), if_neg (by omega), if_neg (by omega)])
  rw [R.out]
  have BX := Lib.hid (show Rel (.slice B n c) X (X.alloc (nodeO t (.slice A t.kids.length ct))) nilS from (Rel.below (v := .slice B n c) (by (repeat (with_reducible first | exact Below.refl _ _ | (refine bl_set ?_ (by first | omega | (simp; done) | (simp; omega)) _) | refine bl_gr ?_ _ | refine bl_al ?_ _ | refine below_setRow ?_ (by first | omega | (simp; done) | (simp; omega)) _ | refine bl_drewN ?_ _ | refine Below.drew ?_ | (refine bl_tr ?_ (by assumption)))))).toNil)
  clear h hT hO hB ht h34 h51 h52 h63 h61 h60
  go_enter Tryd.func25, Tryd.ntmps25
  go_wp2
  go_ret3
  exact .inl ⟨rfl, rfl, BX.out⟩
theorem apartR_step {N : Nat} (hN : N ≤ 100001) (IH : ApRC N) (IOb : ObRC (N + 1)) (IAr : ArRC (N + 1)) : ApRC (N + 1) := by
  intro E lo B n c rs t A ct g r X ht h hT hO hB
  by_cases h34 : t.op = 34
  · exact apr_34 hN lo B n c rs t A ct g r X ht h hT hO hB h34
  by_cases h51 : t.op = 51
  · exact apr_51 hN lo B n c rs t A ct g r X ht h hT hO hB h51
  by_cases h52 : t.op = 52
  · exact apr_52 hN lo B n c rs t A ct g r X ht h hT hO hB h52
  by_cases h63 : t.op = 63
  · by_cases h2 : t.kids.length = 2
    · obtain ⟨d0, d1, hk⟩ : ∃ d0 d1, t.kids = [d0, d1] := by
        match hk : t.kids, h2 with
        | [a, b], _ => exact ⟨a, b, rfl⟩
      cases hy : (apT d0 r ((mkR rs g).lay ⟨9, r, 0, bs0, d1, []⟩)).b with
      | true => exact apr_63b hN IH lo B n c rs t A ct g r X ht h hT hO hB d0 d1 h63 hk hy
      | false => exact apr_63g hN IH lo B n c rs t A ct g r X ht h hT hO hB d0 d1 h63 hk hy
    · exact apr_63n hN lo B n c rs t A ct g r X ht h hT hO hB h63 h2
  by_cases h61 : t.op = 61
  · cases hy : (obT (restK t.kids) t.kids r [] ((mkR rs g).lay ⟨1, 0, r, bs0, Tree.z, []⟩)).b with
    | true => exact apr_61b hN IOb lo B n c rs t A ct g r X ht h hT hO hB h61 hy
    | false => exact apr_61g hN IOb lo B n c rs t A ct g r X ht h hT hO hB h61 hy
  by_cases h60 : t.op = 60
  · cases hy : (arT t.kids g (((mkR rs g).next.lay ⟨4, g, r, bs0, Tree.z, []⟩).lay ⟨12, 0, g, bs0, Tree.z, []⟩)).b with
    | true => exact apr_60b hN IAr lo B n c rs t A ct g r X ht h hT hO hB h60 hy
    | false => exact apr_60g hN IAr lo B n c rs t A ct g r X ht h hT hO hB h60 hy
  exact apr_no hN lo B n c rs t A ct g r X ht h hT hO hB h34 h51 h52 h63 h61 h60
end Go.Proofs.YtiagegecnopfgaaDoor
