/- The arena in memory; its short operations. -/
import Derived.Test.YtgajmhklinolmaaSpF
namespace Go.Proofs.Ytgajmhklinolmaa
set_option linter.all false
open Go.RowKit Go.Sort Go.Deep

structure ArenaR (w : World) (F : Nat → Prop) (s : Nat) (room : Int) (l : List CellD) (rs : List CellR) (v : Value) : Prop where
  ins : F s
  st : w.heap[s]? = some (.cells #[.int .i64 room, v] 57)
  row : w.ownsRow 0 38 6 v l.length (flat CellR.cs rs)
  len : rs.length = l.length
  blk : ∀ b, v.ownBlock = some b → F b ∧ b ≠ s
  cell : ∀ (i : Nat) (r : CellR) (c : CellD), rs[i]? = some r → l[i]? = some c → r.k = c.k ∧ r.sh = c.sh ∧ r.fl = c.fl ∧ r.ag = c.ag ∧ OwnV w 0 r.sv c.sl ∧ OwnV w 0 r.mv c.mo ∧ c.fit
  far : ∀ (i : Nat) (r : CellR), rs[i]? = some r → ∀ b, (r.sv.ownBlock = some b ∨ r.mv.ownBlock = some b) → F b ∧ b ≠ s ∧ v.ownBlock ≠ some b
  low : ∀ b, F b → b < w.heap.size
/-- The arena at block s with this capacity holds l; what it owns lies in the blocks of F. -/
def Arena (w : World) (F : Nat → Prop) (s : Nat) (room : Int) (l : List CellD) : Prop := ∃ rs v, ArenaR w F s room l rs v

theorem ArenaR.touch {w w' : World} {F G : Nat → Prop} {s : Nat} {room : Int} {l : List CellD} {rs : List CellR} {v : Value} (h : ArenaR w F s room l rs v) (ht : Touch G w w') (hF : ∀ b, F b → ¬ G b) : ArenaR w' F s room l rs v where
  ins := h.ins
  st := (ht.block _ (h.low _ h.ins) (hF _ h.ins)).trans h.st
  row := ownsRow_touch h.row ht fun g hg => hF _ (h.blk g hg).1
  len := h.len
  blk := h.blk
  cell := fun i r c hr hc => by
    obtain ⟨a, b, c', d, e, f, g⟩ := h.cell i r c hr hc
    exact ⟨a, b, c', d, ownsRow_touch e ht fun g hg => hF _ (h.far i r hr g (.inl hg)).1, ownsRow_touch f ht fun g hg => hF _ (h.far i r hr g (.inr hg)).1, g⟩
  far := h.far
  low := fun b hb => Nat.lt_of_lt_of_le (h.low b hb) ht.size
theorem Arena.touch {w w' : World} {F G : Nat → Prop} {s : Nat} {room : Int} {l : List CellD} (h : Arena w F s room l) (ht : Touch G w w') (hF : ∀ b, F b → ¬ G b) : Arena w' F s room l := by
  obtain ⟨rs, v, h⟩ := h
  exact ⟨rs, v, h.touch ht hF⟩
theorem Arena.below {w w' : World} {F : Nat → Prop} {s : Nat} {room : Int} {l : List CellD} (h : Arena w F s room l) (hb : Below w.heap.size w w') : Arena w' F s room l :=
  h.touch (G := fun _ => False) (Touch.of_below hb) fun _ _ h => h
theorem Arena.room {w : World} {F : Nat → Prop} {s : Nat} {room : Int} {l : List CellD} (h : Arena w F s room l) : ∃ A cap, w.cell? ⟨s, 0, none⟩ = some (.int .i64 room) ∧ w.cell? ⟨s, 1, none⟩ = some (.slice A l.length cap) ∧ l.length ≤ cap ∧ cap ≤ maxLen ∧ w.frozen? ⟨s, 0, none⟩ = false ∧ w.frozen? ⟨s, 1, none⟩ = false := by
  obtain ⟨rs, v, h⟩ := h
  have hs := h.st
  have key : ∀ A cap, v = .slice A l.length cap → l.length ≤ cap → cap ≤ maxLen → ∃ A cap, w.cell? ⟨s, 0, none⟩ = some (.int .i64 room) ∧ w.cell? ⟨s, 1, none⟩ = some (.slice A l.length cap) ∧ l.length ≤ cap ∧ cap ≤ maxLen ∧ w.frozen? ⟨s, 0, none⟩ = false ∧ w.frozen? ⟨s, 1, none⟩ = false := by
    rintro A cap rfl h1 h2
    exact ⟨A, cap, by rw [cell_of_row w s _ _ _ _ hs]; rfl, by rw [cell_of_row w s _ _ _ _ hs]; rfl, h1, h2, frozen_of_row w s _ _ _ hs, frozen_of_row w s _ _ _ hs⟩
  rcases h.row.2 with ⟨e, e0⟩ | ⟨g, cap, cur, e, _, _, h1, h2, _⟩
  · exact key none 0 (by rw [e, e0]) (by omega) (Nat.zero_le _)
  · exact key _ cap e h1 h2

set_option maxHeartbeats 1000000 in
theorem len_any (F : Nat → Prop) (s : Nat) (room : Int) (l : List CellD) (w : World) (h : Arena w F s room l) :
    Calls Try.prog 20 #[.pointer (some ⟨s, 0, none⟩)] w fun e w' => e = .returned (.int .i64 l.length) ∧ Below w.heap.size w w' := by
  obtain ⟨A, cap, c0, c1, _⟩ := h.room
  clear h
  go_enter Try.func20, Try.ntmps20
  go_wp2
  go_ret
  exact ⟨rfl, by (repeat (with_reducible first | exact Below.refl _ _ | (refine bl_set ?_ (by first | omega | (simp; done) | (simp; omega)) _) | refine bl_gr ?_ _ | refine bl_al ?_ _ | refine below_setRow ?_ (by first | omega | (simp; done) | (simp; omega)) _ | refine bl_drewN ?_ _ | refine Below.drew ?_ | (refine bl_tr ?_ (by assumption))))⟩
set_option maxHeartbeats 1000000 in
theorem len_nil (w : World) : Calls Try.prog 20 #[.pointer none] w fun e w' => e = .returned (.int .i64 0) ∧ Below w.heap.size w w' := by
  go_enter Try.func20, Try.ntmps20
  go_wp2
  go_ret
  exact ⟨rfl, by (repeat (with_reducible first | exact Below.refl _ _ | (refine bl_set ?_ (by first | omega | (simp; done) | (simp; omega)) _) | refine bl_gr ?_ _ | refine bl_al ?_ _ | refine below_setRow ?_ (by first | omega | (simp; done) | (simp; omega)) _ | refine bl_drewN ?_ _ | refine Below.drew ?_ | (refine bl_tr ?_ (by assumption))))⟩
set_option maxHeartbeats 1000000 in
theorem room_any (F : Nat → Prop) (s : Nat) (room : Int) (l : List CellD) (w : World) (h : Arena w F s room l) :
    Calls Try.prog 22 #[.pointer (some ⟨s, 0, none⟩)] w fun e w' => e = .returned (.int .i64 room) ∧ Below w.heap.size w w' := by
  obtain ⟨A, cap, c0, c1, _⟩ := h.room
  clear h
  go_enter Try.func22, Try.ntmps22
  go_wp2
  go_ret
  exact ⟨rfl, by (repeat (with_reducible first | exact Below.refl _ _ | (refine bl_set ?_ (by first | omega | (simp; done) | (simp; omega)) _) | refine bl_gr ?_ _ | refine bl_al ?_ _ | refine below_setRow ?_ (by first | omega | (simp; done) | (simp; omega)) _ | refine bl_drewN ?_ _ | refine Below.drew ?_ | (refine bl_tr ?_ (by assumption))))⟩
set_option maxHeartbeats 1000000 in
theorem room_nil (w : World) : Calls Try.prog 22 #[.pointer none] w fun e w' => e = .returned (.int .i64 0) ∧ Below w.heap.size w w' := by
  go_enter Try.func22, Try.ntmps22
  go_wp2
  go_ret
  exact ⟨rfl, by (repeat (with_reducible first | exact Below.refl _ _ | (refine bl_set ?_ (by first | omega | (simp; done) | (simp; omega)) _) | refine bl_gr ?_ _ | refine bl_al ?_ _ | refine below_setRow ?_ (by first | omega | (simp; done) | (simp; omega)) _ | refine bl_drewN ?_ _ | refine Below.drew ?_ | (refine bl_tr ?_ (by assumption))))⟩

theorem Arena.new (w : World) (room : Int) : Arena (w.alloc (.cells #[.int .i64 room, .slice none 0 0] 57)) (fun b => b = w.heap.size) w.heap.size room [] :=
  ⟨[], .slice none 0 0, rfl, heap_alloc_new _ _, World.ownsRow_nil _ _ _ _, rfl, fun b hb => by simp [Value.ownBlock] at hb, fun i r c hr => by simp at hr, fun i r hr => by simp at hr, fun b hb => by subst hb; simp⟩

set_option maxHeartbeats 1000000 in
theorem new_bad (room : Int) (w : World) (h : room < 0 ∨ 1048576 < room) :
    Calls Try.prog 9 #[.int .i64 room] w fun e w' => e = .returned (.tuple #[.pointer none, .int .i64 2]) ∧ Below w.heap.size w w' := by
  rcases h with h | h
  · go_enter Try.func9, Try.ntmps9
    go_wp2
    go_ret2
    exact ⟨rfl, by (repeat (with_reducible first | exact Below.refl _ _ | (refine bl_set ?_ (by first | omega | (simp; done) | (simp; omega)) _) | refine bl_gr ?_ _ | refine bl_al ?_ _ | refine below_setRow ?_ (by first | omega | (simp; done) | (simp; omega)) _ | refine bl_drewN ?_ _ | refine Below.drew ?_ | (refine bl_tr ?_ (by assumption))))⟩
  · have h0 : ¬ room < 0 := by omega
    go_enter Try.func9, Try.ntmps9
    go_wp2
    go_ret2
    exact ⟨rfl, by (repeat (with_reducible first | exact Below.refl _ _ | (refine bl_set ?_ (by first | omega | (simp; done) | (simp; omega)) _) | refine bl_gr ?_ _ | refine bl_al ?_ _ | refine below_setRow ?_ (by first | omega | (simp; done) | (simp; omega)) _ | refine bl_drewN ?_ _ | refine Below.drew ?_ | (refine bl_tr ?_ (by assumption))))⟩
abbrev newSpace (room : Int) : Obj := .cells #[.int .i64 room, .slice none 0 0] 57
set_option maxHeartbeats 1000000 in
theorem new_ok (room : Int) (w : World) (h0 : 0 ≤ room) (h : room ≤ 1048576) :
    Calls Try.prog 9 #[.int .i64 room] w fun e w' => e = .returned (.tuple #[.pointer (some ⟨w.heap.size, 0, none⟩), .int .i64 0]) ∧ w' = w.alloc (newSpace room) := by
  have h1 : ¬ room < 0 := by omega
  have h2 : ¬ 1048576 < room := by omega
  go_enter Try.func9, Try.ntmps9
  go_wp2
  go_ret2
  exact ⟨rfl, rfl⟩

/-! the reference's -/
abbrev spV (room : Int) (lv : Value) : Value := .agg #[.int .i64 room, lv]
set_option maxHeartbeats 1000000 in
theorem rnew_bad (room : Int) (w : World) (h : room < 0 ∨ 1048576 < room) :
    Calls Try.prog 10 #[.int .i64 room] w fun e w' => e = .returned (.tuple #[spV 0 (.slice none 0 0), .int .i64 2]) ∧ Below w.heap.size w w' := by
  rcases h with h | h
  · go_enter Try.func10, Try.ntmps10
    go_wp2
    refine bodyPost_ret (v := .tuple #[spV 0 (.slice none 0 0), .int .i64 2]) (by simp [results, Try.results10, go_sem, gr_size]) rfl ⟨rfl, by (repeat (with_reducible first | exact Below.refl _ _ | (refine bl_set ?_ (by first | omega | (simp; done) | (simp; omega)) _) | refine bl_gr ?_ _ | refine bl_al ?_ _ | refine below_setRow ?_ (by first | omega | (simp; done) | (simp; omega)) _ | refine bl_drewN ?_ _ | refine Below.drew ?_ | (refine bl_tr ?_ (by assumption))))⟩
  · have h0 : ¬ room < 0 := by omega
    go_enter Try.func10, Try.ntmps10
    go_wp2
    refine bodyPost_ret (v := .tuple #[spV 0 (.slice none 0 0), .int .i64 2]) (by simp [results, Try.results10, go_sem, gr_size]) rfl ⟨rfl, by (repeat (with_reducible first | exact Below.refl _ _ | (refine bl_set ?_ (by first | omega | (simp; done) | (simp; omega)) _) | refine bl_gr ?_ _ | refine bl_al ?_ _ | refine below_setRow ?_ (by first | omega | (simp; done) | (simp; omega)) _ | refine bl_drewN ?_ _ | refine Below.drew ?_ | (refine bl_tr ?_ (by assumption))))⟩
set_option maxHeartbeats 1000000 in
theorem rnew_ok (room : Int) (w : World) (h0 : 0 ≤ room) (h : room ≤ 1048576) :
    Calls Try.prog 10 #[.int .i64 room] w fun e w' => e = .returned (.tuple #[spV room (.slice none 0 0), .int .i64 0]) ∧ Below w.heap.size w w' := by
  have h1 : ¬ room < 0 := by omega
  have h2 : ¬ 1048576 < room := by omega
  go_enter Try.func10, Try.ntmps10
  go_wp2
  refine bodyPost_ret (v := .tuple #[spV room (.slice none 0 0), .int .i64 0]) (by simp [results, Try.results10, go_sem, gr_size]) rfl ⟨rfl, by (repeat (with_reducible first | exact Below.refl _ _ | (refine bl_set ?_ (by first | omega | (simp; done) | (simp; omega)) _) | refine bl_gr ?_ _ | refine bl_al ?_ _ | refine below_setRow ?_ (by first | omega | (simp; done) | (simp; omega)) _ | refine bl_drewN ?_ _ | refine Below.drew ?_ | (refine bl_tr ?_ (by assumption))))⟩
set_option maxHeartbeats 1000000 in
theorem rclear_any (room : Int) (lv : Value) (w : World) :
    Calls Try.prog 27 #[spV room lv] w fun e w' => e = .returned (spV room (.slice none 0 0)) ∧ Below w.heap.size w w' := by
  go_enter Try.func27, Try.ntmps27
  go_wp2
  refine bodyPost_ret (v := spV room (.slice none 0 0)) (by simp [results, Try.results27, go_sem, gr_size]) rfl ⟨rfl, by (repeat (with_reducible first | exact Below.refl _ _ | (refine bl_set ?_ (by first | omega | (simp; done) | (simp; omega)) _) | refine bl_gr ?_ _ | refine bl_al ?_ _ | refine below_setRow ?_ (by first | omega | (simp; done) | (simp; omega)) _ | refine bl_drewN ?_ _ | refine Below.drew ?_ | (refine bl_tr ?_ (by assumption))))⟩
end Go.Proofs.Ytgajmhklinolmaa
