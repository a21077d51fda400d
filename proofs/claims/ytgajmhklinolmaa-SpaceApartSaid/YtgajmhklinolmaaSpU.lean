/- Walk of the arena All. -/
import Derived.Test.YtgajmhklinolmaaSpT
namespace Go.Proofs.Ytgajmhklinolmaa
set_option linter.all false
open Go.RowKit Go.Sort Go.Deep

set_option maxRecDepth 100000 in
set_option maxHeartbeats 1000000 in
theorem all_nil (w : World) : Calls Try.prog 16 #[.pointer none] w fun e w' => e = .returned (.slice none 0 0) ∧ Below w.heap.size w w' := by
  go_enter Try.func16, Try.ntmps16
  go_wp2_with (go_at_call 20; refine (callGr (len_nil _)).mono ?_; rintro e w' ⟨pp, rfl, rfl⟩)
  go_loopw [3, 7] (fun v i wr => v = .slice none 0 0 ∧ i = .int .i64 0 ∧ Below w.heap.size w wr) (fun _ _ _ => 0)
  case atStart => exact ⟨rfl, rfl, by (repeat (with_reducible first | exact Below.refl _ _ | (refine bl_set ?_ (by first | omega | (simp; done) | (simp; omega)) _) | refine bl_gr ?_ _ | refine bl_al ?_ _ | refine below_setRow ?_ (by first | omega | (simp; done) | (simp; omega)) _ | refine bl_drewN ?_ _ | refine Below.drew ?_ | (refine bl_tr ?_ (by assumption))))⟩
  case round =>
    obtain ⟨rfl, rfl, hB⟩ := hrel
    go_wp2
    go_ret
    exact ⟨rfl, hB⟩

theorem RowR.snoc' {wr W1 w2 : World} {lo n : Nat} {v : Value} {l : List CellD} {rs : List CellR} {c : CellD} {sv mv : Value} {g2 m2 : Nat} (h : RowR wr lo v l rs) (hn : l.length = n) (hlo : lo ≤ wr.heap.size) (hb : Below wr.heap.size wr W1)
    (o1 : OwnV W1 wr.heap.size sv c.sl) (o2 : OwnV W1 wr.heap.size mv c.mo)
    (hown : w2.ownsRow lo 38 6 (.slice (some ⟨g2, 0, none⟩) (n + 1) m2) (n + 1) (flat CellR.cs rs ++ [.int .i64 c.k, .int .i64 c.sh, .int .i64 c.fl, .int .i64 c.ag, sv, mv]))
    (hgrow : W1.grownBy w2 v.ownBlock) (hat : v.ownBlock = some g2 ∨ g2 = W1.heap.size) :
    RowC w2 lo (.slice (some ⟨g2, 0, none⟩) (n + 1) m2) (l ++ [c]) ∧ Below lo wr w2 := by
  subst hn
  exact h.snoc hlo hb o1 o2 hown hgrow hat

set_option maxRecDepth 100000 in
set_option maxHeartbeats 2000000 in
theorem all_any (F : Nat → Prop) (s : Nat) (room : Int) (l : List CellD) (w : World) (h : Arena w F s room l) (hl : l.length ≤ 1048576) :
    Calls Try.prog 16 #[.pointer (some ⟨s, 0, none⟩)] w fun e w' => ∃ v, e = .returned v ∧ RowC w' w.heap.size v l ∧ Below w.heap.size w w' := by
  have H := Lib.hid h
  have HL := Lib.hid hl
  obtain ⟨ci, hci, hz, hsz, hby⟩ := cell_info
  have CI := Lib.hid (And.intro hci (And.intro hz (And.intro hsz hby)))
  clear hci hz hsz hby h hl
  go_enter Try.func16, Try.ntmps16
  go_wp2_with (go_at_call 20; refine (callGr (len_any F s room l _ (H.out.below (by (repeat (with_reducible first | exact Below.refl _ _ | (refine bl_set ?_ (by first | omega | (simp; done) | (simp; omega)) _) | refine bl_gr ?_ _ | refine bl_al ?_ _ | refine below_setRow ?_ (by first | omega | (simp; done) | (simp; omega)) _ | refine bl_drewN ?_ _ | refine Below.drew ?_ | (refine bl_tr ?_ (by assumption)))))))).mono ?_; rintro e w' ⟨pp, rfl, rfl⟩)
  go_loopw [3, 7] (fun v i wr => ∃ r : Nat, r ≤ l.length ∧ i = .int .i64 r ∧ RowC wr w.heap.size v (l.take r) ∧ Below w.heap.size w wr) (fun _ i _ => l.length - (intOf i).toNat)
  case atStart => exact ⟨0, by omega, rfl, RowC.nil_ _ _, by (repeat (with_reducible first | exact Below.refl _ _ | (refine bl_set ?_ (by first | omega | (simp; done) | (simp; omega)) _) | refine bl_gr ?_ _ | refine bl_al ?_ _ | refine below_setRow ?_ (by first | omega | (simp; done) | (simp; omega)) _ | refine bl_drewN ?_ _ | refine Below.drew ?_ | (refine bl_tr ?_ (by assumption))))⟩
  case round =>
    obtain ⟨r, hr, rfl, hv, hB⟩ := hrel
    by_cases hlt : r < l.length
    · have hA := H.out.below hB
      have hc : l[r]? = some l[r] := List.getElem?_eq_getElem hlt
      have htk : l.take (r + 1) = l.take r ++ [l[r]] := by rw [List.take_succ, hc]; rfl
      have hn : (l.take r).length = r := by simp; omega
      generalize l[r] = c at hc htk
      obtain ⟨g, o, cap, A, ca, B, cb, r0, r1, ho, _, hgs, hg, hm, c0, c1, c2, c3, c4, c5, v1, v2, hf⟩ := hA.at_ hc
      obtain ⟨rs, hR⟩ := hv
      obtain ⟨D, dc, hv'⟩ := ownsRow_form hR.row
      rw [hn] at hv'
      subst hv'
      have h0 : ¬ (r : Int) < 0 := by omega
      have h1 : (r : Int) < l.length := by omega
      unfold maxLen at hm
      have V := Lib.hid (And.intro v1 (And.intro v2 hf))
      have HR := Lib.hid hR
      have HB := Lib.hid hB
      have HT := Lib.hid (And.intro htk hn)
      clear v1 v2 hf ho hA hR hB hc htk hn r0
      go_wp2_with (first
        | (go_at_call 29; refine (own_any _ _ c _ (V.out.1.below (by (repeat (with_reducible first | exact Below.refl _ _ | (refine bl_set ?_ (by first | omega | (simp; done) | (simp; omega)) _) | refine bl_gr ?_ _ | refine bl_al ?_ _ | refine below_setRow ?_ (by first | omega | (simp; done) | (simp; omega)) _ | refine bl_drewN ?_ _ | refine Below.drew ?_ | (refine bl_tr ?_ (by assumption)))))) (V.out.2.1.below (by (repeat (with_reducible first | exact Below.refl _ _ | (refine bl_set ?_ (by first | omega | (simp; done) | (simp; omega)) _) | refine bl_gr ?_ _ | refine bl_al ?_ _ | refine below_setRow ?_ (by first | omega | (simp; done) | (simp; omega)) _ | refine bl_drewN ?_ _ | refine Below.drew ?_ | (refine bl_tr ?_ (by assumption)))))) V.out.2.2).mono ?_; rintro e w1 ⟨sv, mv, rfl, o1, o2, od, hb⟩; obtain ⟨A1, n1, rfl⟩ := o1.form; obtain ⟨A2, n2, rfl⟩ := o2.form; have O := Lib.hid (And.intro o1 (And.intro o2 hb)); clear o1 o2 od hb)
        | (refine wpList_append_lies _ rfl (.tmp 10) (.tmp 19) 29 rfl w.heap.size 38 ci (.agg zcell) 6 80 Try.underlying29 CI.out.1 CI.out.2.1 CI.out.2.2.1 CI.out.2.2.2 rfl (by omega) (.slice D r dc) r (flat CellR.cs rs) rfl ?_ _ 1 1 [.int .i64 c.k, .int .i64 c.sh, .int .i64 c.fl, .int .i64 c.ag, .slice A1 c.sl.length n1, .slice A2 c.mo.length n2] rfl rfl ?_ ?_ ?_ ?_ ?_ ?_ _ rfl ?_; go_loud ((next => refine ownsRow_below (w := wr) ?_ (bl_al O.out.2.2 _); have q := HR.out.row; rw [HT.out.2] at q; exact q); (next => exact World.news_of_block (heap_alloc_new w1 _)); (next => intro u hu; simp only [List.mem_cons, List.not_mem_nil, or_false] at hu; rcases hu with rfl | rfl | rfl | rfl | rfl | rfl <;> rfl); (next => omega); (next => have := HL.out; unfold maxLen; omega); (next => have := HL.out; omega); (next => have q1 := HB.out.size; have q2 := O.out.2.2.size; simp; omega); intro g2 n2 w2 hown hgrow hat hlt2; have S := Lib.hid (HR.out.snoc' HT.out.2 HB.out.size (bl_al O.out.2.2 _) (ownsRow_below O.out.1 (bl_al (Below.refl _ _) _)) (ownsRow_below O.out.2.1 (bl_al (Below.refl _ _) _)) hown hgrow (hat.imp_right (fun e => by simp [e]))); clear hown hgrow hat hlt2)))
      go_roundw
      case rel => exact ⟨r + 1, by omega, by go_num, by rw [HT.out.1]; exact S.out.1, HB.out.trans S.out.2⟩
      case measure => simp [intOf]; omega
    · have e : l.take r = l := List.take_of_length_le (by omega)
      rw [e] at hv
      have h1 : ¬ (r : Int) < l.length := by omega
      have R := Lib.hid (And.intro hv hB)
      clear hv hB e
      go_wp2
      go_ret
      exact ⟨_, rfl, R.out.1, R.out.2⟩
end Go.Proofs.Ytgajmhklinolmaa
