/-
  posteref14.CopyObject, dead.Where, posteref14.Where, each by its contract.
-/
import Derived.Test.YtbckobclicogiaaMx
set_option linter.unusedVariables false
namespace Go.Proofs.Ytbckobclicogiaa
open Go.RowKit Go.Proofs.PosteMem

def whereR (o : Ob) (id : Int) : Int := if 0 ≤ idxI (byId id) o.msgs then 1 else if 0 ≤ idxI (byId id) o.dead then 2 else 0
set_option maxHeartbeats 4000000 in
theorem where_any (w : World) (o : Ob) (r m d : Value) (id : Int) (h : VOb w o r m d) (hs : o.small) :
    Calls Try.prog 16 #[.agg (o.cells r m d), .int .i64 id] w fun e w' => e = .returned (.int .i64 (whereR o id)) ∧ Below w.heap.size w w' := by
  obtain ⟨s1, s2, s3⟩ := hs
  have hbx := Whole.new w 25 (o.cells r m d)
  have h0 : Below w.heap.size w (w.alloc (.cells (o.cells r m d) 25)) := by (refine upd_to_below ?_; repeat (first | exact Upd.refl _ _ | refine Upd.setCell ?_ (Or.inl (by simp)) _ | refine Upd.alloc ?_ _ | refine Upd.drewN ?_ _ | refine Upd.drew ?_))
  have k1 := Lib.hid (fun W (hb : Below w.heap.size w W) => find_any W m o.msgs id (View.below h.msgs hb) s2)
  have k2 := Lib.hid (fun W (hb : Below w.heap.size w W) => find_any W d o.dead id (View.below h.dead hb) s3)
  clear h
  unfold whereR
  generalize idxI (byId id) o.msgs = i1 at *
  generalize idxI (byId id) o.dead = i2 at *
  obtain ⟨name, kind, limit, R, M, D⟩ := o
  unfold Ob.cells at *
  simp only at *
  by_cases h1 : 0 ≤ i1
  · go_enter Try.func16, Try.ntmps16
    go_wp2_with fail
    refine (k1.out _ h0).mono ?_; rintro e w1 ⟨rfl, hb1⟩
    go_wp2
    go_ret
    exact ⟨by first | rfl | rw [if_pos h1], below_then h0 hb1⟩
  · by_cases h2 : 0 ≤ i2
    all_goals
      go_enter Try.func16, Try.ntmps16
      go_wp2_with fail
      refine (k1.out _ h0).mono ?_; rintro e w1 ⟨rfl, hb1⟩
      have c5 := (hbx.below hb1).cell 5
      go_wp2_with fail
      refine (k2.out _ (below_then h0 hb1)).mono ?_; rintro e w2 ⟨rfl, hb2⟩
      go_wp2
      go_ret
      refine ⟨?_, below_then (below_then h0 hb1) hb2⟩
      first | rfl | rw [if_neg h1, if_pos h2] | rw [if_neg h1, if_neg h2]
set_option maxHeartbeats 4000000 in
theorem rwhere_any (w : World) (o : Ob) (r m d : Value) (id : Int) (h : VOb w o r m d) (hs : o.small) :
    Calls Try.prog 17 #[.agg (o.cells r m d), .int .i64 id] w fun e w' => e = .returned (.int .i64 (whereR o id)) ∧ Below w.heap.size w w' := by
  obtain ⟨s1, s2, s3⟩ := hs
  have h0 : Below w.heap.size w (w.alloc (.cells (o.cells r m d) 25)) := by (refine upd_to_below ?_; repeat (first | exact Upd.refl _ _ | refine Upd.setCell ?_ (Or.inl (by simp)) _ | refine Upd.alloc ?_ _ | refine Upd.drewN ?_ _ | refine Upd.drew ?_))
  have k1 := Lib.hid (fun W (hb : Below w.heap.size w W) => findMsg_any W m o.msgs id (View.below h.msgs hb) s2)
  have k2 := Lib.hid (fun W (hb : Below w.heap.size w W) => findMsg_any W d o.dead id (View.below h.dead hb) s3)
  clear h
  unfold whereR
  generalize idxI (byId id) o.msgs = i1 at *
  generalize idxI (byId id) o.dead = i2 at *
  obtain ⟨name, kind, limit, R, M, D⟩ := o
  unfold Ob.cells at *
  simp only at *
  by_cases h1 : 0 ≤ i1
  · go_enter Try.func17, Try.ntmps17
    go_wp2_with fail
    refine (k1.out _ h0).mono ?_; rintro e w1 ⟨rfl, rfl⟩
    go_wp2
    go_ret
    exact ⟨by first | rfl | rw [if_pos h1], h0⟩
  · by_cases h2 : 0 ≤ i2
    all_goals
      go_enter Try.func17, Try.ntmps17
      go_wp2_with fail
      refine (k1.out _ h0).mono ?_; rintro e w1 ⟨rfl, rfl⟩
      go_wp2_with fail
      refine (k2.out _ h0).mono ?_; rintro e w2 ⟨rfl, rfl⟩
      go_wp2
      go_ret
      refine ⟨?_, h0⟩
      first | rfl | rw [if_neg h1, if_pos h2] | rw [if_neg h1, if_neg h2]

set_option maxRecDepth 100000 in
set_option maxHeartbeats 8000000 in
theorem copy_any (w : World) (o : Ob) (r m d : Value) (h : VOb w o r m d) (hs : o.small) :
    Calls Try.prog 40 #[.agg (o.cells r m d)] w fun e w' => ∃ r' m' d', e = .returned (.agg (o.cells r' m' d')) ∧ OOb w' w.heap.size o r' m' d' ∧ Below w.heap.size w w' := by
  obtain ⟨s1, s2, s3⟩ := hs
  obtain ⟨i0, hi0, hz0, hz1, hz2⟩ := info_parts infoRow
  obtain ⟨j0, hj0, hy0, hy1, hy2⟩ := info_parts infoMsg
  obtain ⟨name, kind, limit, R, M, D⟩ := o
  simp only at s1 s2 s3
  have v1 := Lib.hid (fun W (hb : Below w.heap.size w W) => View.below h.rows hb)
  have v2 := Lib.hid (fun W (hb : Below w.heap.size w W) => View.below h.msgs hb)
  have v3 := Lib.hid (fun W (hb : Below w.heap.size w W) => View.below h.dead hb)
  clear h
  unfold Ob.cells
  simp only at *
  have hbx := Whole.alloc (Whole.new w 25 #[.string name, .int .i64 kind, .int .i64 limit, r, m, d]) (.cells #[.string ⟨#[]⟩, .int .i64 0, .int .i64 0, .slice none 0 0, .slice none 0 0, .slice none 0 0] 25)
  have hb2 : Whole ((w.alloc (.cells #[.string name, .int .i64 kind, .int .i64 limit, r, m, d] 25)).alloc (.cells #[.string ⟨#[]⟩, .int .i64 0, .int .i64 0, .slice none 0 0, .slice none 0 0, .slice none 0 0] 25)) (w.heap.size + 1) 25 #[.string ⟨#[]⟩, .int .i64 0, .int .i64 0, .slice none 0 0, .slice none 0 0, .slice none 0 0] := by
    have := Whole.new (w.alloc (.cells #[.string name, .int .i64 kind, .int .i64 limit, r, m, d] 25)) 25 #[.string ⟨#[]⟩, .int .i64 0, .int .i64 0, .slice none 0 0, .slice none 0 0, .slice none 0 0]
    rwa [show (w.alloc (.cells #[.string name, .int .i64 kind, .int .i64 limit, r, m, d] 25)).heap.size = w.heap.size + 1 by simp] at this
  have hacc : Below w.heap.size w ((w.alloc (.cells #[.string name, .int .i64 kind, .int .i64 limit, r, m, d] 25)).alloc (.cells #[.string ⟨#[]⟩, .int .i64 0, .int .i64 0, .slice none 0 0, .slice none 0 0, .slice none 0 0] 25)) := by (refine upd_to_below ?_; repeat (first | exact Upd.refl _ _ | refine Upd.setCell ?_ (Or.inl (by simp)) _ | refine Upd.alloc ?_ _ | refine Upd.drewN ?_ _ | refine Upd.drew ?_))
  obtain ⟨A1, e1, hr⟩ : ∃ A c, r = .slice A R.length c := by
    obtain ⟨A, c, e, _⟩ := (v1.out w (Below.refl _ _)).cells
    exact ⟨A, c, e⟩
  obtain ⟨A2, e2, hm⟩ : ∃ A c, m = .slice A M.length c := by
    obtain ⟨A, c, e, _⟩ := (v2.out w (Below.refl _ _)).cells
    exact ⟨A, c, e⟩
  obtain ⟨A3, e3, hd⟩ : ∃ A c, d = .slice A D.length c := by
    obtain ⟨A, c, e, _⟩ := (v3.out w (Below.refl _ _)).cells
    exact ⟨A, c, e⟩
  subst hr hm hd
  go_enter Try.func40, Try.ntmps40
  go_wp2_with (first
    | (at_builtin; refine wpList_append_new _ rfl (.const (.slice none 0 0)) (.tmp 4) _ rfl (w.heap.size + 2) 77 i0 zRow 2 32 Try.underlying22 hi0 hz0 hz1 hz2 rfl (by decide) rfl _ R.length _ rfl (v1.out _ hacc) (Row.one _) (by omega) (by simp only [maxLen]; omega) (by simp) ?_; intro B1 n1 w1 hown1 hm1 hc1 hA1 hg1 hat1; have x1 := hbx.grown hg1 (by simp); have z1 := hb2.grown hg1 (by simp); have hB1 := hacc.grown hg1 (by simp; omega) (by simp); have hlt1 := z1.lt; clear hbx hb2 hacc; have f3 := x1.frozen 3; have c3 := x1.cell 3; have c4 := x1.cell 4; have c5 := x1.cell 5)
    | (at_builtin; refine wpList_append_new _ rfl (.const (.slice none 0 0)) (.tmp 8) _ rfl (w.heap.size + 2) 34 j0 zMsg 6 64 Try.underlying23 hj0 hy0 hy1 hy2 rfl (by decide) rfl _ M.length _ rfl (v2.out _ (hB1.setCell (by simp) _)) (Msg.one _) (by omega) (by simp only [maxLen]; omega) (by first | (simp [World.setCell]; done) | (simp [World.setCell]; omega)) ?_; intro B2 n2 w2 hown2 hm2 hc2 hA2 hg2 hat2; have x2 : Whole w2 w.heap.size 25 #[.string name, .int .i64 kind, .int .i64 limit, .slice B1 R.length n1, .slice A2 M.length e2, .slice A3 D.length e3] := (x1.set 3 _).grown hg2 (by simp); have z2 := (z1.other (p := ⟨w.heap.size, 3, none⟩) (by simp) (.slice B1 R.length n1)).grown hg2 (by simp); have hB2 := (hB1.setCell (p := ⟨w.heap.size, 3, none⟩) (Nat.le_refl _) (.slice B1 R.length n1)).grown hg2 (by first | (simp [World.setCell]; done) | (simp [World.setCell]; omega)) (by simp); have ho1 : ORows w2 (w.heap.size + 2) (.slice B1 R.length n1) R := own_grown (own_setCell hown1 (own_ne_whole hown1 x1 (by decide)) _) hg2 (by simp); have hlt2 := z2.lt; clear x1 z1 f3 c3 c4 c5 hlt1 hg1 hg2; have f4 := x2.frozen 4; have c3 := x2.cell 3; have c4 := x2.cell 4; have c5 := x2.cell 5)
    | (at_builtin; refine wpList_append_new _ rfl (.const (.slice none 0 0)) (.tmp 12) _ rfl (w.heap.size + 2) 34 j0 zMsg 6 64 Try.underlying23 hj0 hy0 hy1 hy2 rfl (by decide) rfl _ D.length _ rfl (v3.out _ (hB2.setCell (by simp) _)) (Msg.one _) (by omega) (by simp only [maxLen]; omega) (by first | (simp [World.setCell]; done) | (simp [World.setCell]; omega)) ?_; intro B3 n3 w3 hown3 hm3 hc3 hA3 hg3 hat3; have x3 : Whole w3 w.heap.size 25 #[.string name, .int .i64 kind, .int .i64 limit, .slice B1 R.length n1, .slice B2 M.length n2, .slice A3 D.length e3] := (x2.set 4 _).grown hg3 (by simp); have z3 := (z2.other (p := ⟨w.heap.size, 4, none⟩) (by simp) (.slice B2 M.length n2)).grown hg3 (by simp); have hB3 := (hB2.setCell (p := ⟨w.heap.size, 4, none⟩) (Nat.le_refl _) (.slice B2 M.length n2)).grown hg3 (by first | (simp [World.setCell]; done) | (simp [World.setCell]; omega)) (by simp); have hat3' : (Value.slice B3 D.length n3).ownBlock = none ∨ (Value.slice B3 D.length n3).ownBlock = some w2.heap.size := hat3.imp id (fun h => h.trans (by simp [World.setCell])); have ho1' : ORows w3 (w.heap.size + 2) (.slice B1 R.length n1) R := own_grown (own_setCell ho1 (own_ne_whole ho1 x2 (by decide)) _) hg3 (by simp); have ho2' : OMsgs w3 (w.heap.size + 2) (.slice B2 M.length n2) M := own_grown (own_setCell hown2 (own_ne_whole hown2 x2 (by decide)) _) hg3 (by simp); have hl2 := fun b (hb : (Value.slice B2 M.length n2).ownBlock = some b) => (own_lt hown2 hb).2; have hlt3 := z3.lt; clear x2 z2 f4 c3 c4 c5 hlt2 hg3 ho1; have f5 := x3.frozen 5; have c0 := x3.cell 0; have c1 := x3.cell 1; have c2 := x3.cell 2; have c3 := x3.cell 3; have c4 := x3.cell 4; have c5 := x3.cell 5; have y0 := z3.cell 0; have y1 := z3.cell 1; have y2 := z3.cell 2; have y3 := z3.cell 3; have y4 := z3.cell 4; have y5 := z3.cell 5; have k0 := z3.frozen 0; have k1 := z3.frozen 1; have k2 := z3.frozen 2; have k3 := z3.frozen 3; have k4 := z3.frozen 4; have k5 := z3.frozen 5))
  have x4 : Whole (w3.setCell ⟨w.heap.size, 5, none⟩ (.slice B3 D.length n3)) w.heap.size 25 #[.string name, .int .i64 kind, .int .i64 limit, .slice B1 R.length n1, .slice B2 M.length n2, .slice B3 D.length n3] := x3.set 5 _
  have z4 := z3.other (p := ⟨w.heap.size, 5, none⟩) (by simp) (.slice B3 D.length n3)
  have hB4 := hB3.setCell (p := ⟨w.heap.size, 5, none⟩) (Nat.le_refl _) (.slice B3 D.length n3)
  have hfin : OOb (w3.setCell ⟨w.heap.size, 5, none⟩ (.slice B3 D.length n3)) (w.heap.size + 2) ⟨name, kind, limit, R, M, D⟩ (.slice B1 R.length n1) (.slice B2 M.length n2) (.slice B3 D.length n3) := by
    refine ⟨own_setCell ho1' (own_ne_whole ho1' x3 (by decide)) _, own_setCell ho2' (own_ne_whole ho2' x3 (by decide)) _, own_setCell hown3 (own_ne_whole hown3 x3 (by decide)) _, fun b hb hb' => ?_⟩
    have := hl2 b hb
    rcases hat3' with h | h
    · rw [h] at hb'; cases hb'
    · rw [h] at hb'; injection hb' with hb'; omega
  obtain ⟨hf, hB5⟩ := clone_out hfin (set6_upd _ (w.heap.size + 1) (.string name) (.int .i64 kind) (.int .i64 limit) (.slice B1 R.length n1) (.slice B2 M.length n2) (.slice B3 D.length n3)) hB4 z4.lt
  exact bodyPost_ret (results_cell_row rfl _ _ (w.heap.size + 1) _ _ _ _ rfl (set6_whole (.string name) (.int .i64 kind) (.int .i64 limit) (.slice B1 R.length n1) (.slice B2 M.length n2) (.slice B3 D.length n3) z4) Try.underlying25 rfl (by kernel_rfl)) rfl ⟨_, _, _, rfl, hf, hB5⟩
end Go.Proofs.Ytbckobclicogiaa
