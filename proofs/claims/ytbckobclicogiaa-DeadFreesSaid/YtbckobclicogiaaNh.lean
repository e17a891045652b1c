/-
  DeadFrees: what any queue is when a message is freed, and where each is.
-/
import Derived.Test.YtbckobclicogiaaNd
import Derived.Test.YtbckobclicogiaaNf
import Derived.Test.YtbckobclicogiaaNg
import Derived.Test.YtbckobclicogiaaNi
set_option linter.unusedVariables false
set_option linter.unusedSimpArgs false
namespace Go.Proofs.Ytbckobclicogiaa
open Go.RowKit Go.Proofs.PosteMem Go.Proofs.PosteOpen

theorem rfree_any (w : World) (o : Ob) (r m d : Value) (id : Int) (tried : Bool) (h : VOb w o r m d) (hs : o.small) :
    Calls Try.prog 14 #[.agg (o.cells r m d), .int .i64 id, .bool tried] w (FreePost w (freeR o id tried)) := by
  rcases place o.msgs id with hi | ⟨k, hk, hi⟩
  · rw [freeR_none hi]
    exact rfree_none w o r m d id tried h hs hi
  · rw [freeR_at hk hi]
    unfold freeAt
    cases hc : o.msgs[k].claimed with
    | false =>
      rw [if_pos rfl]
      exact rfree_claimed w o r m d id tried h hs k hk hi hc
    | true =>
      rw [if_neg (by decide)]
      cases tried with
      | false =>
        rw [if_pos rfl]
        exact rfree_untried w o r m d id h hs k hk hi hc
      | true =>
        rw [if_neg (by decide)]
        by_cases hg : o.limit ≤ triedI o.msgs[k].retry
        · rw [if_pos hg]
          exact rfree_gone w o r m d id h hs k hk hi hc hg
        · rw [if_neg hg]
          exact rfree_kept w o r m d id h hs k hk hi hc hg

theorem freeR_small {o : Ob} {id : Int} {tried : Bool} (h1 : o.rows.length ≤ 40) (h2 : o.msgs.length ≤ 40) (h3 : o.dead.length ≤ 40) : (freeR o id tried).1.small := by
  unfold freeR
  split
  · unfold freeAt
    repeat (first | (split; · (unfold Ob.small; simp; omega)) | split)
    all_goals (unfold Ob.small; simp [List.length_eraseIdx]; try split)
    all_goals omega
  · unfold Ob.small
    simp only
    omega

set_option maxRecDepth 100000 in
set_option maxHeartbeats 8000000 in
theorem frees_core (w : World) (o : Ob) (r m d : Value) (id : Int) (tried : Bool) (h : VOb w o r m d) :
    Calls Try.prog 3 #[.agg (o.cells r m d), .int .i64 id, .bool tried] w fun e w' => e = .returned (.bool true) ∧ Below w.heap.size w w' := by
  obtain ⟨Ar, cr, hr, _⟩ := h.rows.cells
  obtain ⟨Am, cm, hm, _⟩ := h.msgs.cells
  obtain ⟨Ad, cd, hd, _⟩ := h.dead.cells
  subst hr hm hd
  have hbx := Whole.new w 25 (o.cells (.slice Ar o.rows.length cr) (.slice Am o.msgs.length cm) (.slice Ad o.dead.length cd))
  by_cases h2 : 40 < o.msgs.length
  · have g2 : (40 : Int) < (o.msgs.length : Int) := by omega
    replace h := Lib.hid h
    obtain ⟨name, kind, limit, R, M, D⟩ := o
    unfold Ob.cells at *
    simp only at g2 hbx ⊢
    go_enter Try.func3, Try.ntmps3
    go_wp2_with fail
    refine (alive16 _).mono ?_; rintro e w1 ⟨rfl, hb1⟩
    have c4 := (hbx.below hb1).cell 4
    go_wp2
    go_ret
    exact ⟨rfl, below_then ((Below.refl w.heap.size w).alloc (Nat.le_refl _) _) hb1⟩
  have g2 : ¬ (40 : Int) < (o.msgs.length : Int) := by omega
  by_cases h3 : 40 < o.dead.length
  · have g3 : (40 : Int) < (o.dead.length : Int) := by omega
    replace h := Lib.hid h
    obtain ⟨name, kind, limit, R, M, D⟩ := o
    unfold Ob.cells at *
    simp only at g2 g3 hbx ⊢
    go_enter Try.func3, Try.ntmps3
    go_wp2_with fail
    refine (alive16 _).mono ?_; rintro e w1 ⟨rfl, hb1⟩
    have c4 := (hbx.below hb1).cell 4
    have c5 := (hbx.below hb1).cell 5
    go_wp2
    go_ret
    exact ⟨rfl, below_then ((Below.refl w.heap.size w).alloc (Nat.le_refl _) _) hb1⟩
  have g3 : ¬ (40 : Int) < (o.dead.length : Int) := by omega
  by_cases h1 : 40 < o.rows.length
  · have g1 : (40 : Int) < (o.rows.length : Int) := by omega
    replace h := Lib.hid h
    obtain ⟨name, kind, limit, R, M, D⟩ := o
    unfold Ob.cells at *
    simp only at g1 g2 g3 hbx ⊢
    go_enter Try.func3, Try.ntmps3
    go_wp2_with fail
    refine (alive16 _).mono ?_; rintro e w1 ⟨rfl, hb1⟩
    have c3 := (hbx.below hb1).cell 3
    have c4 := (hbx.below hb1).cell 4
    have c5 := (hbx.below hb1).cell 5
    go_wp2
    go_ret
    exact ⟨rfl, below_then ((Below.refl w.heap.size w).alloc (Nat.le_refl _) _) hb1⟩
  have g1 : ¬ (40 : Int) < (o.rows.length : Int) := by omega
  have hs : o.small := by unfold Ob.small; omega
  have hs2 := freeR_small (o := o) (id := id) (tried := tried) (by omega) (by omega) (by omega)
  have kF := Lib.hid (fun W (hb : Below w.heap.size w W) => free_any W o _ _ _ id tried (VOb.below h hb) hs)
  have kR := Lib.hid (fun W (hb : Below w.heap.size w W) => rfree_any W o _ _ _ id tried (VOb.below h hb) hs)
  have kW := Lib.hid (fun W (hb : Below w.heap.size w W) => where_any W o _ _ _ id (VOb.below h hb) hs)
  have kV := Lib.hid (fun W (hb : Below w.heap.size w W) => rwhere_any W o _ _ _ id (VOb.below h hb) hs)
  clear h h1 h2 h3 hs
  generalize freeR o id tried = res at *
  obtain ⟨⟨name', kind', limit', R', M', D'⟩, ok⟩ := res
  generalize whereR o id = wh at *
  obtain ⟨name, kind, limit, R, M, D⟩ := o
  unfold FreePost Ob.cells at *
  simp only at *
  replace hs2 := Lib.hid hs2
  go_enter Try.func3, Try.ntmps3
  go_wp2_with fail
  refine (alive16 _).mono ?_; rintro e w1 ⟨rfl, hb1⟩
  have x1 := hbx.below hb1
  have hacc := below_then ((Below.refl w.heap.size w).alloc (Nat.le_refl _) _) hb1
  have c0 := x1.cell 0
  have c1 := x1.cell 1
  have c2 := x1.cell 2
  have c3 := x1.cell 3
  have c4 := x1.cell 4
  have c5 := x1.cell 5
  go_wp2_with fail
  refine (kF.out _ hacc).mono ?_; rintro e w2 ⟨r1, m1, d1, rfl, ho1, hb2⟩
  obtain ⟨A1, n1, rfl, _, _, _⟩ := own_shape ho1.rows
  obtain ⟨A2, n2, rfl, _, _, _⟩ := own_shape ho1.msgs
  obtain ⟨A3, n3, rfl, _, _, _⟩ := own_shape ho1.dead
  have y1 : Whole (w2.alloc (.cells #[.string name', .int .i64 kind', .int .i64 limit', .slice A1 R'.length n1, .slice A2 M'.length n2, .slice A3 D'.length n3] 25)) w2.heap.size 25 #[.string name', .int .i64 kind', .int .i64 limit', .slice A1 R'.length n1, .slice A2 M'.length n2, .slice A3 D'.length n3] := Whole.new w2 _ _
  have hal := (Below.refl w2.heap.size w2).alloc (Nat.le_refl _) (.cells #[.string name', .int .i64 kind', .int .i64 limit', .slice A1 R'.length n1, .slice A2 M'.length n2, .slice A3 D'.length n3] 25)
  have x3 := (x1.below hb2).below hal
  have hacc3 := below_then (below_then hacc hb2) hal
  have ho1' := (ho1.view.below hal)
  clear x1 c0 c1 c2 c3 c4 c5 hb1 hbx hb2 ho1 hal
  replace ho1' := Lib.hid ho1'
  have hl2 := y1.lt
  have c0 := x3.cell 0
  have c1 := x3.cell 1
  have c2 := x3.cell 2
  have c3 := x3.cell 3
  have c4 := x3.cell 4
  have c5 := x3.cell 5
  go_upto_region 5 with fail
  generalize (w2.alloc (.cells #[.string name', .int .i64 kind', .int .i64 limit', .slice A1 R'.length n1, .slice A2 M'.length n2, .slice A3 D'.length n3] 25)) = w3 at *
  generalize w2.heap.size = b1 at *
  go_wp2_with fail
  refine (kR.out _ hacc3).mono ?_; rintro e w4 ⟨r2, m2, d2, rfl, ho2, hb4⟩
  obtain ⟨B1, i1, rfl, _, _, _⟩ := own_shape ho2.rows
  obtain ⟨B2, i2, rfl, _, _, _⟩ := own_shape ho2.msgs
  obtain ⟨B3, i3, rfl, _, _, _⟩ := own_shape ho2.dead
  have y2 := Whole.new w4 25 #[.string name', .int .i64 kind', .int .i64 limit', .slice B1 R'.length i1, .slice B2 M'.length i2, .slice B3 D'.length i3]
  have hal := (Below.refl w4.heap.size w4).alloc (Nat.le_refl _) (.cells #[.string name', .int .i64 kind', .int .i64 limit', .slice B1 R'.length i1, .slice B2 M'.length i2, .slice B3 D'.length i3] 25)
  have x5 := (x3.below hb4).below hal
  have y5 := (y1.below hb4).below hal
  have hacc5 := below_then (below_then hacc3 hb4) hal
  have ho1'' := (ho1'.out.below hb4).below hal
  have ho2' := ho2.view.below hal
  clear x3 c0 c1 c2 c3 c4 c5 y1 hb4 ho2 hal hl2
  replace ho1'' := Lib.hid ho1''
  replace ho2' := Lib.hid ho2'
  go_upto_region 6 with fail
  generalize (w4.alloc (.cells #[.string name', .int .i64 kind', .int .i64 limit', .slice B1 R'.length i1, .slice B2 M'.length i2, .slice B3 D'.length i3] 25)) = w5 at *
  generalize w4.heap.size = b2 at *
  have kS := Lib.hid (fun W (hb : Below w5.heap.size w5 W) => same_object W ⟨name', kind', limit', R', M', D'⟩ _ _ _ _ _ _ (VOb.below ho1''.out hb) (VOb.below ho2'.out hb) hs2.out)
  unfold Ob.cells at kS
  simp only at kS
  have hwl := x5.lt
  have hl1 := y5.lt
  have hl2 := y2.lt
  have hd : Below w5.heap.size w5 w5.drew := Below.drew (Below.refl _ _)
  have tt : True := trivial
  go_region_held3 (fun (w' : World) => (∀ i, w'.cell? ⟨w.heap.size, i, none⟩ = (#[Value.string name, .int .i64 kind, .int .i64 limit, .slice Ar R.length cr, .slice Am M.length cm, .slice Ad D.length cd] : Array Value)[i]?) ∧ (∀ i, w'.cell? ⟨b1, i, none⟩ = (#[Value.string name', .int .i64 kind', .int .i64 limit', .slice A1 R'.length n1, .slice A2 M'.length n2, .slice A3 D'.length n3] : Array Value)[i]?) ∧ (∀ i, w'.cell? ⟨b2, i, none⟩ = (#[Value.string name', .int .i64 kind', .int .i64 limit', .slice B1 R'.length i1, .slice B2 M'.length i2, .slice B3 D'.length i3] : Array Value)[i]?))
    (first | assumption | exact ⟨fun i => (hd.cell (p := ⟨w.heap.size, i, none⟩) hwl).trans (x5.cell i), fun i => (hd.cell (p := ⟨b1, i, none⟩) hl1).trans (y5.cell i), fun i => (hd.cell (p := ⟨b2, i, none⟩) hl2).trans (y2.cell i)⟩ | exact ⟨fun i => x5.cell i, fun i => y5.cell i, fun i => y2.cell i⟩)
    (first
      | (go_at_call 15; refine (kS.out _ hd).mono ?_; rintro e wS ⟨rfl, hbS⟩; replace hd := below_then hd hbS)
      | (go_at_call 16; refine (kW.out _ (below_then hacc5 hd)).mono ?_; rintro e wW ⟨rfl, hbW⟩; replace hd := below_then hd hbW)
      | (go_at_call 17; refine (kV.out _ (below_then hacc5 hd)).mono ?_; rintro e wV ⟨rfl, hbV⟩; replace hd := below_then hd hbV))
  all_goals
    go_wp2
    go_ret
    exact ⟨by simp, below_then hacc5 hd⟩

theorem deadFrees_walk (W : World) (cs : Array Value) (x : KOb.T) (z : Rd Try.prog W KOb (Value.agg cs).cells.toList x) (id : Int) (_ : (Lit.int .i64 id).wf = true) (tried : Bool) :
    Calls Try.prog 3 #[.agg cs, .int .i64 id, .bool tried] W fun e w' => e = .returned (.bool true) ∧ Below W.heap.size W w' := by
  obtain ⟨o, r, m, d, e, h⟩ := ob_of_rd z
  rw [e]
  exact frees_core W o r m d id tried h
end Go.Proofs.Ytbckobclicogiaa
