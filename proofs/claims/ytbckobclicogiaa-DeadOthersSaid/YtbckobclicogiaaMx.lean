/-
  dead.clone by its contract.
-/
import Derived.Test.YtbckobclicogiaaMw
import Derived.Deep.DrawnRows
set_option linter.unusedVariables false
namespace Go.Proofs.Ytbckobclicogiaa
open Go.RowKit Go.Proofs.PosteMem
attribute [local go_sem ↓] Go.wp_at_zero Go.wp_at_succ


/-- A world with three cells of a block stored anew. -/
def set3 (w : World) (g : Nat) (x y z : Value) : World := ((w.setCell ⟨g, 3, none⟩ x).setCell ⟨g, 4, none⟩ y).setCell ⟨g, 5, none⟩ z
theorem set3_whole {w : World} {g : Nat} {T : TypeId} {a b c d e f : Value} (x y z : Value) (h : Whole w g T #[a, b, c, d, e, f]) : Whole (set3 w g x y z) g T #[a, b, c, x, y, z] := ((h.set 3 x).set 4 y).set 5 z
theorem set3_other {w : World} {g g' : Nat} {T : TypeId} {cs : Array Value} (x y z : Value) (h : Whole w g' T cs) (hne : g' ≠ g) : Whole (set3 w g x y z) g' T cs := ((h.other hne x).other hne y).other hne z
theorem set3_upd (w : World) (g : Nat) (x y z : Value) : Upd (fun b => b = g) w (set3 w g x y z) := by
  unfold set3
  exact (((Upd.refl (fun b => b = g) w).setCell (p := ⟨g, 3, none⟩) (.inr rfl) x).setCell (p := ⟨g, 4, none⟩) (.inr rfl) y).setCell (p := ⟨g, 5, none⟩) (.inr rfl) z
theorem clone_fin {w W w1 w2 w3 : World} {o : Ob} {a1 a2 a3 : Value} {c0 : Array Value} {z0 : Array Value} (hacc : Below w.heap.size w W) (hbx : Whole W w.heap.size 25 c0) (hb2 : Whole W (w.heap.size + 1) 25 z0)
    (hb1 : Below W.drew.heap.size W.drew w1) (hb2' : Below w1.heap.size w1 w2) (hb3 : Below w2.heap.size w2 w3)
    (ho1 : ORows w1 W.drew.heap.size a1 o.rows) (ho2 : OMsgs w2 w1.heap.size a2 o.msgs) (ho3 : OMsgs w3 w2.heap.size a3 o.dead) {a b c d e f : Value} (x3 : Whole w3 w.heap.size 25 #[a, b, c, d, e, f]) :
    OOb (set3 w3 w.heap.size a1 a2 a3) (w.heap.size + 2) o a1 a2 a3 ∧ Below w.heap.size w (set3 w3 w.heap.size a1 a2 a3) ∧ Whole (set3 w3 w.heap.size a1 a2 a3) w.heap.size 25 #[a, b, c, a1, a2, a3] ∧ Whole (set3 w3 w.heap.size a1 a2 a3) (w.heap.size + 1) 25 z0 := by
  have up := set3_upd w3 w.heap.size a1 a2 a3
  have hsz := hacc.size
  have hlt := hb2.lt
  have hB : Below w.heap.size w w3 := below_then (below_then (below_then (Below.drew hacc) hb1) hb2') hb3
  have p1 := fun b (hb : a1.ownBlock = some b) => own_lt ho1 hb
  have p2 := fun b (hb : a2.ownBlock = some b) => own_lt ho2 hb
  have p3 := fun b (hb : a3.ownBlock = some b) => own_lt ho3 hb
  have q1 := hb1.size
  have q2 := hb2'.size
  have hW : W.drew.heap.size = W.heap.size := rfl
  have y2 : Whole w3 _ _ _ := Whole.below (Whole.below (Whole.below (Whole.drew hb2) hb1) hb2') hb3
  refine ⟨⟨own_upd (own_mono (own_below (own_below ho1 hb2') hb3) (by omega)) up (fun b hb e => ?_), own_upd (own_mono (own_below ho2 hb3) (by omega)) up (fun b hb e => ?_), own_upd (own_mono ho3 (by omega)) up (fun b hb e => ?_), fun b hb1 hb2 => ?_⟩, ?_, set3_whole _ _ _ x3, set3_other _ _ _ y2 (by omega)⟩
  · have := (p1 b hb).1; omega
  · have := (p2 b hb).1; omega
  · have := (p3 b hb).1; omega
  · have := (p2 b hb1).2; have := (p3 b hb2).1; omega
  · exact hB.trans (up.below hB.size (fun b e => by omega))

def set6 (w : World) (g : Nat) (a b c x y z : Value) : World := (((((w.setCell ⟨g, 0, none⟩ a).setCell ⟨g, 1, none⟩ b).setCell ⟨g, 2, none⟩ c).setCell ⟨g, 3, none⟩ x).setCell ⟨g, 4, none⟩ y).setCell ⟨g, 5, none⟩ z
theorem set6_whole {w : World} {g : Nat} {T : TypeId} {a' b' c' d' e' f' : Value} (a b c x y z : Value) (h : Whole w g T #[a', b', c', d', e', f']) : Whole (set6 w g a b c x y z) g T #[a, b, c, x, y, z] := (((((h.set 0 a).set 1 b).set 2 c).set 3 x).set 4 y).set 5 z
theorem set6_upd (w : World) (g : Nat) (a b c x y z : Value) : Upd (fun b => b = g) w (set6 w g a b c x y z) := by
  unfold set6
  exact ((((((Upd.refl (fun b => b = g) w).setCell (p := ⟨g, 0, none⟩) (.inr rfl) a).setCell (p := ⟨g, 1, none⟩) (.inr rfl) b).setCell (p := ⟨g, 2, none⟩) (.inr rfl) c).setCell (p := ⟨g, 3, none⟩) (.inr rfl) x).setCell (p := ⟨g, 4, none⟩) (.inr rfl) y).setCell (p := ⟨g, 5, none⟩) (.inr rfl) z
theorem clone_out {w w' W : World} {n : Nat} {o : Ob} {r m d : Value} (h : OOb w (n + 2) o r m d) (up : Upd (fun b => b = n + 1) w w') (hB : Below n W w) (hn : n + 1 < w.heap.size) : OOb w' n o r m d ∧ Below n W w' := by
  refine ⟨⟨own_upd (own_mono h.rows (by omega)) up (fun b hb e => ?_), own_upd (own_mono h.msgs (by omega)) up (fun b hb e => ?_), own_upd (own_mono h.dead (by omega)) up (fun b hb e => ?_), h.apart⟩, hB.trans ⟨up.os, up.tape, up.output, up.size, fun k hk => ?_⟩⟩
  · have := (own_lt h.rows hb).1; omega
  · have := (own_lt h.msgs hb).1; omega
  · have := (own_lt h.dead hb).1; omega
  · exact up.block k (by omega) (by omega)

set_option maxRecDepth 100000 in
set_option maxHeartbeats 8000000 in
theorem clone_any (w : World) (o : Ob) (r m d : Value) (h : VOb w o r m d) (hs : o.small) :
    Calls Try.prog 36 #[.agg (o.cells r m d)] w fun e w' => ∃ r' m' d', e = .returned (.agg (o.cells r' m' d')) ∧ OOb w' w.heap.size o r' m' d' ∧ Below w.heap.size w w' := by
  obtain ⟨s1, s2, s3⟩ := hs
  have k1 := Lib.hid (fun W (hb : Below w.heap.size w W) => cloneRow W r o.rows (View.below h.rows hb) s1)
  have k2 := Lib.hid (fun W (hb : Below w.heap.size w W) => cloneMsg W m o.msgs (View.below h.msgs hb) s2)
  have k3 := Lib.hid (fun W (hb : Below w.heap.size w W) => cloneMsg W d o.dead (View.below h.dead hb) s3)
  clear h
  obtain ⟨name, kind, limit, R, M, D⟩ := o
  unfold Ob.cells
  simp only at *
  go_enter Try.func36, Try.ntmps36
  go_wp2_with fail
  have hbx : Whole ((w.alloc (.cells #[.string name, .int .i64 kind, .int .i64 limit, r, m, d] 25)).alloc (.cells #[.string ⟨#[]⟩, .int .i64 0, .int .i64 0, .slice none 0 0, .slice none 0 0, .slice none 0 0] 25)) w.heap.size 25 #[.string name, .int .i64 kind, .int .i64 limit, r, m, d] := (Whole.new w _ _).alloc _
  have hb2 : Whole ((w.alloc (.cells #[.string name, .int .i64 kind, .int .i64 limit, r, m, d] 25)).alloc (.cells #[.string ⟨#[]⟩, .int .i64 0, .int .i64 0, .slice none 0 0, .slice none 0 0, .slice none 0 0] 25)) (w.heap.size + 1) 25 #[.string ⟨#[]⟩, .int .i64 0, .int .i64 0, .slice none 0 0, .slice none 0 0, .slice none 0 0] := by
    have := Whole.new (w.alloc (.cells #[.string name, .int .i64 kind, .int .i64 limit, r, m, d] 25)) 25 #[.string ⟨#[]⟩, .int .i64 0, .int .i64 0, .slice none 0 0, .slice none 0 0, .slice none 0 0]
    rwa [show (w.alloc (.cells #[.string name, .int .i64 kind, .int .i64 limit, r, m, d] 25)).heap.size = w.heap.size + 1 by simp] at this
  have hacc : Below w.heap.size w ((w.alloc (.cells #[.string name, .int .i64 kind, .int .i64 limit, r, m, d] 25)).alloc (.cells #[.string ⟨#[]⟩, .int .i64 0, .int .i64 0, .slice none 0 0, .slice none 0 0, .slice none 0 0] 25)) := by (refine upd_to_below ?_; repeat (first | exact Upd.refl _ _ | refine Upd.setCell ?_ (Or.inl (by simp)) _ | refine Upd.alloc ?_ _ | refine Upd.drewN ?_ _ | refine Upd.drew ?_))
  generalize ((w.alloc (.cells #[.string name, .int .i64 kind, .int .i64 limit, r, m, d] 25)).alloc (.cells #[.string ⟨#[]⟩, .int .i64 0, .int .i64 0, .slice none 0 0, .slice none 0 0, .slice none 0 0] 25)) = W at *
  have hsz := hacc.size
  have hlt := hbx.lt
  have hlt2 := hb2.lt
  have c3 : W.cell? ⟨w.heap.size, 3, none⟩ = some r := hbx.cell 3
  have c4 : W.cell? ⟨w.heap.size, 4, none⟩ = some m := hbx.cell 4
  have c5 : W.cell? ⟨w.heap.size, 5, none⟩ = some d := hbx.cell 5
  go_region_law (first
    | (go_simp; go_at_call 59; refine (k1.out _ (Below.drew hacc)).mono ?_; rintro e w1 ⟨v1, rfl, ho1, hb1⟩; obtain ⟨A1, n1, rfl, _, _, _⟩ := own_shape ho1; have x1 : Whole w1 _ _ _ := Whole.below (Whole.drew hbx) hb1; have c3' := x1.cell 3; have c4' := x1.cell 4; have c5' := x1.cell 5; have t1 : True := trivial)
    | (go_simp; go_at_call 52; have _t := t1; clear t1; refine (k2.out _ (below_then (Below.drew hacc) hb1)).mono ?_; rintro e w2 ⟨v2, rfl, ho2, hb2'⟩; obtain ⟨A2, n2, rfl, _, _, _⟩ := own_shape ho2; have x2 : Whole w2 _ _ _ := Whole.below x1 hb2'; have c3'' := x2.cell 3; have c4'' := x2.cell 4; have c5'' := x2.cell 5)
    | (go_simp; go_at_call 52; refine (k3.out _ (below_then (below_then (Below.drew hacc) hb1) hb2')).mono ?_; rintro e w3 ⟨v3, rfl, ho3, hb3⟩; obtain ⟨A3, n3, rfl, _, _, _⟩ := own_shape ho3; have x3 : Whole w3 _ _ _ := Whole.below x2 hb3; have d3 := x3.cell 3; have d4 := x3.cell 4; have d5 := x3.cell 5; have f3 := x3.frozen 3; have f4 := x3.frozen 4; have f5 := x3.frozen 5; have d0 := x3.cell 0; have d1 := x3.cell 1; have d2 := x3.cell 2))
  all_goals
    obtain ⟨hfin, hB, z1, z2⟩ := clone_fin (o := ⟨name, kind, limit, R, M, D⟩) hacc hbx hb2 hb1 hb2' hb3 ho1 ho2 ho3 x3
    unfold set3 at hfin hB z1 z2
    generalize (((w3.setCell ⟨w.heap.size, 3, none⟩ (.slice A1 R.length n1)).setCell ⟨w.heap.size, 4, none⟩ (.slice A2 M.length n2)).setCell ⟨w.heap.size, 5, none⟩ (.slice A3 D.length n3)) = W4 at *
    clear c3 c4 c5 c3' c4' c5' c3'' c4'' c5'' d0 d1 d2 d3 d4 d5 f3 f4 f5 x1 x2 x3 hbx hb2 hb1 hb2' hb3 ho1 ho2 ho3 hsz hlt hlt2 k1 k2 k3
    have e0 := z1.cell 0
    have e1 := z1.cell 1
    have e2 := z1.cell 2
    have e3 := z1.cell 3
    have e4 := z1.cell 4
    have e5 := z1.cell 5
    have g0 := z2.cell 0
    have g1 := z2.cell 1
    have g2 := z2.cell 2
    have g3 := z2.cell 3
    have g4 := z2.cell 4
    have g5 := z2.cell 5
    have f0 := z2.frozen 0
    have f1 := z2.frozen 1
    have f2 := z2.frozen 2
    have f3 := z2.frozen 3
    have f4 := z2.frozen 4
    have f5 := z2.frozen 5
    go_wp2_with fail
    obtain ⟨hf, hB2⟩ := clone_out hfin (set6_upd W4 (w.heap.size + 1) (.string name) (.int .i64 kind) (.int .i64 limit) (.slice A1 R.length n1) (.slice A2 M.length n2) (.slice A3 D.length n3)) hB z2.lt
    exact bodyPost_ret (results_cell_row rfl _ _ (w.heap.size + 1) _ _ _ _ rfl (set6_whole (.string name) (.int .i64 kind) (.int .i64 limit) (.slice A1 R.length n1) (.slice A2 M.length n2) (.slice A3 D.length n3) z2) Try.underlying25 rfl (by kernel_rfl)) rfl ⟨_, _, _, rfl, hf, hB2⟩
end Go.Proofs.Ytbckobclicogiaa
