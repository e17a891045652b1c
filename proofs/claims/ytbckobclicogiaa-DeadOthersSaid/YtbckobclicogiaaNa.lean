/-
  dead.Free where a message was tried.
-/
import Derived.Test.YtbckobclicogiaaMl
import Derived.Deep.DeepCutAuto
set_option linter.unusedVariables false
set_option linter.unusedSimpArgs false
namespace Go.Proofs.Ytbckobclicogiaa
open Go.RowKit Go.Proofs.PosteMem
attribute [local go_sem ↓] Go.wp_at_zero Go.wp_at_succ

set_option maxRecDepth 100000 in
set_option maxHeartbeats 8000000 in
theorem free_kept (w : World) (o : Ob) (r m d : Value) (id : Int) (h : VOb w o r m d) (hs : o.small) (k : Nat) (hk : k < o.msgs.length) (hi : idxI (byId id) o.msgs = k) (hc : o.msgs[k].claimed = true) (hg : ¬ o.limit ≤ triedI o.msgs[k].retry) :
    Calls Try.prog 13 #[.agg (o.cells r m d), .int .i64 id, .bool true] w (FreePost w (⟨o.name, o.kind, o.limit, o.rows, o.msgs.set k (triedM o.msgs[k]), o.dead⟩, true)) := by
  have k1 := Lib.hid (fun W (hb : Below w.heap.size w W) => clone_any W o r m d (VOb.below h hb) hs)
  have hs2 := hs.2.1
  clear h
  obtain ⟨name, kind, limit, R, M, D⟩ := o
  have hbeg := fun (W1 : World) (r' m' d' : Value) hb ho => st_begin (w := w) (W1 := W1) (o := ⟨name, kind, limit, R, M, D⟩) (r := r) (m := m) (d := d) (r' := r') (m' := m') (d' := d') hb ho
  replace hbeg := Lib.hid hbeg
  unfold Ob.cells at *
  simp only at *
  replace hi := Lib.hid hi
  replace hk : k < M.length := hk
  replace hc : M[k].claimed = _ := hc
  replace hg : ¬ limit ≤ triedI M[k].retry := hg
  clear hs
  go_enter Try.func13, Try.ntmps13
  (go_wp2_with fail; refine (k1.out _ (by (refine upd_to_below ?_; repeat (first | exact Upd.refl _ _ | refine Upd.setCell ?_ (Or.inl (by simp)) _ | refine Upd.alloc ?_ _ | refine Upd.drewN ?_ _ | refine Upd.drew ?_)))).mono ?_; rintro e W1 ⟨r', m', d', rfl, ho, hb1⟩; have st := hbeg.out _ _ _ _ hb1 ho; have hlt : w.heap.size + 2 ≤ W1.heap.size := (by have := hb1.size; simpa using this); have y1 : Whole W1 w.heap.size _ _ := ((Whole.new w 25 #[.string name, .int .i64 kind, .int .i64 limit, r, m, d]).alloc _).below hb1; have c0 := y1.cell 0; have c1 := y1.cell 1; have c2 := y1.cell 2; have c3 := y1.cell 3; have c4 := y1.cell 4; have c5 := y1.cell 5; have f0 := y1.frozen 0; have f1 := y1.frozen 1; have f2 := y1.frozen 2; have f3 := y1.frozen 3; have f4 := y1.frozen 4; have f5 := y1.frozen 5; obtain ⟨A1, n1, rfl, _, _, _⟩ := own_shape ho.rows; obtain ⟨A2, n2, rfl, _, _, _⟩ := own_shape ho.msgs; obtain ⟨A3, n3, rfl, _, _, _⟩ := own_shape ho.dead; clear ho hb1 y1; go_wp2_with fail; unfold set6 at st; generalize (((((W1.setCell ⟨w.heap.size, 0, none⟩ (.string name)).setCell ⟨w.heap.size, 1, none⟩ (.int .i64 kind)).setCell ⟨w.heap.size, 2, none⟩ (.int .i64 limit)).setCell ⟨w.heap.size, 3, none⟩ (.slice A1 R.length n1)).setCell ⟨w.heap.size, 4, none⟩ (.slice A2 M.length n2)).setCell ⟨w.heap.size, 5, none⟩ (.slice A3 D.length n3) = W2 at st ⊢; clear c0 c1 c2 c3 c4 c5 f0 f1 f2 f3 f4 f5 hlt; refine (find_any _ _ M id (View.of_own st.ob.msgs) hs2).mono ?_; rintro e W3 ⟨rfl, hb3⟩; rw [hi.out]; replace st := st.below hb3; clear hb3)
  have q1 : (k : Int) < (M.length : Int) := by omega
  obtain ⟨g, c, e1, _, _, _⟩ := own_some st.ob.msgs (show 0 < M.length by omega)
  injection e1 with e1 e2 e3
  subst e1 e3
  clear e2
  obtain ⟨p0, p1, p2, p3, p4, p5⟩ := msg_cells st.ob.msgs k hk
  rw [hc] at p3
  have c2 : W3.cell? ⟨w.heap.size, 2, none⟩ = some (.int .i64 limit) := st.box.cell 2
  have c4 : W3.cell? ⟨w.heap.size, 4, none⟩ = some (.slice (some ⟨g, 0, none⟩) M.length n2) := st.box.cell 4
  have hlt := st.box.lt
  have hgl := (own_block st.ob.msgs).2
  have d2 := fun ob => (cell_old W3 ob _ 2 hlt).trans c2
  have d4 := fun ob => (cell_old W3 ob _ 4 hlt).trans c4
  have htr := Lib.hid (fun W => tried_any W M[k] limit)
  generalize hx : M[k] = x at *
  have o0 := fun ob => (cell_old W3 ob _ _ hgl).trans p0
  have o1 := fun ob => (cell_old W3 ob _ _ hgl).trans p1
  have o2 := fun ob => (cell_old W3 ob _ _ hgl).trans p2
  have o3 := fun ob => (cell_old W3 ob _ _ hgl).trans p3
  have o4 := fun ob => (cell_old W3 ob _ _ hgl).trans p4
  have o5 := fun ob => (cell_old W3 ob _ _ hgl).trans p5
  replace hx := Lib.hid hx
  have hgb : decide (limit ≤ triedI x.retry) = false := decide_eq_false (by omega)
  clear hg
  unfold Msg.cells triedM at htr
  rw [hc] at htr
  replace hc := Lib.hid hc
  have st0 := Lib.hid st
  clear st
  go_upto_region 8 with fail
  go_cut [9, 10] (fun s9 s10 wx => ∃ nb, s9 = .pointer (some ⟨nb, 0, none⟩) ∧ s10 = .bool false ∧ W3.heap.size ≤ nb ∧ Below W3.heap.size W3 wx ∧ Whole wx nb 34 #[.int .i64 x.id, .int .i64 x.pri, .int .i64 (triedI x.retry), .bool false, .string x.corr, .string x.body])
  case first =>
    go_region_law (first
      | (go_simp; go_at_call 38; refine (htr.out _).mono ?_; rintro e w4 ⟨rfl, hb4⟩; try (have n0 : Whole w4 W3.heap.size 34 #[.int .i64 0, .int .i64 0, .int .i64 0, .bool false, .string ⟨#[]⟩, .string ⟨#[]⟩] := Whole.below (Whole.new W3.drew 34 #[.int .i64 0, .int .i64 0, .int .i64 0, .bool false, .string ⟨#[]⟩, .string ⟨#[]⟩]) hb4; have nc0 := n0.cell 0; have nc1 := n0.cell 1; have nc2 := n0.cell 2; have nc3 := n0.cell 3; have nc4 := n0.cell 4; have nc5 := n0.cell 5; have nf0 := n0.frozen 0; have nf1 := n0.frozen 1; have nf2 := n0.frozen 2; have nf3 := n0.frozen 3; have nf4 := n0.frozen 4; have nf5 := n0.frozen 5)))
    all_goals
      clear d2 d4 o0 o1 o2 o3 o4 o5
      go_wp2_with fail
      go_meet
      first
        | exact ⟨W3.heap.size, rfl, rfl, Nat.le_refl _, setM_below (g := W3.heap.size) (a := 0) (below_then (Below.alloc (Below.drew (Below.refl W3.heap.size W3)) (Nat.le_refl _) _) hb4) (Nat.le_refl _) ⟨x.id, x.pri, triedI x.retry, false, x.corr, x.body⟩, setM_whole n0 ⟨x.id, x.pri, triedI x.retry, false, x.corr, x.body⟩⟩
        | exact ⟨w4.heap.size, rfl, rfl, hb4.size, Below.alloc (below_then (Below.drew (Below.refl W3.heap.size W3)) hb4) hb4.size _, Whole.new w4 34 #[.int .i64 x.id, .int .i64 x.pri, .int .i64 (triedI x.retry), .bool false, .string x.corr, .string x.body]⟩
  case rest =>
    obtain ⟨nb, rfl, rfl, hnbl, hW5, n5⟩ := hcut
    have hnb : g ≠ nb ∧ nb ≠ w.heap.size := by constructor <;> omega
    clear d2 d4 o0 o1 o2 o3 o4 o5
    have st := st0.out.below hW5
    replace p0 := (hW5.cell (p := ⟨g, k * 6, none⟩) hgl).trans p0
    replace p1 := (hW5.cell (p := ⟨g, k * 6 + 1, none⟩) hgl).trans p1
    replace p2 := (hW5.cell (p := ⟨g, k * 6 + 2, none⟩) hgl).trans p2
    replace p3 := (hW5.cell (p := ⟨g, k * 6 + 3, none⟩) hgl).trans p3
    replace p4 := (hW5.cell (p := ⟨g, k * 6 + 4, none⟩) hgl).trans p4
    replace p5 := (hW5.cell (p := ⟨g, k * 6 + 5, none⟩) hgl).trans p5
    replace c4 := (hW5.cell (p := ⟨w.heap.size, 4, none⟩) hlt).trans c4
    have s0 := own_free st.ob.msgs (k * 6)
    have s1 := own_free st.ob.msgs (k * 6 + 1)
    have s2 := own_free st.ob.msgs (k * 6 + 2)
    have s3 := own_free st.ob.msgs (k * 6 + 3)
    have s4 := own_free st.ob.msgs (k * 6 + 4)
    have s5 := own_free st.ob.msgs (k * 6 + 5)
    have m0 := n5.cell 0
    have m1 := n5.cell 1
    have m2 := n5.cell 2
    have m3 := n5.cell 3
    have m4 := n5.cell 4
    have m5 := n5.cell 5
    replace st := Lib.hid (st.msg6 k hk ⟨x.id, x.pri, triedI x.retry, false, x.corr, x.body⟩)
    clear c2 hlt hgl hW5 n5 st0 k1 hbeg htr hgb
    go_upto_region 13 with fail
    clear p0 p1 p2 p3 p4 p5 s0 s1 s2 s3 s4 s5 m0 m1 m2 m3 m4 m5 c4
    replace st := st.out
    unfold setM at st
    simp only at st
    generalize (((((wc.setCell ⟨g, k * 6, none⟩ (.int .i64 x.id)).setCell ⟨g, k * 6 + 1, none⟩ (.int .i64 x.pri)).setCell ⟨g, k * 6 + 2, none⟩ (.int .i64 (triedI x.retry))).setCell ⟨g, k * 6 + 3, none⟩ (.bool false)).setCell ⟨g, k * 6 + 4, none⟩ (.string x.corr)).setCell ⟨g, k * 6 + 5, none⟩ (.string x.body) = W6 at st ⊢
    (have c0 := st.box.cell 0; have c1 := st.box.cell 1; have c2 := st.box.cell 2; have c3 := st.box.cell 3; have c4 := st.box.cell 4; have c5 := st.box.cell 5; unfold Ob.cells at c0 c1 c2 c3 c4 c5)
    (have g0 := st.res.cell 0; have g1 := st.res.cell 1; have g2 := st.res.cell 2; have g3 := st.res.cell 3; have g4 := st.res.cell 4; have g5 := st.res.cell 5; have f0 := st.res.frozen 0; have f1 := st.res.frozen 1; have f2 := st.res.frozen 2; have f3 := st.res.frozen 3; have f4 := st.res.frozen 4; have f5 := st.res.frozen 5)
    obtain ⟨hf, hB, hxx⟩ := st_end st
    replace hf := Lib.hid hf
    replace hB := Lib.hid hB
    replace hxx := Lib.hid hxx
    clear st
    go_wp2_with fail
    have e9 : triedM M[k] = ⟨x.id, x.pri, triedI x.retry, false, x.corr, x.body⟩ := by rw [hx.out]; rfl
    refine bodyPost_ret (results_cell_tmp_row rfl _ _ (w.heap.size + 1) _ _ _ _ rfl hxx.out Try.underlying25 rfl (by kernel_rfl) _ rfl) rfl ⟨_, _, _, rfl, ?_, hB.out⟩
    show OOb _ _ ⟨name, kind, limit, R, M.set k (triedM M[k]), D⟩ _ _ _
    rw [e9]
    exact hf.out
end Go.Proofs.Ytbckobclicogiaa
