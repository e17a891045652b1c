/-
  posteref14.Free, three ways.
-/
import Derived.Test.YtbckobclicogiaaNc
import Derived.Deep.Cut
set_option linter.unusedVariables false
set_option linter.unusedSimpArgs false
namespace Go.Proofs.Ytbckobclicogiaa
open Go.RowKit Go.Proofs.PosteMem
attribute [local go_sem ↓] Go.wp_at_zero Go.wp_at_succ

set_option maxRecDepth 100000 in
set_option maxHeartbeats 8000000 in
theorem rfree_none (w : World) (o : Ob) (r m d : Value) (id : Int) (tried : Bool) (h : VOb w o r m d) (hs : o.small) (hi : idxI (byId id) o.msgs = -1) :
    Calls Try.prog 14 #[.agg (o.cells r m d), .int .i64 id, .bool tried] w (FreePost w (o, false)) := by
  have k1 := Lib.hid (fun W (hb : Below w.heap.size w W) => copy_any W o r m d (VOb.below h hb) hs)
  have vm := Lib.hid (fun W (hb : Below w.heap.size w W) => View.below h.msgs hb)
  have hs2 := hs.2.1
  clear h
  obtain ⟨name, kind, limit, R, M, D⟩ := o
  have hbeg := fun (W1 : World) (r' m' d' : Value) hb ho => sr_begin (w := w) (W1 := W1) (o := ⟨name, kind, limit, R, M, D⟩) (r := r) (m := m) (d := d) (r' := r') (m' := m') (d' := d') hb ho
  replace hbeg := Lib.hid hbeg
  unfold Ob.cells at *
  simp only at *
  replace hi := Lib.hid hi
  clear hs
  go_enter Try.func14, Try.ntmps14
  (go_wp2_with fail; refine (k1.out _ (by (refine upd_to_below ?_; repeat (first | exact Upd.refl _ _ | refine Upd.setCell ?_ (Or.inl (by simp)) _ | refine Upd.alloc ?_ _ | refine Upd.drewN ?_ _ | refine Upd.drew ?_)))).mono ?_; rintro e W1 ⟨r', m', d', rfl, ho, hb1⟩; obtain ⟨st, sx⟩ := hbeg.out _ _ _ _ hb1 ho; have hlt : w.heap.size + 2 ≤ W1.heap.size := (by have := hb1.size; simpa using this); have y1 : Whole W1 w.heap.size _ _ := ((Whole.new w 25 #[.string name, .int .i64 kind, .int .i64 limit, r, m, d]).alloc _).below hb1; have c4 : W1.cell? ⟨w.heap.size, 4, none⟩ = some m := y1.cell 4; have hlt2 : w.heap.size < W1.heap.size := (by omega); have hne0 : ¬ (W1.heap.size = w.heap.size) := (by omega); obtain ⟨A1, n1, rfl, _, _, _⟩ := own_shape ho.rows; obtain ⟨A2, n2, rfl, _, _, _⟩ := own_shape ho.msgs; obtain ⟨A3, n3, rfl, _, _, _⟩ := own_shape ho.dead; clear ho hb1 y1; go_wp2_with fail; generalize W1.alloc (.cells #[.string name, .int .i64 kind, .int .i64 limit, .slice A1 R.length n1, .slice A2 M.length n2, .slice A3 D.length n3] 25) = W2 at st sx ⊢; have hpp : ¬ (w.heap.size = W1.heap.size) := (by omega); have hpq : ¬ (w.heap.size + 1 = W1.heap.size) := (by omega); generalize W1.heap.size = p at st hpp hpq ⊢; clear c4 hlt hlt2 hne0; refine (findMsg_any _ _ M id (vm.out _ st.acc) hs2).mono ?_; rintro e W3 ⟨rfl, rfl⟩; rw [hi.out])
  (have c0 := st.box.cell 0; have c1 := st.box.cell 1; have c2 := st.box.cell 2; have c3 := st.box.cell 3; have c4 := st.box.cell 4; have c5 := st.box.cell 5; unfold Ob.cells at c0 c1 c2 c3 c4 c5; have g0 := st.res.cell 0; have g1 := st.res.cell 1; have g2 := st.res.cell 2; have g3 := st.res.cell 3; have g4 := st.res.cell 4; have g5 := st.res.cell 5; have f0 := st.res.frozen 0; have f1 := st.res.frozen 1; have f2 := st.res.frozen 2; have f3 := st.res.frozen 3; have f4 := st.res.frozen 4; have f5 := st.res.frozen 5; obtain ⟨hf, hB, hzz⟩ := Sr.end st; replace hf := Lib.hid hf; replace hB := Lib.hid hB; replace hzz := Lib.hid hzz; clear st; go_wp2_with fail)
  exact bodyPost_ret (results_cell_tmp_row rfl _ _ (w.heap.size + 1) _ _ _ _ rfl hzz.out Try.underlying25 rfl (by kernel_rfl) _ rfl) rfl ⟨_, _, _, rfl, hf.out, hB.out⟩

set_option maxRecDepth 100000 in
set_option maxHeartbeats 8000000 in
theorem rfree_claimed (w : World) (o : Ob) (r m d : Value) (id : Int) (tried : Bool) (h : VOb w o r m d) (hs : o.small) (k : Nat) (hk : k < o.msgs.length) (hi : idxI (byId id) o.msgs = k) (hc : o.msgs[k].claimed = false) :
    Calls Try.prog 14 #[.agg (o.cells r m d), .int .i64 id, .bool tried] w (FreePost w (o, false)) := by
  have k1 := Lib.hid (fun W (hb : Below w.heap.size w W) => copy_any W o r m d (VOb.below h hb) hs)
  have vm := Lib.hid (fun W (hb : Below w.heap.size w W) => View.below h.msgs hb)
  have hs2 := hs.2.1
  clear h
  obtain ⟨name, kind, limit, R, M, D⟩ := o
  have hbeg := fun (W1 : World) (r' m' d' : Value) hb ho => sr_begin (w := w) (W1 := W1) (o := ⟨name, kind, limit, R, M, D⟩) (r := r) (m := m) (d := d) (r' := r') (m' := m') (d' := d') hb ho
  replace hbeg := Lib.hid hbeg
  unfold Ob.cells at *
  simp only at *
  replace hi := Lib.hid hi
  replace hk : k < M.length := hk
  replace hc : M[k].claimed = _ := hc
  clear hs
  go_enter Try.func14, Try.ntmps14
  (go_wp2_with fail; refine (k1.out _ (by (refine upd_to_below ?_; repeat (first | exact Upd.refl _ _ | refine Upd.setCell ?_ (Or.inl (by simp)) _ | refine Upd.alloc ?_ _ | refine Upd.drewN ?_ _ | refine Upd.drew ?_)))).mono ?_; rintro e W1 ⟨r', m', d', rfl, ho, hb1⟩; obtain ⟨st, sx⟩ := hbeg.out _ _ _ _ hb1 ho; have hlt : w.heap.size + 2 ≤ W1.heap.size := (by have := hb1.size; simpa using this); have y1 : Whole W1 w.heap.size _ _ := ((Whole.new w 25 #[.string name, .int .i64 kind, .int .i64 limit, r, m, d]).alloc _).below hb1; have c4 : W1.cell? ⟨w.heap.size, 4, none⟩ = some m := y1.cell 4; have hlt2 : w.heap.size < W1.heap.size := (by omega); have hne0 : ¬ (W1.heap.size = w.heap.size) := (by omega); obtain ⟨A1, n1, rfl, _, _, _⟩ := own_shape ho.rows; obtain ⟨A2, n2, rfl, _, _, _⟩ := own_shape ho.msgs; obtain ⟨A3, n3, rfl, _, _, _⟩ := own_shape ho.dead; clear ho hb1 y1; go_wp2_with fail; generalize W1.alloc (.cells #[.string name, .int .i64 kind, .int .i64 limit, .slice A1 R.length n1, .slice A2 M.length n2, .slice A3 D.length n3] 25) = W2 at st sx ⊢; have hpp : ¬ (w.heap.size = W1.heap.size) := (by omega); have hpq : ¬ (w.heap.size + 1 = W1.heap.size) := (by omega); generalize W1.heap.size = p at st hpp hpq ⊢; clear c4 hlt hlt2 hne0; refine (findMsg_any _ _ M id (vm.out _ st.acc) hs2).mono ?_; rintro e W3 ⟨rfl, rfl⟩; rw [hi.out])
  have q1 : (k : Int) < (M.length : Int) := by omega
  obtain ⟨b, off, cp, hmv, _, _, _, fm⟩ := msgs_at (vm.out _ st.acc) (show 0 < M.length by omega)
  have p3 := (fm k hk).2.2.2.1
  rw [hc] at p3
  have cm : W2.cell? ⟨w.heap.size, 4, none⟩ = some m := sx.cell 4
  subst hmv
  clear fm k1 hbeg sx vm hc
  (have c0 := st.box.cell 0; have c1 := st.box.cell 1; have c2 := st.box.cell 2; have c3 := st.box.cell 3; have c4 := st.box.cell 4; have c5 := st.box.cell 5; unfold Ob.cells at c0 c1 c2 c3 c4 c5; have g0 := st.res.cell 0; have g1 := st.res.cell 1; have g2 := st.res.cell 2; have g3 := st.res.cell 3; have g4 := st.res.cell 4; have g5 := st.res.cell 5; have f0 := st.res.frozen 0; have f1 := st.res.frozen 1; have f2 := st.res.frozen 2; have f3 := st.res.frozen 3; have f4 := st.res.frozen 4; have f5 := st.res.frozen 5; obtain ⟨hf, hB, hzz⟩ := Sr.end st; replace hf := Lib.hid hf; replace hB := Lib.hid hB; replace hzz := Lib.hid hzz; clear st; go_wp2_with fail)
  exact bodyPost_ret (results_cell_tmp_row rfl _ _ (w.heap.size + 1) _ _ _ _ rfl hzz.out Try.underlying25 rfl (by kernel_rfl) _ rfl) rfl ⟨_, _, _, rfl, hf.out, hB.out⟩

set_option maxRecDepth 100000 in
set_option maxHeartbeats 8000000 in
theorem rfree_untried (w : World) (o : Ob) (r m d : Value) (id : Int) (h : VOb w o r m d) (hs : o.small) (k : Nat) (hk : k < o.msgs.length) (hi : idxI (byId id) o.msgs = k) (hc : o.msgs[k].claimed = true) :
    Calls Try.prog 14 #[.agg (o.cells r m d), .int .i64 id, .bool false] w (FreePost w (⟨o.name, o.kind, o.limit, o.rows, o.msgs.set k o.msgs[k].free, o.dead⟩, true)) := by
  have k1 := Lib.hid (fun W (hb : Below w.heap.size w W) => copy_any W o r m d (VOb.below h hb) hs)
  have vm := Lib.hid (fun W (hb : Below w.heap.size w W) => View.below h.msgs hb)
  have hs2 := hs.2.1
  clear h
  obtain ⟨name, kind, limit, R, M, D⟩ := o
  have hbeg := fun (W1 : World) (r' m' d' : Value) hb ho => sr_begin (w := w) (W1 := W1) (o := ⟨name, kind, limit, R, M, D⟩) (r := r) (m := m) (d := d) (r' := r') (m' := m') (d' := d') hb ho
  replace hbeg := Lib.hid hbeg
  unfold Ob.cells at *
  simp only at *
  replace hi := Lib.hid hi
  replace hk : k < M.length := hk
  replace hc : M[k].claimed = _ := hc
  clear hs
  go_enter Try.func14, Try.ntmps14
  (go_wp2_with fail; refine (k1.out _ (by (refine upd_to_below ?_; repeat (first | exact Upd.refl _ _ | refine Upd.setCell ?_ (Or.inl (by simp)) _ | refine Upd.alloc ?_ _ | refine Upd.drewN ?_ _ | refine Upd.drew ?_)))).mono ?_; rintro e W1 ⟨r', m', d', rfl, ho, hb1⟩; obtain ⟨st, sx⟩ := hbeg.out _ _ _ _ hb1 ho; have hlt : w.heap.size + 2 ≤ W1.heap.size := (by have := hb1.size; simpa using this); have y1 : Whole W1 w.heap.size _ _ := ((Whole.new w 25 #[.string name, .int .i64 kind, .int .i64 limit, r, m, d]).alloc _).below hb1; have c4 : W1.cell? ⟨w.heap.size, 4, none⟩ = some m := y1.cell 4; have hlt2 : w.heap.size < W1.heap.size := (by omega); have hne0 : ¬ (W1.heap.size = w.heap.size) := (by omega); obtain ⟨A1, n1, rfl, _, _, _⟩ := own_shape ho.rows; obtain ⟨A2, n2, rfl, _, _, _⟩ := own_shape ho.msgs; obtain ⟨A3, n3, rfl, _, _, _⟩ := own_shape ho.dead; clear ho hb1 y1; go_wp2_with fail; generalize W1.alloc (.cells #[.string name, .int .i64 kind, .int .i64 limit, .slice A1 R.length n1, .slice A2 M.length n2, .slice A3 D.length n3] 25) = W2 at st sx ⊢; have hpp : ¬ (w.heap.size = W1.heap.size) := (by omega); have hpq : ¬ (w.heap.size + 1 = W1.heap.size) := (by omega); generalize W1.heap.size = p at st hpp hpq ⊢; clear c4 hlt hlt2 hne0; refine (findMsg_any _ _ M id (vm.out _ st.acc) hs2).mono ?_; rintro e W3 ⟨rfl, rfl⟩; rw [hi.out])
  have q1 : (k : Int) < (M.length : Int) := by omega
  obtain ⟨b, off, cp, hmv, _, _, _, fm⟩ := msgs_at (vm.out _ st.acc) (show 0 < M.length by omega)
  have p3 := (fm k hk).2.2.2.1
  rw [hc] at p3
  have cm : W2.cell? ⟨w.heap.size, 4, none⟩ = some m := sx.cell 4
  subst hmv
  clear fm k1 hbeg sx vm hc
  obtain ⟨g, c, e1, _, _, _⟩ := own_some st.ob.msgs (show 0 < M.length by omega)
  injection e1 with e1 e2 e3
  subst e1 e3
  clear e2
  have u3 := (msg_cells st.ob.msgs k hk).2.2.2.1
  have u4 := own_free st.ob.msgs (k * 6 + 3)
  have c4 : W2.cell? ⟨p, 4, none⟩ = some (.slice (some ⟨g, 0, none⟩) M.length n2) := st.box.cell 4
  replace st := Lib.hid (st.msg k hk 3 (by decide) (.bool false) M[k].free rfl)
  go_upto_region 7 with fail
  clear c4 u3 u4 p3 cm
  replace st := st.out
  generalize W2.setCell ⟨g, k * 6 + 3, none⟩ (.bool false) = W4 at st ⊢
  (have c0 := st.box.cell 0; have c1 := st.box.cell 1; have c2 := st.box.cell 2; have c3 := st.box.cell 3; have c4 := st.box.cell 4; have c5 := st.box.cell 5; unfold Ob.cells at c0 c1 c2 c3 c4 c5; have g0 := st.res.cell 0; have g1 := st.res.cell 1; have g2 := st.res.cell 2; have g3 := st.res.cell 3; have g4 := st.res.cell 4; have g5 := st.res.cell 5; have f0 := st.res.frozen 0; have f1 := st.res.frozen 1; have f2 := st.res.frozen 2; have f3 := st.res.frozen 3; have f4 := st.res.frozen 4; have f5 := st.res.frozen 5; obtain ⟨hf, hB, hzz⟩ := Sr.end st; replace hf := Lib.hid hf; replace hB := Lib.hid hB; replace hzz := Lib.hid hzz; clear st; go_wp2_with fail)
  exact bodyPost_ret (results_cell_tmp_row rfl _ _ (w.heap.size + 1) _ _ _ _ rfl hzz.out Try.underlying25 rfl (by kernel_rfl) _ rfl) rfl ⟨_, _, _, rfl, hf.out, hB.out⟩
end Go.Proofs.Ytbckobclicogiaa
