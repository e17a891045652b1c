/-
  dead.Free where a message was tried too often.
-/
import Derived.Test.YtbckobclicogiaaMl
import Derived.Deep.DeepCutAuto
set_option linter.unusedVariables false
set_option linter.unusedSimpArgs false
namespace Go.Proofs.Ytbckobclicogiaa
open Go.RowKit Go.Proofs.PosteMem
attribute [local go_sem ↓] Go.wp_at_zero Go.wp_at_succ

theorem St.newmsgs {w W W' : World} {o : Ob} {r m d v : Value} {M' : List Msg} (h : St w W o r m d) (hu : Upd (fun b => m.ownBlock = some b) W W') (ho : OMsgs W' (w.heap.size + 2) v M') (hb : v.ownBlock = m.ownBlock) :
    St w (W'.setCell ⟨w.heap.size, 4, none⟩ v) ⟨o.name, o.kind, o.limit, o.rows, M', o.dead⟩ r v d := by
  have hm := fun b (e : m.ownBlock = some b) => own_lt h.ob.msgs e
  have hbox : Whole W' w.heap.size 25 (o.cells r m d) := h.box.upd hu (fun e => by have := (hm _ e).1; omega)
  have hrows : ORows W' (w.heap.size + 2) r o.rows := own_upd h.ob.rows hu (fun b e1 e2 => own_ne_own h.ob.rows h.ob.msgs (by decide) b e1 e2)
  have hdead : OMsgs W' (w.heap.size + 2) d o.dead := own_upd h.ob.dead hu (fun b e1 e2 => h.ob.apart b e2 e1)
  refine ⟨hbox.set 4 v, (h.res.upd hu (fun e => by have := (hm _ e).1; omega)).other (show w.heap.size + 1 ≠ w.heap.size by omega) v, ⟨own_setCell hrows ?_ v, own_setCell ho ?_ v, own_setCell hdead ?_ v, fun b e => h.ob.apart b (hb ▸ e)⟩, (h.acc.trans (hu.below h.acc.size (fun b e => by have := (hm _ e).1; omega))).setCell (Nat.le_refl _) v⟩
  · exact own_ne_whole hrows hbox (by decide)
  · exact own_ne_whole ho hbox (by decide)
  · exact own_ne_whole hdead hbox (by decide)
theorem St.newdead {w W W' : World} {ob : Obj} {o : Ob} {r m d v : Value} {x : Msg} (h : St w W o r m d) (hg : (W.alloc ob).grownBy W' d.ownBlock) (ho : W'.ownsRow (w.heap.size + 2) 34 6 v (o.dead.length + 1) (o.dead.flatMap Msg.cells ++ x.cells)) (hat : v.ownBlock = d.ownBlock ∨ v.ownBlock = some (W.alloc ob).heap.size) :
    St w (W'.setCell ⟨w.heap.size, 5, none⟩ v) ⟨o.name, o.kind, o.limit, o.rows, o.msgs, o.dead ++ [x]⟩ r m v := by
  have h0 := h.below ((Below.refl W.heap.size W).alloc (Nat.le_refl _) ob)
  have hd := fun b (e : d.ownBlock = some b) => own_lt h.ob.dead e
  have hm := fun b (e : m.ownBlock = some b) => own_lt h.ob.msgs e
  have hbox : Whole W' w.heap.size 25 (o.cells r m d) := h0.box.grown hg (fun e => by have := (hd _ e).1; omega)
  have hrows : ORows W' (w.heap.size + 2) r o.rows := own_grown h0.ob.rows hg (fun b e1 e2 => own_ne_own h.ob.rows h.ob.dead (by decide) b e1 e2)
  have hmsgs : OMsgs W' (w.heap.size + 2) m o.msgs := own_grown h0.ob.msgs hg (fun b e1 e2 => h.ob.apart b e1 e2)
  have hsz : (W.alloc ob).heap.size = W.heap.size + 1 := by simp
  refine ⟨hbox.set 5 v, (h0.res.grown hg (fun e => by have := (hd _ e).1; omega)).other (show w.heap.size + 1 ≠ w.heap.size by omega) v, ⟨own_setCell hrows ?_ v, own_setCell hmsgs ?_ v, own_setCell (msgs_snoc ho) ?_ v, fun b e1 e2 => ?_⟩, (h0.acc.grown hg h0.acc.size (fun b e => by have := (hd _ e).1; omega)).setCell (Nat.le_refl _) v⟩
  · exact own_ne_whole hrows hbox (by decide)
  · exact own_ne_whole hmsgs hbox (by decide)
  · exact own_ne_whole (msgs_snoc ho) hbox (by decide)
  · rcases hat with e | e
    · exact h.ob.apart b e1 (e ▸ e2)
    · rw [e] at e2
      injection e2 with e2
      have := (hm b e1).2
      omega

set_option maxRecDepth 100000 in
set_option maxHeartbeats 8000000 in
theorem free_gone (w : World) (o : Ob) (r m d : Value) (id : Int) (h : VOb w o r m d) (hs : o.small) (k : Nat) (hk : k < o.msgs.length) (hi : idxI (byId id) o.msgs = k) (hc : o.msgs[k].claimed = true) (hg : o.limit ≤ triedI o.msgs[k].retry) :
    Calls Try.prog 13 #[.agg (o.cells r m d), .int .i64 id, .bool true] w (FreePost w (⟨o.name, o.kind, o.limit, o.rows, o.msgs.eraseIdx k, o.dead ++ [triedM o.msgs[k]]⟩, true)) := by
  have k1 := Lib.hid (fun W (hb : Below w.heap.size w W) => clone_any W o r m d (VOb.below h hb) hs)
  have hs2 := hs.2.1
  have hs3 := hs.2.2
  clear h
  obtain ⟨name, kind, limit, R, M, D⟩ := o
  have hbeg := fun (W1 : World) (r' m' d' : Value) hb ho => st_begin (w := w) (W1 := W1) (o := ⟨name, kind, limit, R, M, D⟩) (r := r) (m := m) (d := d) (r' := r') (m' := m') (d' := d') hb ho
  replace hbeg := Lib.hid hbeg
  unfold Ob.cells at *
  simp only at *
  replace hi := Lib.hid hi
  replace hk : k < M.length := hk
  replace hc : M[k].claimed = _ := hc
  replace hg : limit ≤ triedI M[k].retry := hg
  clear hs
  go_enter Try.func13, Try.ntmps13
  (go_wp2_with fail; refine (k1.out _ (by (refine upd_to_below ?_; repeat (first | exact Upd.refl _ _ | refine Upd.setCell ?_ (Or.inl (by simp)) _ | refine Upd.alloc ?_ _ | refine Upd.drewN ?_ _ | refine Upd.drew ?_)))).mono ?_; rintro e W1 ⟨r', m', d', rfl, ho, hb1⟩; have st := hbeg.out _ _ _ _ hb1 ho; have hlt : w.heap.size + 2 ≤ W1.heap.size := (by have := hb1.size; simpa using this); have y1 : Whole W1 w.heap.size _ _ := ((Whole.new w 25 #[.string name, .int .i64 kind, .int .i64 limit, r, m, d]).alloc _).below hb1; have c0 := y1.cell 0; have c1 := y1.cell 1; have c2 := y1.cell 2; have c3 := y1.cell 3; have c4 := y1.cell 4; have c5 := y1.cell 5; have f0 := y1.frozen 0; have f1 := y1.frozen 1; have f2 := y1.frozen 2; have f3 := y1.frozen 3; have f4 := y1.frozen 4; have f5 := y1.frozen 5; obtain ⟨A1, n1, rfl, _, _, _⟩ := own_shape ho.rows; obtain ⟨A2, n2, rfl, _, _, _⟩ := own_shape ho.msgs; obtain ⟨A3, n3, rfl, _, _, _⟩ := own_shape ho.dead; clear ho hb1 y1; go_wp2_with fail; unfold set6 at st; generalize (((((W1.setCell ⟨w.heap.size, 0, none⟩ (.string name)).setCell ⟨w.heap.size, 1, none⟩ (.int .i64 kind)).setCell ⟨w.heap.size, 2, none⟩ (.int .i64 limit)).setCell ⟨w.heap.size, 3, none⟩ (.slice A1 R.length n1)).setCell ⟨w.heap.size, 4, none⟩ (.slice A2 M.length n2)).setCell ⟨w.heap.size, 5, none⟩ (.slice A3 D.length n3) = W2 at st ⊢; clear c0 c1 c2 c3 c4 c5 f0 f1 f2 f3 f4 f5 hlt; refine (find_any _ _ M id (View.of_own st.ob.msgs) hs2).mono ?_; rintro e W3 ⟨rfl, hb3⟩; rw [hi.out]; replace st := st.below hb3; clear hb3)
  have q1 : (k : Int) < (M.length : Int) := by omega
  obtain ⟨g, c, e1, _, _, _⟩ := own_some st.ob.msgs (show 0 < M.length by omega)
  injection e1 with e1 e2 e3
  subst e1 e3
  clear e2
  obtain ⟨p0, p1, p2, p3, p4, p5⟩ := msg_cells st.ob.msgs k hk
  rw [hc] at p3
  have c2 : W3.cell? ⟨w.heap.size, 2, none⟩ = some (.int .i64 limit) := st.box.cell 2
  have c4 : W3.cell? ⟨w.heap.size, 4, none⟩ = some (.slice (some ⟨g, 0, none⟩) M.length n2) := st.box.cell 4
  have hlt := st.box.lt
  have hgl := (own_block st.ob.msgs).2
  have d2 := fun ob => (cell_old W3 ob _ 2 hlt).trans c2
  have d4 := fun ob => (cell_old W3 ob _ 4 hlt).trans c4
  have htr := Lib.hid (fun W => tried_any W M[k] limit)
  generalize hx : M[k] = x at *
  have o0 := fun ob => (cell_old W3 ob _ _ hgl).trans p0
  have o1 := fun ob => (cell_old W3 ob _ _ hgl).trans p1
  have o2 := fun ob => (cell_old W3 ob _ _ hgl).trans p2
  have o3 := fun ob => (cell_old W3 ob _ _ hgl).trans p3
  have o4 := fun ob => (cell_old W3 ob _ _ hgl).trans p4
  have o5 := fun ob => (cell_old W3 ob _ _ hgl).trans p5
  replace hx := Lib.hid hx
  have hgb : decide (limit ≤ triedI x.retry) = true := decide_eq_true (by omega)
  clear hg
  unfold Msg.cells triedM at htr
  rw [hc] at htr
  replace hc := Lib.hid hc
  have st0 := Lib.hid st
  clear st
  go_upto_region 8 with fail
  go_cut [9, 10] (fun s9 s10 wx => ∃ nb, s9 = .pointer (some ⟨nb, 0, none⟩) ∧ s10 = .bool true ∧ W3.heap.size ≤ nb ∧ Below W3.heap.size W3 wx ∧ Whole wx nb 34 #[.int .i64 x.id, .int .i64 x.pri, .int .i64 (triedI x.retry), .bool false, .string x.corr, .string x.body])
  case first =>
    go_region_law (first
      | (go_simp; go_at_call 38; refine (htr.out _).mono ?_; rintro e w4 ⟨rfl, hb4⟩; try (have n0 : Whole w4 W3.heap.size 34 #[.int .i64 0, .int .i64 0, .int .i64 0, .bool false, .string ⟨#[]⟩, .string ⟨#[]⟩] := Whole.below (Whole.new W3.drew 34 #[.int .i64 0, .int .i64 0, .int .i64 0, .bool false, .string ⟨#[]⟩, .string ⟨#[]⟩]) hb4; have nc0 := n0.cell 0; have nc1 := n0.cell 1; have nc2 := n0.cell 2; have nc3 := n0.cell 3; have nc4 := n0.cell 4; have nc5 := n0.cell 5; have nf0 := n0.frozen 0; have nf1 := n0.frozen 1; have nf2 := n0.frozen 2; have nf3 := n0.frozen 3; have nf4 := n0.frozen 4; have nf5 := n0.frozen 5)))
    all_goals
      clear d2 d4 o0 o1 o2 o3 o4 o5
      go_wp2_with fail
      go_meet
      first
        | exact ⟨W3.heap.size, rfl, rfl, Nat.le_refl _, setM_below (g := W3.heap.size) (a := 0) (below_then (Below.alloc (Below.drew (Below.refl W3.heap.size W3)) (Nat.le_refl _) _) hb4) (Nat.le_refl _) ⟨x.id, x.pri, triedI x.retry, false, x.corr, x.body⟩, setM_whole n0 ⟨x.id, x.pri, triedI x.retry, false, x.corr, x.body⟩⟩
        | exact ⟨w4.heap.size, rfl, rfl, hb4.size, Below.alloc (below_then (Below.drew (Below.refl W3.heap.size W3)) hb4) hb4.size _, Whole.new w4 34 #[.int .i64 x.id, .int .i64 x.pri, .int .i64 (triedI x.retry), .bool false, .string x.corr, .string x.body]⟩
  case rest =>
    obtain ⟨nb, rfl, rfl, hnbl, hW5, n5⟩ := hcut
    have hnb : g ≠ nb ∧ nb ≠ w.heap.size := by constructor <;> omega
    clear d2 d4 o0 o1 o2 o3 o4 o5
    have st := st0.out.below hW5
    replace c4 := (hW5.cell (p := ⟨w.heap.size, 4, none⟩) hlt).trans c4
    have f4 := st.box.frozen 4
    clear c2 hlt hgl hW5 st0 k1 hbeg htr hgb p0 p1 p2 p3 p4 p5
    go_wp2_with fail
    refine (delete_any _ _ _ M k st.ob.msgs hk hs2).mono ?_; rintro e w6 ⟨v6, rfl, ho6, hu6, hb6⟩
    have n6 := n5.upd hu6 (fun e => hnb.1 (by injection e))
    have st6 := st.newmsgs hu6 ho6 hb6
    have hnw : ¬ (w.heap.size = g) := by have := (own_block st.ob.msgs).1; omega
    have x6 := st.box.upd hu6 (fun e => hnw (by injection e with e; exact e.symm))
    have c4' : w6.cell? ⟨w.heap.size, 4, none⟩ = some (.slice (some ⟨g, 0, none⟩) M.length n2) := x6.cell 4
    have f4' := x6.frozen 4
    have n7 := n6.other (p := ⟨w.heap.size, 4, none⟩) hnb.2 v6
    obtain ⟨A6, c6, rfl, _, _, _⟩ := own_shape ho6
    replace st6 := Lib.hid st6
    clear st hu6 ho6 hb6 n5 n6 c4 f4 x6 hnb
    go_upto_region 11 with fail
    clear c4' f4'
    replace st6 := st6.out
    generalize w6.setCell ⟨w.heap.size, 4, none⟩ (.slice A6 (M.eraseIdx k).length c6) = W7 at st6 n7 ⊢
    have c5 := st6.box.cell 5
    have f5 := st6.box.frozen 5
    unfold Ob.cells at c5
    have m0 := n7.cell 0
    have m1 := n7.cell 1
    have m2 := n7.cell 2
    have m3 := n7.cell 3
    have m4 := n7.cell 4
    have m5 := n7.cell 5
    have hlt7 := st6.box.lt
    have hsz7 := st6.acc.size
    have hrl := st6.res.lt
    have hod := st6.ob.dead
    unfold OMsgs at hod
    simp only at hod
    have hxx := Lib.hid (st6.box.alloc (.cells #[.int .i64 x.id, .int .i64 x.pri, .int .i64 (triedI x.retry), .bool false, .string x.corr, .string x.body] 34))
    have hd3 : ∀ b, (Value.slice A3 D.length n3).ownBlock = some b → b = w.heap.size → False := fun b e e2 => own_ne_whole st6.ob.dead st6.box (by decide) (by rw [e, e2])
    replace hd3 := Lib.hid hd3
    unfold Ob.cells at hxx
    replace st6 := Lib.hid st6
    clear n7
    obtain ⟨i0, hi0, hz0, hz1, hz2⟩ := info_parts infoMsg
    go_upto_region 13 with (at_builtin; refine wpList_append_view _ rfl (.tmp 57) (.tmp 59) _ rfl (w.heap.size + 2) 34 i0 zMsg 6 64 Try.underlying23 hi0 hz0 hz1 hz2 rfl (by decide) (.slice A3 D.length n3) D.length _ rfl (hod.alloc _) (.slice (some ⟨W7.heap.size, 0, none⟩) 1 1) 1 [.int .i64 x.id, .int .i64 x.pri, .int .i64 (triedI x.retry), .bool false, .string x.corr, .string x.body] rfl (View.boxAt _ _ _ _ rfl rfl) (by intro u hu; simp only [List.mem_cons, List.not_mem_nil, or_false] at hu; rcases hu with rfl | rfl | rfl | rfl | rfl | rfl <;> rfl) (by omega) (by simp only [maxLen]; omega) (by first | (simp; done) | (simp; omega)) ?_; intro v8 w8 hown8 hg8 hat8; obtain ⟨A8, c8, rfl, _, _, _⟩ := own_shape hown8; have st8 := Lib.hid (St.newdead (x := ⟨x.id, x.pri, triedI x.retry, false, x.corr, x.body⟩) st6.out hg8 hown8 hat8); have x8 : Whole w8 w.heap.size 25 #[.string name, .int .i64 kind, .int .i64 limit, .slice A1 R.length n1, .slice A6 (M.eraseIdx k).length c6, .slice A3 D.length n3] := hxx.out.grown hg8 (fun e => hd3.out _ e rfl); have f8 := x8.frozen 5; have c8' := x8.cell 5; clear hod c5 f5 m0 m1 m2 m3 m4 m5 hg8 hown8 hat8 x8)
    clear f8 c8'
    have st := st8.out
    generalize w8.setCell ⟨w.heap.size, 5, none⟩ (.slice A8 (D.length + 1) c8) = W9 at st ⊢
    clear st8 st6 hxx hd3
    have c0 : W9.cell? ⟨w.heap.size, 0, none⟩ = some (.string name) := st.box.cell 0
    have c1 : W9.cell? ⟨w.heap.size, 1, none⟩ = some (.int .i64 kind) := st.box.cell 1
    have c2 : W9.cell? ⟨w.heap.size, 2, none⟩ = some (.int .i64 limit) := st.box.cell 2
    have c3 : W9.cell? ⟨w.heap.size, 3, none⟩ = some (.slice A1 R.length n1) := st.box.cell 3
    have c4 : W9.cell? ⟨w.heap.size, 4, none⟩ = some (.slice A6 (M.eraseIdx k).length c6) := st.box.cell 4
    have c5 : W9.cell? ⟨w.heap.size, 5, none⟩ = some (.slice A8 (D.length + 1) c8) := st.box.cell 5
    clear hlt7 hsz7 hrl
    (have g0 := st.res.cell 0; have g1 := st.res.cell 1; have g2 := st.res.cell 2; have g3 := st.res.cell 3; have g4 := st.res.cell 4; have g5 := st.res.cell 5; have f0 := st.res.frozen 0; have f1 := st.res.frozen 1; have f2 := st.res.frozen 2; have f3 := st.res.frozen 3; have f4 := st.res.frozen 4; have f5 := st.res.frozen 5)
    obtain ⟨hf, hB, hz9⟩ := st_end st
    replace hf := Lib.hid hf
    replace hB := Lib.hid hB
    replace hz9 := Lib.hid hz9
    clear st
    go_wp2_with fail
    have e9 : triedM M[k] = ⟨x.id, x.pri, triedI x.retry, false, x.corr, x.body⟩ := by rw [hx.out]; rfl
    refine bodyPost_ret (results_cell_tmp_row rfl _ _ (w.heap.size + 1) _ _ _ _ rfl hz9.out Try.underlying25 rfl (by kernel_rfl) _ rfl) rfl ⟨_, _, _, rfl, ?_, hB.out⟩
    show OOb _ _ ⟨name, kind, limit, R, M.eraseIdx k, D ++ [triedM M[k]]⟩ _ _ _
    rw [e9]
    exact hf.out
end Go.Proofs.Ytbckobclicogiaa
