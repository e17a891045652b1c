/-
  posteref14.Free where a message was tried too often.
-/
import Derived.Test.YtbckobclicogiaaNe
import Derived.Deep.DeepCutAuto
import Derived.Deep.Cut
set_option linter.unusedVariables false
set_option linter.unusedSimpArgs false
namespace Go.Proofs.Ytbckobclicogiaa
open Go.RowKit Go.Proofs.PosteMem
attribute [local go_sem ↓] Go.wp_at_zero Go.wp_at_succ

set_option maxRecDepth 100000 in
set_option maxHeartbeats 8000000 in
theorem rfree_gone (w : World) (o : Ob) (r m d : Value) (id : Int) (h : VOb w o r m d) (hs : o.small) (k : Nat) (hk : k < o.msgs.length) (hi : idxI (byId id) o.msgs = k) (hc : o.msgs[k].claimed = true) (hg : o.limit ≤ triedI o.msgs[k].retry) :
    Calls Try.prog 14 #[.agg (o.cells r m d), .int .i64 id, .bool true] w (FreePost w (⟨o.name, o.kind, o.limit, o.rows, o.msgs.eraseIdx k, o.dead ++ [triedM o.msgs[k]]⟩, true)) := by
  have k1 := Lib.hid (fun W (hb : Below w.heap.size w W) => copy_any W o r m d (VOb.below h hb) hs)
  have vm := Lib.hid (fun W (hb : Below w.heap.size w W) => View.below h.msgs hb)
  have hs2 := hs.2.1
  have hs3 := hs.2.2
  clear h
  obtain ⟨name, kind, limit, R, M, D⟩ := o
  have hbeg := fun (W1 : World) (r' m' d' : Value) hb ho => sr_begin (w := w) (W1 := W1) (o := ⟨name, kind, limit, R, M, D⟩) (r := r) (m := m) (d := d) (r' := r') (m' := m') (d' := d') hb ho
  replace hbeg := Lib.hid hbeg
  unfold Ob.cells at *
  simp only at *
  replace hi := Lib.hid hi
  replace hk : k < M.length := hk
  replace hc : M[k].claimed = _ := hc
  replace hg : limit ≤ triedI M[k].retry := hg
  clear hs
  go_enter Try.func14, Try.ntmps14
  (go_wp2_with fail; refine (k1.out _ (by (refine upd_to_below ?_; repeat (first | exact Upd.refl _ _ | refine Upd.setCell ?_ (Or.inl (by simp)) _ | refine Upd.alloc ?_ _ | refine Upd.drewN ?_ _ | refine Upd.drew ?_)))).mono ?_; rintro e W1 ⟨r', m', d', rfl, ho, hb1⟩; obtain ⟨st, sx⟩ := hbeg.out _ _ _ _ hb1 ho; have hlt : w.heap.size + 2 ≤ W1.heap.size := (by have := hb1.size; simpa using this); have y1 : Whole W1 w.heap.size _ _ := ((Whole.new w 25 #[.string name, .int .i64 kind, .int .i64 limit, r, m, d]).alloc _).below hb1; have c4 : W1.cell? ⟨w.heap.size, 4, none⟩ = some m := y1.cell 4; have hlt2 : w.heap.size < W1.heap.size := (by omega); have hne0 : ¬ (W1.heap.size = w.heap.size) := (by omega); obtain ⟨A1, n1, rfl, _, _, _⟩ := own_shape ho.rows; obtain ⟨A2, n2, rfl, _, _, _⟩ := own_shape ho.msgs; obtain ⟨A3, n3, rfl, _, _, _⟩ := own_shape ho.dead; clear ho hb1 y1; go_wp2_with fail; generalize W1.alloc (.cells #[.string name, .int .i64 kind, .int .i64 limit, .slice A1 R.length n1, .slice A2 M.length n2, .slice A3 D.length n3] 25) = W2 at st sx ⊢; have hpp : ¬ (w.heap.size = W1.heap.size) := (by omega); have hpq : ¬ (w.heap.size + 1 = W1.heap.size) := (by omega); generalize W1.heap.size = p at st hpp hpq ⊢; clear c4 hlt hlt2 hne0; refine (findMsg_any _ _ M id (vm.out _ st.acc) hs2).mono ?_; rintro e W3 ⟨rfl, rfl⟩; rw [hi.out])
  have q1 : (k : Int) < (M.length : Int) := by omega
  obtain ⟨b, off, cp, hmv, _, _, _, fm⟩ := msgs_at (vm.out _ st.acc) (show 0 < M.length by omega)
  obtain ⟨p0, p1, p2, p3, p4, p5⟩ := fm k hk
  rw [hc] at p3
  have cm : W2.cell? ⟨w.heap.size, 4, none⟩ = some m := sx.cell 4
  have c2 : W2.cell? ⟨w.heap.size, 2, none⟩ = some (.int .i64 limit) := sx.cell 2
  have hlt := sx.lt
  have hgl := World.block_lt_of_cell? W2 _ p0
  simp only at hgl
  subst hmv
  have d2 := fun ob => (cell_old W2 ob _ 2 hlt).trans c2
  have d4 := fun ob => (cell_old W2 ob _ 4 hlt).trans cm
  have htr := Lib.hid (fun W => rtried_any W M[k] limit)
  generalize hx : M[k] = x at *
  have o0 := fun ob => (cell_old W2 ob _ _ hgl).trans p0
  have o1 := fun ob => (cell_old W2 ob _ _ hgl).trans p1
  have o2 := fun ob => (cell_old W2 ob _ _ hgl).trans p2
  have o3 := fun ob => (cell_old W2 ob _ _ hgl).trans p3
  have o4 := fun ob => (cell_old W2 ob _ _ hgl).trans p4
  have o5 := fun ob => (cell_old W2 ob _ _ hgl).trans p5
  replace hx := Lib.hid hx
  have hgb : decide (limit ≤ triedI x.retry) = true := decide_eq_true (by omega)
  clear hg fm
  unfold Msg.cells triedM at htr
  rw [hc] at htr
  replace hc := Lib.hid hc
  have st0 := Lib.hid st
  clear st
  go_upto_region 8 with fail
  go_cut [10, 11] (fun s9 s10 wx => ∃ nb, s9 = .pointer (some ⟨nb, 0, none⟩) ∧ s10 = .bool true ∧ W2.heap.size ≤ nb ∧ Below W2.heap.size W2 wx ∧ Whole wx nb 34 #[.int .i64 x.id, .int .i64 x.pri, .int .i64 (triedI x.retry), .bool false, .string x.corr, .string x.body])
  case first =>
    go_region_law (first
      | (go_simp; go_at_call 42; refine (htr.out _).mono ?_; rintro e w4 ⟨rfl, hb4⟩; try (have n0 : Whole w4 W2.heap.size 34 #[.int .i64 0, .int .i64 0, .int .i64 0, .bool false, .string ⟨#[]⟩, .string ⟨#[]⟩] := Whole.below (Whole.new W2.drew 34 #[.int .i64 0, .int .i64 0, .int .i64 0, .bool false, .string ⟨#[]⟩, .string ⟨#[]⟩]) hb4; have nc0 := n0.cell 0; have nc1 := n0.cell 1; have nc2 := n0.cell 2; have nc3 := n0.cell 3; have nc4 := n0.cell 4; have nc5 := n0.cell 5; have nf0 := n0.frozen 0; have nf1 := n0.frozen 1; have nf2 := n0.frozen 2; have nf3 := n0.frozen 3; have nf4 := n0.frozen 4; have nf5 := n0.frozen 5)))
    all_goals
      clear d2 d4 o0 o1 o2 o3 o4 o5
      go_wp2_with fail
      go_meet
      first
        | exact ⟨W2.heap.size, rfl, rfl, Nat.le_refl _, setM_below (g := W2.heap.size) (a := 0) (below_then (Below.alloc (Below.drew (Below.refl W2.heap.size W2)) (Nat.le_refl _) _) hb4) (Nat.le_refl _) ⟨x.id, x.pri, triedI x.retry, false, x.corr, x.body⟩, setM_whole n0 ⟨x.id, x.pri, triedI x.retry, false, x.corr, x.body⟩⟩
        | exact ⟨w4.heap.size, rfl, rfl, hb4.size, Below.alloc (below_then (Below.drew (Below.refl W2.heap.size W2)) hb4) hb4.size _, Whole.new w4 34 #[.int .i64 x.id, .int .i64 x.pri, .int .i64 (triedI x.retry), .bool false, .string x.corr, .string x.body]⟩
  case rest =>
    obtain ⟨nb, rfl, rfl, hnbl, hW5, n5⟩ := hcut
    clear d2 d4 o0 o1 o2 o3 o4 o5
    have st := st0.out.below hW5
    obtain ⟨i0, hi0, hz0, hz1, hz2⟩ := info_parts infoMsg
    have vw := vm.out _ (below_then (Lib.hid st.acc).out (Below.refl _ _))
    have hvt := vw.take (k := k) (by omega)
    have hvd := vw.drop (k := k + 1) hk
    rw [flatMap_take _ 6 Msg.len] at hvt
    rw [flatMap_drop _ 6 Msg.len] at hvd
    have hadd : (⟨b, off, none⟩ : Addr).add ((k + 1) * 6) = ⟨b, off + (k + 1) * 6, none⟩ := by unfold Addr.add; split <;> simp_all
    simp only [Option.map_some, hadd] at hvd
    have q2 : k ≤ cp := by omega
    have q3 : k + 1 ≤ M.length := hk
    have q5 : (0 : Int) ≤ (k : Int) + 1 := by omega
    have q6 : (k : Int) + 1 ≤ (M.length : Int) := by omega
    have ew : IntKind.i64.wrap ((k : Int) + 1) = (k : Int) + 1 := IntWalk.i64_in _ (by omega)
    have cm' : wc.cell? ⟨w.heap.size, 4, none⟩ = some (.slice (some ⟨b, off, none⟩) M.length cp) := (hW5.cell (p := ⟨w.heap.size, 4, none⟩) hlt).trans cm
    have hl1 : (M.take k).length = k := by rw [List.length_take]; omega
    have hl2 : (M.drop (k + 1)).length = M.length - (k + 1) := List.length_drop
    have hera : M.eraseIdx k = M.take k ++ M.drop (k + 1) := List.eraseIdx_eq_take_drop_succ _ _
    rcases Classical.em (cp = k + 1) with hcp | hcp
    · have hcp' : (cp = k + 1) = True := eq_true hcp
      replace hcp := Lib.hid hcp
      simp only [hcp', if_true] at hvd
      replace hvt := Lib.hid hvt
      replace hvd := Lib.hid hvd
      replace hl1 := Lib.hid hl1
      replace hl2 := Lib.hid hl2
      replace hera := Lib.hid hera
      have f4 := st.box.frozen 4
      have b4 : wc.cell? ⟨p, 4, none⟩ = some (.slice A2 M.length n2) := st.box.cell 4
      have hpl := st.box.lt
      have hnp : nb ≠ p := by have := st0.out.box.lt; omega
      have hwl : w.heap.size < wc.heap.size := by have := hW5.size; omega
      have z1 : k * 64 ≤ 140737488355328 := by omega
      have z2 : k ≤ maxLen := by simp only [maxLen]; omega
      have z3 : (k + (M.length - (k + 1))) * 64 ≤ 140737488355328 := by omega
      have z4 : k + (M.length - (k + 1)) ≤ maxLen := by simp only [maxLen]; omega
      have z5 : 0 < 6 := by omega
      replace z1 := Lib.hid z1
      replace z2 := Lib.hid z2
      replace z3 := Lib.hid z3
      replace z4 := Lib.hid z4
      have z6 : wc.heap.size ≤ wc.drew.heap.size := Nat.le_refl _
      replace z6 := Lib.hid z6
      replace st := Lib.hid st
      clear hadd vw p0 p1 p2 p3 p4 p5 hgb htr st0 hW5 sx k1 hbeg vm cm c2
      go_upto_region 12 with fail
      go_region_law (first
        | (refine step_append_new _ rfl (.const (.slice none 0 0)) (.tmp 60) _ rfl wc.heap.size 34 i0 zMsg 6 64 Try.underlying23 hi0 hz0 hz1 hz2 rfl z5 rfl _ k _ rfl (View.drew hvt.out) (Msg.one _) z1.out z2.out z6.out ?_; intro A7 c7 w7 hown7 hm7 hc7 hA7 hg7 hat7; have up7 := Upd.of_grown (S := fun _ => False) hg7 (fun _ h => by cases h); have hb7 : Below wc.heap.size wc w7 := below_then (Below.drew (Below.refl _ _)) (upd_to_below up7); have cm'' := (hb7.cell (p := ⟨w.heap.size, 4, none⟩) hwl).trans cm')
        | (refine step_append_view _ rfl (.tmp 61) (.tmp 66) _ rfl wc.heap.size 34 i0 zMsg 6 64 Try.underlying23 hi0 hz0 hz1 hz2 rfl z5 (.slice A7 k c7) k _ rfl hown7 _ (M.length - (k + 1)) _ rfl (View.below hvd.out hb7) (Msg.one _) z3.out z4.out hb7.size ?_; intro v8 w8 hown8 hg8 hat8; obtain ⟨A8, c8, rfl, _, _, _⟩ := own_shape hown8; have hb8 : Below wc.heap.size wc w8 := hb7.grown hg8 hb7.size (fun b e => (own_lt hown7 e).1); have f4' := (hb8.frozen (p := ⟨p, 4, none⟩) hpl).trans f4; have b4' := (hb8.cell (p := ⟨p, 4, none⟩) hpl).trans b4))
      all_goals
        have ho8 : OMsgs w8 wc.heap.size (.slice A8 (k + (M.length - (k + 1))) c8) (M.eraseIdx k) := by
          unfold OMsgs
          rw [hera.out, List.length_append, hl1.out, hl2.out, List.flatMap_append]
          exact hown8
        have n8 := n5.below hb8
        have st8 := Sr.newmsgs st.out hb8 ho8
        have n9 := n8.other (p := ⟨p, 4, none⟩) (show nb ≠ p from hnp) (.slice A8 (k + (M.length - (k + 1))) c8)
        clear hown8 hg8 hat8 hb8 f4' b4' ho8 n8 n5 hown7 hg7 hat7 up7 hb7 cm'' cm' f4 b4 hpl hwl st z1 z2 z3 z4 z5 z6 hvt hvd hera hl1 hl2
        generalize k + (M.length - (k + 1)) = ln at st8 n9 ⊢
        generalize w8.setCell ⟨p, 4, none⟩ (.slice A8 ln c8) = W9 at st8 n9 ⊢
        have c5 : W9.cell? ⟨p, 5, none⟩ = some (.slice A3 D.length n3) := st8.box.cell 5
        have f5 := st8.box.frozen 5
        have m0 := n9.cell 0
        have m1 := n9.cell 1
        have m2 := n9.cell 2
        have m3 := n9.cell 3
        have m4 := n9.cell 4
        have m5 := n9.cell 5
        have hsz9 := st8.acc.size
        have hrl := st8.res.lt
        have hpl9 := st8.box.lt
        have hpne : ¬ (W9.heap.size = p) := by omega
        have hod := st8.ob.dead
        unfold OMsgs at hod
        simp only at hod
        have hxx := Lib.hid (st8.box.alloc (.cells #[.int .i64 x.id, .int .i64 x.pri, .int .i64 (triedI x.retry), .bool false, .string x.corr, .string x.body] 34))
        have hd3 : ∀ b, (Value.slice A3 D.length n3).ownBlock = some b → b = p → False := fun b e e2 => own_ne_whole st8.ob.dead st8.box (by decide) (by rw [e, e2])
        replace hd3 := Lib.hid hd3
        unfold Ob.cells at hxx
        replace st8 := Lib.hid st8
        have z7 : (D.length + 1) * 64 ≤ 140737488355328 := by omega
        have z8 : D.length + 1 ≤ maxLen := by simp only [maxLen]; omega
        have z9 : w.heap.size + 2 ≤ (W9.alloc (.cells #[.int .i64 x.id, .int .i64 x.pri, .int .i64 (triedI x.retry), .bool false, .string x.corr, .string x.body] 34)).heap.size := by simp; omega
        replace z7 := Lib.hid z7
        replace z8 := Lib.hid z8
        replace z9 := Lib.hid z9
        clear n9 hnp
        go_upto_region 14 with (at_builtin; refine wpList_append_view _ rfl (.tmp 70) (.tmp 72) _ rfl (w.heap.size + 2) 34 i0 zMsg 6 64 Try.underlying23 hi0 hz0 hz1 hz2 rfl (by decide) (.slice A3 D.length n3) D.length _ rfl (hod.alloc _) (.slice (some ⟨W9.heap.size, 0, none⟩) 1 1) 1 [.int .i64 x.id, .int .i64 x.pri, .int .i64 (triedI x.retry), .bool false, .string x.corr, .string x.body] rfl (View.boxAt _ _ _ _ rfl rfl) (by intro u hu; simp only [List.mem_cons, List.not_mem_nil, or_false] at hu; rcases hu with rfl | rfl | rfl | rfl | rfl | rfl <;> rfl) z7.out z8.out z9.out ?_; intro v10 w10 hown10 hg10 hat10; obtain ⟨A10, c10, rfl, _, _, _⟩ := own_shape hown10; have stA := Lib.hid (Sr.newdead (x := ⟨x.id, x.pri, triedI x.retry, false, x.corr, x.body⟩) st8.out hg10 hown10 hat10); have x10 : Whole w10 p 25 _ := hxx.out.grown hg10 (fun e => hd3.out _ e rfl); have f10 := x10.frozen 5; have c10' : w10.cell? ⟨p, 5, none⟩ = some (.slice A3 D.length n3) := x10.cell 5; clear hod c5 f5 m0 m1 m2 m3 m4 m5 hg10 hown10 hat10 x10)
        clear f10 c10'
        have st : Sr w (w10.setCell ⟨p, 5, none⟩ (.slice A10 (D.length + 1) c10)) p ⟨name, kind, limit, R, M.eraseIdx k, D ++ [⟨x.id, x.pri, triedI x.retry, false, x.corr, x.body⟩]⟩ (.slice A1 R.length n1) (.slice A8 ln c8) (.slice A10 (D.length + 1) c10) := stA.out
        generalize w10.setCell ⟨p, 5, none⟩ (.slice A10 (D.length + 1) c10) = W11 at st ⊢
        clear stA st8 hxx hd3
        have c0 : W11.cell? ⟨p, 0, none⟩ = some (.string name) := st.box.cell 0
        have c1 : W11.cell? ⟨p, 1, none⟩ = some (.int .i64 kind) := st.box.cell 1
        have c2 : W11.cell? ⟨p, 2, none⟩ = some (.int .i64 limit) := st.box.cell 2
        have c3 : W11.cell? ⟨p, 3, none⟩ = some (.slice A1 R.length n1) := st.box.cell 3
        have c4 : W11.cell? ⟨p, 4, none⟩ = some (.slice A8 ln c8) := st.box.cell 4
        have c5 : W11.cell? ⟨p, 5, none⟩ = some (.slice A10 (D.length + 1) c10) := st.box.cell 5
        (have g0 := st.res.cell 0; have g1 := st.res.cell 1; have g2 := st.res.cell 2; have g3 := st.res.cell 3; have g4 := st.res.cell 4; have g5 := st.res.cell 5; have f0 := st.res.frozen 0; have f1 := st.res.frozen 1; have f2 := st.res.frozen 2; have f3 := st.res.frozen 3; have f4 := st.res.frozen 4; have f5 := st.res.frozen 5)
        obtain ⟨hf, hB, hzz⟩ := Sr.end st
        replace hf := Lib.hid hf
        replace hB := Lib.hid hB
        replace hzz := Lib.hid hzz
        clear st hsz9 hrl hpl9 hpne z7 z8 z9 ew q1 q2 q3 q5 q6 hlt hgl hnbl hm7 hc7 hA7
        go_wp2_with fail
        have e9 : triedM M[k] = ⟨x.id, x.pri, triedI x.retry, false, x.corr, x.body⟩ := by rw [hx.out]; rfl
        refine bodyPost_ret (results_cell_tmp_row rfl _ _ (w.heap.size + 1) _ _ _ _ rfl hzz.out Try.underlying25 rfl (by kernel_rfl) _ rfl) rfl ⟨_, _, _, rfl, ?_, hB.out⟩
        show OOb _ _ ⟨name, kind, limit, R, M.eraseIdx k, D ++ [triedM M[k]]⟩ _ _ _
        rw [e9]
        exact hf.out
    · simp only [if_neg hcp] at hvd
      replace hvt := Lib.hid hvt
      replace hvd := Lib.hid hvd
      replace hl1 := Lib.hid hl1
      replace hl2 := Lib.hid hl2
      replace hera := Lib.hid hera
      have f4 := st.box.frozen 4
      have b4 : wc.cell? ⟨p, 4, none⟩ = some (.slice A2 M.length n2) := st.box.cell 4
      have hpl := st.box.lt
      have hnp : nb ≠ p := by have := st0.out.box.lt; omega
      have hwl : w.heap.size < wc.heap.size := by have := hW5.size; omega
      have z1 : k * 64 ≤ 140737488355328 := by omega
      have z2 : k ≤ maxLen := by simp only [maxLen]; omega
      have z3 : (k + (M.length - (k + 1))) * 64 ≤ 140737488355328 := by omega
      have z4 : k + (M.length - (k + 1)) ≤ maxLen := by simp only [maxLen]; omega
      have z5 : 0 < 6 := by omega
      replace z1 := Lib.hid z1
      replace z2 := Lib.hid z2
      replace z3 := Lib.hid z3
      replace z4 := Lib.hid z4
      have z6 : wc.heap.size ≤ wc.drew.heap.size := Nat.le_refl _
      replace z6 := Lib.hid z6
      replace st := Lib.hid st
      clear hadd vw p0 p1 p2 p3 p4 p5 hgb htr st0 hW5 sx k1 hbeg vm cm c2
      go_upto_region 12 with fail
      go_region_law (first
        | (refine step_append_new _ rfl (.const (.slice none 0 0)) (.tmp 60) _ rfl wc.heap.size 34 i0 zMsg 6 64 Try.underlying23 hi0 hz0 hz1 hz2 rfl z5 rfl _ k _ rfl (View.drew hvt.out) (Msg.one _) z1.out z2.out z6.out ?_; intro A7 c7 w7 hown7 hm7 hc7 hA7 hg7 hat7; have up7 := Upd.of_grown (S := fun _ => False) hg7 (fun _ h => by cases h); have hb7 : Below wc.heap.size wc w7 := below_then (Below.drew (Below.refl _ _)) (upd_to_below up7); have cm'' := (hb7.cell (p := ⟨w.heap.size, 4, none⟩) hwl).trans cm')
        | (refine step_append_view _ rfl (.tmp 61) (.tmp 66) _ rfl wc.heap.size 34 i0 zMsg 6 64 Try.underlying23 hi0 hz0 hz1 hz2 rfl z5 (.slice A7 k c7) k _ rfl hown7 _ (M.length - (k + 1)) _ rfl (View.below hvd.out hb7) (Msg.one _) z3.out z4.out hb7.size ?_; intro v8 w8 hown8 hg8 hat8; obtain ⟨A8, c8, rfl, _, _, _⟩ := own_shape hown8; have hb8 : Below wc.heap.size wc w8 := hb7.grown hg8 hb7.size (fun b e => (own_lt hown7 e).1); have f4' := (hb8.frozen (p := ⟨p, 4, none⟩) hpl).trans f4; have b4' := (hb8.cell (p := ⟨p, 4, none⟩) hpl).trans b4))
      all_goals
        have ho8 : OMsgs w8 wc.heap.size (.slice A8 (k + (M.length - (k + 1))) c8) (M.eraseIdx k) := by
          unfold OMsgs
          rw [hera.out, List.length_append, hl1.out, hl2.out, List.flatMap_append]
          exact hown8
        have n8 := n5.below hb8
        have st8 := Sr.newmsgs st.out hb8 ho8
        have n9 := n8.other (p := ⟨p, 4, none⟩) (show nb ≠ p from hnp) (.slice A8 (k + (M.length - (k + 1))) c8)
        clear hown8 hg8 hat8 hb8 f4' b4' ho8 n8 n5 hown7 hg7 hat7 up7 hb7 cm'' cm' f4 b4 hpl hwl st z1 z2 z3 z4 z5 z6 hvt hvd hera hl1 hl2
        generalize k + (M.length - (k + 1)) = ln at st8 n9 ⊢
        generalize w8.setCell ⟨p, 4, none⟩ (.slice A8 ln c8) = W9 at st8 n9 ⊢
        have c5 : W9.cell? ⟨p, 5, none⟩ = some (.slice A3 D.length n3) := st8.box.cell 5
        have f5 := st8.box.frozen 5
        have m0 := n9.cell 0
        have m1 := n9.cell 1
        have m2 := n9.cell 2
        have m3 := n9.cell 3
        have m4 := n9.cell 4
        have m5 := n9.cell 5
        have hsz9 := st8.acc.size
        have hrl := st8.res.lt
        have hpl9 := st8.box.lt
        have hpne : ¬ (W9.heap.size = p) := by omega
        have hod := st8.ob.dead
        unfold OMsgs at hod
        simp only at hod
        have hxx := Lib.hid (st8.box.alloc (.cells #[.int .i64 x.id, .int .i64 x.pri, .int .i64 (triedI x.retry), .bool false, .string x.corr, .string x.body] 34))
        have hd3 : ∀ b, (Value.slice A3 D.length n3).ownBlock = some b → b = p → False := fun b e e2 => own_ne_whole st8.ob.dead st8.box (by decide) (by rw [e, e2])
        replace hd3 := Lib.hid hd3
        unfold Ob.cells at hxx
        replace st8 := Lib.hid st8
        have z7 : (D.length + 1) * 64 ≤ 140737488355328 := by omega
        have z8 : D.length + 1 ≤ maxLen := by simp only [maxLen]; omega
        have z9 : w.heap.size + 2 ≤ (W9.alloc (.cells #[.int .i64 x.id, .int .i64 x.pri, .int .i64 (triedI x.retry), .bool false, .string x.corr, .string x.body] 34)).heap.size := by simp; omega
        replace z7 := Lib.hid z7
        replace z8 := Lib.hid z8
        replace z9 := Lib.hid z9
        clear n9 hnp
        go_upto_region 14 with (at_builtin; refine wpList_append_view _ rfl (.tmp 70) (.tmp 72) _ rfl (w.heap.size + 2) 34 i0 zMsg 6 64 Try.underlying23 hi0 hz0 hz1 hz2 rfl (by decide) (.slice A3 D.length n3) D.length _ rfl (hod.alloc _) (.slice (some ⟨W9.heap.size, 0, none⟩) 1 1) 1 [.int .i64 x.id, .int .i64 x.pri, .int .i64 (triedI x.retry), .bool false, .string x.corr, .string x.body] rfl (View.boxAt _ _ _ _ rfl rfl) (by intro u hu; simp only [List.mem_cons, List.not_mem_nil, or_false] at hu; rcases hu with rfl | rfl | rfl | rfl | rfl | rfl <;> rfl) z7.out z8.out z9.out ?_; intro v10 w10 hown10 hg10 hat10; obtain ⟨A10, c10, rfl, _, _, _⟩ := own_shape hown10; have stA := Lib.hid (Sr.newdead (x := ⟨x.id, x.pri, triedI x.retry, false, x.corr, x.body⟩) st8.out hg10 hown10 hat10); have x10 : Whole w10 p 25 _ := hxx.out.grown hg10 (fun e => hd3.out _ e rfl); have f10 := x10.frozen 5; have c10' : w10.cell? ⟨p, 5, none⟩ = some (.slice A3 D.length n3) := x10.cell 5; clear hod c5 f5 m0 m1 m2 m3 m4 m5 hg10 hown10 hat10 x10)
        clear f10 c10'
        have st : Sr w (w10.setCell ⟨p, 5, none⟩ (.slice A10 (D.length + 1) c10)) p ⟨name, kind, limit, R, M.eraseIdx k, D ++ [⟨x.id, x.pri, triedI x.retry, false, x.corr, x.body⟩]⟩ (.slice A1 R.length n1) (.slice A8 ln c8) (.slice A10 (D.length + 1) c10) := stA.out
        generalize w10.setCell ⟨p, 5, none⟩ (.slice A10 (D.length + 1) c10) = W11 at st ⊢
        clear stA st8 hxx hd3
        have c0 : W11.cell? ⟨p, 0, none⟩ = some (.string name) := st.box.cell 0
        have c1 : W11.cell? ⟨p, 1, none⟩ = some (.int .i64 kind) := st.box.cell 1
        have c2 : W11.cell? ⟨p, 2, none⟩ = some (.int .i64 limit) := st.box.cell 2
        have c3 : W11.cell? ⟨p, 3, none⟩ = some (.slice A1 R.length n1) := st.box.cell 3
        have c4 : W11.cell? ⟨p, 4, none⟩ = some (.slice A8 ln c8) := st.box.cell 4
        have c5 : W11.cell? ⟨p, 5, none⟩ = some (.slice A10 (D.length + 1) c10) := st.box.cell 5
        (have g0 := st.res.cell 0; have g1 := st.res.cell 1; have g2 := st.res.cell 2; have g3 := st.res.cell 3; have g4 := st.res.cell 4; have g5 := st.res.cell 5; have f0 := st.res.frozen 0; have f1 := st.res.frozen 1; have f2 := st.res.frozen 2; have f3 := st.res.frozen 3; have f4 := st.res.frozen 4; have f5 := st.res.frozen 5)
        obtain ⟨hf, hB, hzz⟩ := Sr.end st
        replace hf := Lib.hid hf
        replace hB := Lib.hid hB
        replace hzz := Lib.hid hzz
        clear st hsz9 hrl hpl9 hpne z7 z8 z9 ew q1 q2 q3 q5 q6 hlt hgl hnbl hm7 hc7 hA7
        go_wp2_with fail
        have e9 : triedM M[k] = ⟨x.id, x.pri, triedI x.retry, false, x.corr, x.body⟩ := by rw [hx.out]; rfl
        refine bodyPost_ret (results_cell_tmp_row rfl _ _ (w.heap.size + 1) _ _ _ _ rfl hzz.out Try.underlying25 rfl (by kernel_rfl) _ rfl) rfl ⟨_, _, _, rfl, ?_, hB.out⟩
        show OOb _ _ ⟨name, kind, limit, R, M.eraseIdx k, D ++ [triedM M[k]]⟩ _ _ _
        rw [e9]
        exact hf.out
end Go.Proofs.Ytbckobclicogiaa
