/-
  posteref14.on and one, on an effect that puts or cuts a row of a table; Apply of such effects.
-/
import Derived.Test.YtegomkgfmaclkaaVo
import Derived.Test.YtegomkgfmaclkaaVn
import Derived.Test.YtegomkgfmaclkaaVd
import Derived.Test.YtegomkgfmaclkaaVj
import Derived.Test.YtegomkgfmaclkaaIns
import Derived.StillTailTactics
set_option linter.unusedVariables false
set_option linter.unusedSimpArgs false
namespace Go.Proofs.Ytegomkgfmaclkaa
open Go.RowKit Go.Proofs.PosteOrd Go.Proofs.PosteMem

/-- An object whose rows are others. -/
def Ob.rowed (o : Ob) (r : Value) (R : List Row) : Ob := { o with rows := R, r := r }
theorem dat_rowed (o : Ob) (r : Value) (R : List Row) : (o.rowed r R).dat = (o.name, o.kind, o.limit, R, o.msgs, o.dead) := rfl
theorem set_six {N : List Ob} {i : Nat} (hi : i < N.length) (r : Value) (R : List Row) : ((((((N.flatMap Ob.cells).set (i * 6) (.string N[i].name)).set (i * 6 + 1) (.int .i64 N[i].kind)).set (i * 6 + 2) (.int .i64 N[i].limit)).set (i * 6 + 3) r).set (i * 6 + 4) N[i].m).set (i * 6 + 5) N[i].d = (N.set i (N[i].rowed r R)).flatMap Ob.cells := by
  have h0 := flatMap_set_one' Ob.cells 6 Ob.len N i hi 0 (by decide) (.string N[i].name) N[i] rfl
  have h1 := flatMap_set_one' Ob.cells 6 Ob.len N i hi 1 (by decide) (.int .i64 N[i].kind) N[i] rfl
  have h2 := flatMap_set_one' Ob.cells 6 Ob.len N i hi 2 (by decide) (.int .i64 N[i].limit) N[i] rfl
  have h3 := flatMap_set_one' Ob.cells 6 Ob.len N i hi 3 (by decide) r (N[i].rowed r R) rfl
  have hs : N.set i N[i] = N := List.set_getElem_self hi
  rw [hs] at h0 h1 h2
  rw [show i * 6 + 0 = i * 6 from rfl] at h0
  have hi2 : i < (N.set i (N[i].rowed r R)).length := by rw [List.length_set]; exact hi
  have e : (N.set i (N[i].rowed r R))[i] = N[i].rowed r R := List.getElem_set_self hi2
  have h4 := flatMap_set_one' Ob.cells 6 Ob.len (N.set i (N[i].rowed r R)) i hi2 4 (by decide) N[i].m (N[i].rowed r R) (by rw [e]; rfl)
  have h5 := flatMap_set_one' Ob.cells 6 Ob.len (N.set i (N[i].rowed r R)) i hi2 5 (by decide) N[i].d (N[i].rowed r R) (by rw [e]; rfl)
  rw [List.set_set] at h4 h5
  rw [h0, h1, h2, h3, h4, h5]
/-- A world with an object of an array stored anew. -/
def setOb (w : World) (g k : Nat) (a b c x y z : Value) : World := (((((w.setCell ⟨g, k, none⟩ a).setCell ⟨g, k + 1, none⟩ b).setCell ⟨g, k + 2, none⟩ c).setCell ⟨g, k + 3, none⟩ x).setCell ⟨g, k + 4, none⟩ y).setCell ⟨g, k + 5, none⟩ z
theorem setOb_upd (w : World) (g k : Nat) (a b c x y z : Value) : Upd (fun b => b = g) w (setOb w g k a b c x y z) := by
  unfold setOb
  exact ((((((Upd.refl (fun b => b = g) w).setCell (p := ⟨g, k, none⟩) (.inr (show g = g from rfl)) a).setCell (p := ⟨g, k + 1, none⟩) (.inr (show g = g from rfl)) b).setCell (p := ⟨g, k + 2, none⟩) (.inr (show g = g from rfl)) c).setCell (p := ⟨g, k + 3, none⟩) (.inr (show g = g from rfl)) x).setCell (p := ⟨g, k + 4, none⟩) (.inr (show g = g from rfl)) y).setCell (p := ⟨g, k + 5, none⟩) (.inr (show g = g from rfl)) z
theorem OObs.set {w : World} {B g cap : Nat} {N : List Ob} (h : OObs w B (.slice (some ⟨g, 0, none⟩) N.length cap) N) {i : Nat} (hi : i < N.length) {r : Value} {R : List Row} (hr : ORows w B r R) :
    OObs (setOb w g (i * 6) (.string N[i].name) (.int .i64 N[i].kind) (.int .i64 N[i].limit) r N[i].m N[i].d) B (.slice (some ⟨g, 0, none⟩) N.length cap) (N.set i (N[i].rowed r R)) := by
  have hu := setOb_upd w g (i * 6) (.string N[i].name) (.int .i64 N[i].kind) (.int .i64 N[i].limit) r N[i].m N[i].d
  refine ⟨?_, fun o ho => ?_⟩
  · have h1 := own_set (own_set (own_set (own_set (own_set (own_set h.arr (i * 6) (by omega) (.string N[i].name)) (i * 6 + 1) (by omega) (.int .i64 N[i].kind)) (i * 6 + 2) (by omega) (.int .i64 N[i].limit)) (i * 6 + 3) (by omega) r) (i * 6 + 4) (by omega) N[i].m) (i * 6 + 5) (by omega) N[i].d
    rw [set_six hi r R] at h1
    rw [List.length_set]
    exact h1
  · have hap : ∀ x, OOb w B x → OOb (setOb w g (i * 6) (.string N[i].name) (.int .i64 N[i].kind) (.int .i64 N[i].limit) r N[i].m N[i].d) B x := fun x hx => hx.upd hu (fun b hb e => hx.apart h.arr b hb (by rw [e]; rfl))
    rcases List.mem_or_eq_of_mem_set ho with h1 | rfl
    · exact hap o (h.each o h1)
    · have h2 := h.each _ (List.getElem_mem hi)
      exact hap _ ⟨hr, h2.msgs, h2.dead⟩

set_option maxRecDepth 100000 in
set_option maxHeartbeats 8000000 in
theorem onPut_any (w : World) (gs : Nat) (next : Int) (B g cap : Nat) (N : List Ob) (i : Nat) (e : Ef) (hS : Whole w gs 45 #[.int .i64 next, .slice (some ⟨g, 0, none⟩) N.length cap]) (hN : OObs w B (.slice (some ⟨g, 0, none⟩) N.length cap) N) (hB : B ≤ w.heap.size)
    (hi : i < N.length) (hix : idxA (isO e.obj) N = i) (hkd : N[i].kind = 1) (hek : e.kind = 2) (hh : True) (hrl : N[i].rows.length ≤ 900000) (hro : RowsOk N[i].rows) (hks : e.key.size ≤ 140737488351232) (hnl : N.length ≤ 1000) :
    Calls Try.prog 94 #[.pointer (some ⟨gs, 0, none⟩), .agg e.cells.toArray] w fun e' w' => e' = .returned (.int .i64 0) ∧ ∃ r', OObs w' B (.slice (some ⟨g, 0, none⟩) N.length cap) (N.set i (N[i].rowed r' (tab1 e.obj N[i].rows e))) ∧ Upd (fun b => b = g) w w' := by
  obtain ⟨x0, x1, x2, x3, x4, x5, x6, ⟨x7, x8, x9, x10, x11, x12⟩⟩ := e
  simp only at hix hks hek hh
  subst hek
  have hQ := Whole.new w 50 #[.int .i64 2, .string x1, .string x2, .string x3, .int .i64 x4, .int .i64 x5, .bool x6, .int .i64 x7, .int .i64 x8, .int .i64 x9, .bool x10, .string x11, .string x12]
  have hal : Below w.heap.size w (w.alloc (.cells #[.int .i64 2, .string x1, .string x2, .string x3, .int .i64 x4, .int .i64 x5, .bool x6, .int .i64 x7, .int .i64 x8, .int .i64 x9, .bool x10, .string x11, .string x12] 50)) := (Below.refl _ _).alloc (Nat.le_refl _) _
  have hS1 := hS.below hal
  have hN1 := hN.below hal
  have s0 := hS1.cell 0
  have s1 := hS1.cell 1
  have sl := hS1.lt
  have q1 := hQ.cell 1
  have ql := hQ.lt
  have kF := findObj_any (w.alloc (.cells #[.int .i64 2, .string x1, .string x2, .string x3, .int .i64 x4, .int .i64 x5, .bool x6, .int .i64 x7, .int .i64 x8, .int .i64 x9, .bool x10, .string x11, .string x12] 50)).drew next _ N x1 (hN1.view.below (Below.drew (Below.refl _ _))) (by omega)
  rw [hix] at kF
  unfold Ef.cells
  simp only
  replace kF := Lib.hid kF
  replace hQ := Lib.hid hQ
  replace hal := Lib.hid hal
  replace hS1 := Lib.hid hS1
  replace hN1 := Lib.hid hN1
  replace hN := Lib.hid hN
  replace hS := Lib.hid hS
  replace hro := Lib.hid hro
  replace hix := Lib.hid hix
  go_enter Try.func94, Try.ntmps94
  go_upto_region 1 with fail
  generalize w.alloc (.cells #[.int .i64 2, .string x1, .string x2, .string x3, .int .i64 x4, .int .i64 x5, .bool x6, .int .i64 x7, .int .i64 x8, .int .i64 x9, .bool x10, .string x11, .string x12] 50) = w1 at *
  go_region_held3 (fun (w' : World) => w'.cell? ⟨gs, 0, none⟩ = some (.int .i64 next) ∧ w'.cell? ⟨gs, 1, none⟩ = some (.slice (some ⟨g, 0, none⟩) N.length cap) ∧ w'.cell? ⟨w.heap.size, 1, none⟩ = some (.string x1)) (first | assumption | exact ⟨s0, s1, q1⟩ | exact ⟨(hb4.cell (p := ⟨gs, 0, none⟩) sl).trans s0, (hb4.cell (p := ⟨gs, 1, none⟩) sl).trans s1, (hb4.cell (p := ⟨w.heap.size, 1, none⟩) ql).trans q1⟩) (first | (go_at_call 28; refine kF.out.mono ?_; rintro e w4 ⟨rfl, hb4⟩))
  have hb4' : Below w1.heap.size w1 w4 := (Below.drew (Below.refl w1.heap.size w1)).trans hb4
  have hQ4 := hQ.out.below hb4'
  have hS4 := hS1.out.below hb4'
  have hN4 := hN1.out.below hb4'
  have hB4 := Lib.hid (hal.out.trans (hb4'.mono hal.out.size))
  clear hb4 hb4' kF hQ hS1 hN1 hal s0 s1 sl q1 ql
  have t1 := hS4.cell 1
  have tl := hS4.lt
  have u0 := hQ4.cell 0
  have ul := hQ4.lt
  obtain ⟨b, off, cap', e, _, _, hgl, f⟩ := obs_at hN4.view (by omega)
  injection e with e1 e2 e3
  injection e1 with e1
  injection e1 with e1 e4
  subst e1 e4 e3
  obtain ⟨p0, p1, p2, p3, p4, p5⟩ := f i hi
  rw [Nat.zero_add] at p0 p1 p2 p3 p4 p5
  rw [hkd] at p1
  have hOi := hN4.each _ (List.getElem_mem hi)
  have hVi := View.of_own hOi.rows
  obtain ⟨Ar, cr, er, _, _, _⟩ := own_shape hOi.rows
  obtain ⟨Am, cm, em, _, _, _⟩ := own_shape hOi.msgs
  obtain ⟨Ad, cd, ed, _, _, _⟩ := own_shape hOi.dead
  rw [er] at p3 hVi
  rw [em] at p4
  rw [ed] at p5
  replace er := Lib.hid er
  replace em := Lib.hid em
  replace ed := Lib.hid ed
  replace hVi := Lib.hid hVi
  clear f hOi
  have qi : (i : Int) < (N.length : Int) := by omega
  have qz : ¬ (i : Int) < 0 := by omega
  replace hQ4 := Lib.hid hQ4
  replace hS4 := Lib.hid hS4
  replace hN4 := Lib.hid hN4
  have hal5 : Below w4.heap.size w4 (w4.alloc (.cells #[.string N[i].name, .int .i64 1, .int .i64 N[i].limit, .slice Ar N[i].rows.length cr, .slice Am N[i].msgs.length cm, .slice Ad N[i].dead.length cd] 42)) := (Below.refl _ _).alloc (Nat.le_refl _) _
  have hQ5 := Lib.hid (hQ4.out.below hal5)
  have hS5 := Lib.hid (hS4.out.below hal5)
  have hN5 := Lib.hid (hN4.out.below hal5)
  have hB5 := Lib.hid (hB4.out.trans (hal5.mono hB4.out.size))
  have hV5 := View.below hVi.out hal5
  have hO5 := Lib.hid (Whole.new w4 42 #[.string N[i].name, .int .i64 1, .int .i64 N[i].limit, .slice Ar N[i].rows.length cr, .slice Am N[i].msgs.length cm, .slice Ad N[i].dead.length cd])
  have hBo : B ≤ w4.heap.size := Nat.le_trans hB hB4.out.size
  replace hV5 := Lib.hid hV5
  replace hal5 := Lib.hid hal5
  go_upto_region 11 with fail
  clear p0 p1 p2 p3 p4 p5 t1 tl u0 ul hQ4 hgl hS5 hN5 hB5
  generalize w4.alloc (.cells #[.string N[i].name, .int .i64 1, .int .i64 N[i].limit, .slice Ar N[i].rows.length cr, .slice Am N[i].msgs.length cm, .slice Ad N[i].dead.length cd] 42) = w5 at *
  generalize hq5 : w4.heap.size = q5 at *
  replace hq5 := Lib.hid hq5
  have u2 := hQ5.out.cell 2
  have u3 := hQ5.out.cell 3
  have ul := hQ5.out.lt
  have o3 := hO5.out.cell 3
  have ol := hO5.out.lt
  have kP := Lib.hid (refPut_any (w := w5) (x := ⟨x2, x3⟩) hV5.out (by omega) hro.out hks)
  go_upto_region 30 with (go_at_call 23; refine kP.out.mono ?_; rintro e w6 ⟨v6, rfl, ho6, hb6⟩; obtain ⟨A6, cc6, rfl, _, _, _⟩ := own_shape ho6; have hO6 := hO5.out.below hb6; have f6 := hO6.frozen 3; have c6 := hO6.cell 3; have l6 := hO6.lt)
  have hsz45 : q5 ≤ w5.heap.size := by have := hal5.out.size; rw [hq5.out] at this; exact this
  have hB46 := hal5.out.trans (hb6.mono hsz45)
  have hB47 : Below w4.heap.size w4 (w6.setCell ⟨q5, 3, none⟩ (.slice A6 (putS N[i].rows ⟨x2, x3⟩).length cc6)) := by rw [hq5.out]; exact hB46.setCell (p := ⟨q5, 3, none⟩) (Nat.le_refl _) _
  have hO7 := hO6.set 3 (.slice A6 (putS N[i].rows ⟨x2, x3⟩).length cc6)
  have hr7 : ORows (w6.setCell ⟨q5, 3, none⟩ (.slice A6 (putS N[i].rows ⟨x2, x3⟩).length cc6)) B (.slice A6 (putS N[i].rows ⟨x2, x3⟩).length cc6) (putS N[i].rows ⟨x2, x3⟩) := own_setCell (own_mono ho6 (Nat.le_trans hBo hsz45)) (own_ne_whole ho6 hO6 (by decide)) _
  have hN7 := hN4.out.below hB47
  have hS7 := hS4.out.below hB47
  have hB7 := hB4.out.trans (hB47.mono hB4.out.size)
  clear hB46 hB47 hO6 ho6 hb6 f6 c6 l6 u2 u3 ul o3 ol kP hQ5 hO5 hV5 hal5 hN4 hS4 hB4 hVi
  generalize w6.setCell ⟨q5, 3, none⟩ (.slice A6 (putS N[i].rows ⟨x2, x3⟩).length cc6) = w7 at *
  have o0 := hO7.cell 0
  have o1 := hO7.cell 1
  have o2 := hO7.cell 2
  have o3 := hO7.cell 3
  have o4 := hO7.cell 4
  have o5 := hO7.cell 5
  simp only [List.setIfInBounds_toArray, List.set_cons_zero, List.set_cons_succ] at o0 o1 o2 o3 o4 o5
  have ol := hO7.lt
  have t1 := hS7.cell 1
  have tl := hS7.lt
  have hN8 := hN7.below (Below.drew (Below.refl w7.heap.size w7))
  obtain ⟨b, off, cap'', e, _, _, hgl, f⟩ := obs_at hN8.view (by omega)
  injection e with e1 e2 e3
  injection e1 with e1
  injection e1 with e1 e4
  subst e1 e4 e3
  obtain ⟨p0, p1, p2, p3, p4, p5⟩ := f i hi
  rw [Nat.zero_add] at p0 p1 p2 p3 p4 p5
  have f0 := own_free hN8.arr (i * 6)
  have f1 := own_free hN8.arr (i * 6 + 1)
  have f2 := own_free hN8.arr (i * 6 + 2)
  have f3 := own_free hN8.arr (i * 6 + 3)
  have f4 := own_free hN8.arr (i * 6 + 4)
  have f5 := own_free hN8.arr (i * 6 + 5)
  have hset := hN8.set hi (r := .slice A6 (putS N[i].rows ⟨x2, x3⟩).length cc6) (R := (putS N[i].rows ⟨x2, x3⟩)) hr7
  rw [hkd, em.out, ed.out] at hset
  have hupd := setOb_upd w7.drew g (i * 6) (.string N[i].name) (.int .i64 1) (.int .i64 N[i].limit) (.slice A6 (putS N[i].rows ⟨x2, x3⟩).length cc6) (.slice Am N[i].msgs.length cm) (.slice Ad N[i].dead.length cd)
  have hfin := (Upd.of_below (S := fun b => b = g) hB7).trans (Upd.trans (Upd.drew (Upd.refl (fun b => b = g) w7)) hupd (fun _ _ t => t)) (fun _ _ t => t)
  unfold setOb at hset hfin
  replace hset := Lib.hid hset
  replace hfin := Lib.hid hfin
  replace em := Lib.hid em
  clear f hO7 hr7 hN7 hS7 hB7 hupd hN8
  go_upto_region 32 with fail
  go_still_tail 7, (by kernel_rfl)
  change wpList _ _ _ _ _ w7.drew
  generalize w7.drew = w8 at *
  go_wp2_with fail
  go_ret
  refine ⟨rfl, ⟨.slice A6 (putS N[i].rows ⟨x2, x3⟩).length cc6, ?_⟩, hfin.out⟩
  rw [show tab1 x1 N[i].rows ⟨2, x1, x2, x3, x4, x5, x6, ⟨x7, x8, x9, x10, x11, x12⟩⟩ = (putS N[i].rows ⟨x2, x3⟩) by unfold tab1; rw [if_pos rfl, if_pos rfl]]
  exact hset.out
set_option maxRecDepth 100000 in
set_option maxHeartbeats 8000000 in
theorem onDel_any (w : World) (gs : Nat) (next : Int) (B g cap : Nat) (N : List Ob) (i : Nat) (e : Ef) (hS : Whole w gs 45 #[.int .i64 next, .slice (some ⟨g, 0, none⟩) N.length cap]) (hN : OObs w B (.slice (some ⟨g, 0, none⟩) N.length cap) N) (hB : B ≤ w.heap.size)
    (hi : i < N.length) (hix : idxA (isO e.obj) N = i) (hkd : N[i].kind = 1) (hek : e.kind = 3) (hh : hit N[i].rows e.key = true) (hrl : N[i].rows.length ≤ 900000) (hro : RowsOk N[i].rows) (hks : e.key.size ≤ 140737488351232) (hnl : N.length ≤ 1000) :
    Calls Try.prog 94 #[.pointer (some ⟨gs, 0, none⟩), .agg e.cells.toArray] w fun e' w' => e' = .returned (.int .i64 0) ∧ ∃ r', OObs w' B (.slice (some ⟨g, 0, none⟩) N.length cap) (N.set i (N[i].rowed r' (tab1 e.obj N[i].rows e))) ∧ Upd (fun b => b = g) w w' := by
  obtain ⟨x0, x1, x2, x3, x4, x5, x6, ⟨x7, x8, x9, x10, x11, x12⟩⟩ := e
  simp only at hix hks hek hh
  subst hek
  have hQ := Whole.new w 50 #[.int .i64 3, .string x1, .string x2, .string x3, .int .i64 x4, .int .i64 x5, .bool x6, .int .i64 x7, .int .i64 x8, .int .i64 x9, .bool x10, .string x11, .string x12]
  have hal : Below w.heap.size w (w.alloc (.cells #[.int .i64 3, .string x1, .string x2, .string x3, .int .i64 x4, .int .i64 x5, .bool x6, .int .i64 x7, .int .i64 x8, .int .i64 x9, .bool x10, .string x11, .string x12] 50)) := (Below.refl _ _).alloc (Nat.le_refl _) _
  have hS1 := hS.below hal
  have hN1 := hN.below hal
  have s0 := hS1.cell 0
  have s1 := hS1.cell 1
  have sl := hS1.lt
  have q1 := hQ.cell 1
  have ql := hQ.lt
  have kF := findObj_any (w.alloc (.cells #[.int .i64 3, .string x1, .string x2, .string x3, .int .i64 x4, .int .i64 x5, .bool x6, .int .i64 x7, .int .i64 x8, .int .i64 x9, .bool x10, .string x11, .string x12] 50)).drew next _ N x1 (hN1.view.below (Below.drew (Below.refl _ _))) (by omega)
  rw [hix] at kF
  unfold Ef.cells
  simp only
  replace kF := Lib.hid kF
  replace hQ := Lib.hid hQ
  replace hal := Lib.hid hal
  replace hS1 := Lib.hid hS1
  replace hN1 := Lib.hid hN1
  replace hN := Lib.hid hN
  replace hS := Lib.hid hS
  replace hro := Lib.hid hro
  replace hix := Lib.hid hix
  go_enter Try.func94, Try.ntmps94
  go_upto_region 1 with fail
  generalize w.alloc (.cells #[.int .i64 3, .string x1, .string x2, .string x3, .int .i64 x4, .int .i64 x5, .bool x6, .int .i64 x7, .int .i64 x8, .int .i64 x9, .bool x10, .string x11, .string x12] 50) = w1 at *
  go_region_held3 (fun (w' : World) => w'.cell? ⟨gs, 0, none⟩ = some (.int .i64 next) ∧ w'.cell? ⟨gs, 1, none⟩ = some (.slice (some ⟨g, 0, none⟩) N.length cap) ∧ w'.cell? ⟨w.heap.size, 1, none⟩ = some (.string x1)) (first | assumption | exact ⟨s0, s1, q1⟩ | exact ⟨(hb4.cell (p := ⟨gs, 0, none⟩) sl).trans s0, (hb4.cell (p := ⟨gs, 1, none⟩) sl).trans s1, (hb4.cell (p := ⟨w.heap.size, 1, none⟩) ql).trans q1⟩) (first | (go_at_call 28; refine kF.out.mono ?_; rintro e w4 ⟨rfl, hb4⟩))
  have hb4' : Below w1.heap.size w1 w4 := (Below.drew (Below.refl w1.heap.size w1)).trans hb4
  have hQ4 := hQ.out.below hb4'
  have hS4 := hS1.out.below hb4'
  have hN4 := hN1.out.below hb4'
  have hB4 := Lib.hid (hal.out.trans (hb4'.mono hal.out.size))
  clear hb4 hb4' kF hQ hS1 hN1 hal s0 s1 sl q1 ql
  have t1 := hS4.cell 1
  have tl := hS4.lt
  have u0 := hQ4.cell 0
  have ul := hQ4.lt
  obtain ⟨b, off, cap', e, _, _, hgl, f⟩ := obs_at hN4.view (by omega)
  injection e with e1 e2 e3
  injection e1 with e1
  injection e1 with e1 e4
  subst e1 e4 e3
  obtain ⟨p0, p1, p2, p3, p4, p5⟩ := f i hi
  rw [Nat.zero_add] at p0 p1 p2 p3 p4 p5
  rw [hkd] at p1
  have hOi := hN4.each _ (List.getElem_mem hi)
  have hVi := View.of_own hOi.rows
  obtain ⟨Ar, cr, er, _, _, _⟩ := own_shape hOi.rows
  obtain ⟨Am, cm, em, _, _, _⟩ := own_shape hOi.msgs
  obtain ⟨Ad, cd, ed, _, _, _⟩ := own_shape hOi.dead
  rw [er] at p3 hVi
  rw [em] at p4
  rw [ed] at p5
  replace er := Lib.hid er
  replace em := Lib.hid em
  replace ed := Lib.hid ed
  replace hVi := Lib.hid hVi
  clear f hOi
  have qi : (i : Int) < (N.length : Int) := by omega
  have qz : ¬ (i : Int) < 0 := by omega
  replace hQ4 := Lib.hid hQ4
  replace hS4 := Lib.hid hS4
  replace hN4 := Lib.hid hN4
  have hal5 : Below w4.heap.size w4 (w4.alloc (.cells #[.string N[i].name, .int .i64 1, .int .i64 N[i].limit, .slice Ar N[i].rows.length cr, .slice Am N[i].msgs.length cm, .slice Ad N[i].dead.length cd] 42)) := (Below.refl _ _).alloc (Nat.le_refl _) _
  have hQ5 := Lib.hid (hQ4.out.below hal5)
  have hS5 := Lib.hid (hS4.out.below hal5)
  have hN5 := Lib.hid (hN4.out.below hal5)
  have hB5 := Lib.hid (hB4.out.trans (hal5.mono hB4.out.size))
  have hV5 := View.below hVi.out hal5
  have hO5 := Lib.hid (Whole.new w4 42 #[.string N[i].name, .int .i64 1, .int .i64 N[i].limit, .slice Ar N[i].rows.length cr, .slice Am N[i].msgs.length cm, .slice Ad N[i].dead.length cd])
  have hBo : B ≤ w4.heap.size := Nat.le_trans hB hB4.out.size
  replace hV5 := Lib.hid hV5
  replace hal5 := Lib.hid hal5
  go_upto_region 13 with fail
  clear p0 p1 p2 p3 p4 p5 t1 tl u0 ul hQ4 hgl hS5 hN5 hB5
  generalize w4.alloc (.cells #[.string N[i].name, .int .i64 1, .int .i64 N[i].limit, .slice Ar N[i].rows.length cr, .slice Am N[i].msgs.length cm, .slice Ad N[i].dead.length cd] 42) = w5 at *
  generalize hq5 : w4.heap.size = q5 at *
  replace hq5 := Lib.hid hq5
  have u2 := hQ5.out.cell 2
  have u3 := hQ5.out.cell 3
  have ul := hQ5.out.lt
  have o3 := hO5.out.cell 3
  have ol := hO5.out.lt
  have kP := Lib.hid ((by have h9 := refCut_any (w := w5) (key := x2) hV5.out (by omega) hro.out hks; rw [hh] at h9; exact h9))
  go_upto_region 30 with (go_at_call 54; refine kP.out.mono ?_; rintro e w6 ⟨v6, rfl, ho6, hb6⟩; obtain ⟨A6, cc6, rfl, _, _, _⟩ := own_shape ho6; have hO6 := hO5.out.below hb6; have f6 := hO6.frozen 3; have c6 := hO6.cell 3; have l6 := hO6.lt)
  have hsz45 : q5 ≤ w5.heap.size := by have := hal5.out.size; rw [hq5.out] at this; exact this
  have hB46 := hal5.out.trans (hb6.mono hsz45)
  have hB47 : Below w4.heap.size w4 (w6.setCell ⟨q5, 3, none⟩ (.slice A6 (cutS N[i].rows x2).length cc6)) := by rw [hq5.out]; exact hB46.setCell (p := ⟨q5, 3, none⟩) (Nat.le_refl _) _
  have hO7 := hO6.set 3 (.slice A6 (cutS N[i].rows x2).length cc6)
  have hr7 : ORows (w6.setCell ⟨q5, 3, none⟩ (.slice A6 (cutS N[i].rows x2).length cc6)) B (.slice A6 (cutS N[i].rows x2).length cc6) (cutS N[i].rows x2) := own_setCell (own_mono ho6 (Nat.le_trans hBo hsz45)) (own_ne_whole ho6 hO6 (by decide)) _
  have hN7 := hN4.out.below hB47
  have hS7 := hS4.out.below hB47
  have hB7 := hB4.out.trans (hB47.mono hB4.out.size)
  clear hB46 hB47 hO6 ho6 hb6 f6 c6 l6 u2 u3 ul o3 ol kP hQ5 hO5 hV5 hal5 hN4 hS4 hB4 hVi
  generalize w6.setCell ⟨q5, 3, none⟩ (.slice A6 (cutS N[i].rows x2).length cc6) = w7 at *
  have o0 := hO7.cell 0
  have o1 := hO7.cell 1
  have o2 := hO7.cell 2
  have o3 := hO7.cell 3
  have o4 := hO7.cell 4
  have o5 := hO7.cell 5
  simp only [List.setIfInBounds_toArray, List.set_cons_zero, List.set_cons_succ] at o0 o1 o2 o3 o4 o5
  have ol := hO7.lt
  have t1 := hS7.cell 1
  have tl := hS7.lt
  have hN8 := hN7.below (Below.drew (Below.refl w7.heap.size w7))
  obtain ⟨b, off, cap'', e, _, _, hgl, f⟩ := obs_at hN8.view (by omega)
  injection e with e1 e2 e3
  injection e1 with e1
  injection e1 with e1 e4
  subst e1 e4 e3
  obtain ⟨p0, p1, p2, p3, p4, p5⟩ := f i hi
  rw [Nat.zero_add] at p0 p1 p2 p3 p4 p5
  have f0 := own_free hN8.arr (i * 6)
  have f1 := own_free hN8.arr (i * 6 + 1)
  have f2 := own_free hN8.arr (i * 6 + 2)
  have f3 := own_free hN8.arr (i * 6 + 3)
  have f4 := own_free hN8.arr (i * 6 + 4)
  have f5 := own_free hN8.arr (i * 6 + 5)
  have hset := hN8.set hi (r := .slice A6 (cutS N[i].rows x2).length cc6) (R := (cutS N[i].rows x2)) hr7
  rw [hkd, em.out, ed.out] at hset
  have hupd := setOb_upd w7.drew g (i * 6) (.string N[i].name) (.int .i64 1) (.int .i64 N[i].limit) (.slice A6 (cutS N[i].rows x2).length cc6) (.slice Am N[i].msgs.length cm) (.slice Ad N[i].dead.length cd)
  have hfin := (Upd.of_below (S := fun b => b = g) hB7).trans (Upd.trans (Upd.drew (Upd.refl (fun b => b = g) w7)) hupd (fun _ _ t => t)) (fun _ _ t => t)
  unfold setOb at hset hfin
  replace hset := Lib.hid hset
  replace hfin := Lib.hid hfin
  replace em := Lib.hid em
  clear f hO7 hr7 hN7 hS7 hB7 hupd hN8
  go_upto_region 32 with fail
  go_still_tail 7, (by kernel_rfl)
  change wpList _ _ _ _ _ w7.drew
  generalize w7.drew = w8 at *
  go_wp2_with fail
  go_ret
  refine ⟨rfl, ⟨.slice A6 (cutS N[i].rows x2).length cc6, ?_⟩, hfin.out⟩
  rw [show tab1 x1 N[i].rows ⟨3, x1, x2, x3, x4, x5, x6, ⟨x7, x8, x9, x10, x11, x12⟩⟩ = (cutS N[i].rows x2) by unfold tab1; rw [if_pos rfl, if_neg (show ¬ (3 : Int) = 2 by decide), if_pos rfl]]
  exact hset.out
end Go.Proofs.Ytegomkgfmaclkaa
