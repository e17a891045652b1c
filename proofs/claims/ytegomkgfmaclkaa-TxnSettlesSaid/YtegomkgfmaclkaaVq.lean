/-
  posteref14.one and Apply, on effects that put or cut rows of tables.
-/
import Derived.Test.YtegomkgfmaclkaaVp
import Derived.Test.YtegomkgfmaclkaaVf
set_option linter.unusedVariables false
set_option linter.unusedSimpArgs false
namespace Go.Proofs.Ytegomkgfmaclkaa
open Go.RowKit Go.Proofs.PosteOrd Go.Proofs.PosteMem

set_option maxRecDepth 100000 in
set_option maxHeartbeats 4000000 in
theorem one_any (w : World) (gs : Nat) (next : Int) (B g cap : Nat) (N : List Ob) (i : Nat) (e : Ef) (hS : Whole w gs 45 #[.int .i64 next, .slice (some ⟨g, 0, none⟩) N.length cap]) (hN : OObs w B (.slice (some ⟨g, 0, none⟩) N.length cap) N) (hB : B ≤ w.heap.size)
    (hi : i < N.length) (hix : idxA (isO e.obj) N = i) (hkd : N[i].kind = 1) (hek : e.kind = 2 ∨ (e.kind = 3 ∧ hit N[i].rows e.key = true)) (hrl : N[i].rows.length ≤ 900000) (hro : RowsOk N[i].rows) (hks : e.key.size ≤ 140737488351232) (hnl : N.length ≤ 1000) :
    Calls Try.prog 72 #[.pointer (some ⟨gs, 0, none⟩), .agg e.cells.toArray] w fun e' w' => e' = .returned (.int .i64 0) ∧ (∃ r', OObs w' B (.slice (some ⟨g, 0, none⟩) N.length cap) (N.set i (N[i].rowed r' (tab1 e.obj N[i].rows e)))) ∧ Upd (fun b => b = g) w w' := by
  have hal : Below w.heap.size w (w.alloc (.cells e.cells.toArray 50)) := (Below.refl _ _).alloc (Nat.le_refl _) _
  have kO : Calls Try.prog 94 #[.pointer (some ⟨gs, 0, none⟩), .agg e.cells.toArray] (w.alloc (.cells e.cells.toArray 50)) fun e' w' => e' = .returned (.int .i64 0) ∧ (∃ r', OObs w' B (.slice (some ⟨g, 0, none⟩) N.length cap) (N.set i (N[i].rowed r' (tab1 e.obj N[i].rows e)))) ∧ Upd (fun b => b = g) (w.alloc (.cells e.cells.toArray 50)) w' := by
    rcases hek with h | ⟨h, h2⟩
    · exact (onPut_any _ gs next B g cap N i e (hS.below hal) (hN.below hal) (Nat.le_trans hB hal.size) hi hix hkd h trivial hrl hro hks hnl).mono fun _ _ ⟨a, r, b, c⟩ => ⟨a, ⟨r, b⟩, c⟩
    · exact (onDel_any _ gs next B g cap N i e (hS.below hal) (hN.below hal) (Nat.le_trans hB hal.size) hi hix hkd h h2 hrl hro hks hnl).mono fun _ _ ⟨a, r, b, c⟩ => ⟨a, ⟨r, b⟩, c⟩
  have hk1 : ¬ e.kind = 8 := by rcases hek with h | ⟨h, _⟩ <;> omega
  have hk2 : ¬ e.kind = 1 := by rcases hek with h | ⟨h, _⟩ <;> omega
  have hux : Upd (fun b => b = g) w (w.alloc (.cells e.cells.toArray 50)) := (Upd.refl _ w).alloc _
  generalize N.set i = st at *
  generalize N[i].rowed = rw' at *
  generalize tab1 e.obj N[i].rows e = RR at *
  clear hS hN hix hkd hek hro hal
  obtain ⟨x0, x1, x2, x3, x4, x5, x6, ⟨x7, x8, x9, x10, x11, x12⟩⟩ := e
  unfold Ef.cells at kO hux ⊢
  simp only at kO hux hk1 hk2 ⊢
  have g1 : (x0 == 8) = false := beq_eq_false_iff_ne.2 hk1
  have g2 : (x0 == 1) = false := beq_eq_false_iff_ne.2 hk2
  replace kO := Lib.hid kO
  replace hux := Lib.hid hux
  go_enter Try.func72, Try.ntmps72
  go_wp2_with (go_at_call 94; refine kO.out.mono ?_; rintro e w4 ⟨rfl, hr, hu4⟩)
  go_ret
  exact ⟨rfl, hr, hux.out.trans hu4 (fun _ _ t => t)⟩

/-- Objects behind effects on rows. -/
def datAt (o : Ob) (T : List Ef) : Dat := (o.name, o.kind, o.limit, T.foldl (tab1 o.name) o.rows, o.msgs, o.dead)
/-- Each effect may be done where it stands. -/
structure CanDo (L : List Ob) (T : List Ef) : Prop where
  right : ∀ e ∈ T, rightE e = true
  key : ∀ e ∈ T, e.key.size ≤ 140737488351232
  at_ : ∀ j (hj : j < T.length), ∃ i, ∃ hi : i < L.length, L[i].name = T[j].obj ∧ L[i].kind = 1 ∧ (T[j].kind = 2 ∨ (T[j].kind = 3 ∧ hit ((T.take j).foldl (tab1 L[i].name) L[i].rows) T[j].key = true))
/-- No two objects are called alike. -/
def Apart (L : List Ob) : Prop := ∀ i j (hi : i < L.length) (hj : j < L.length), L[i].name = L[j].name → i = j
theorem tab1_other {n : ByteArray} {R : List Row} {e : Ef} (h : ¬ e.obj = n) : tab1 n R e = R := by
  unfold tab1
  rw [if_neg h]
theorem dat_name {a : Ob} {o : Ob} {T : List Ef} (h : a.dat = datAt o T) : a.name = o.name ∧ a.kind = o.kind ∧ a.limit = o.limit ∧ a.rows = T.foldl (tab1 o.name) o.rows ∧ a.msgs = o.msgs ∧ a.dead = o.dead := by
  unfold Ob.dat datAt at h
  injection h with h1 h
  injection h with h2 h
  injection h with h3 h
  injection h with h4 h
  injection h with h5 h6
  exact ⟨h1, h2, h3, h4, h5, h6⟩
theorem idx_name {L N : List Ob} {T : List Ef} (hl : N.length = L.length) (hd : ∀ x (h1 : x < N.length) (h2 : x < L.length), N[x].dat = datAt L[x] T) (hA : Apart L) {i : Nat} (hi : i < L.length) {n : ByteArray} (hn : L[i].name = n) : idxA (isO n) N = i := by
  refine idxA_at (by omega) ?_ (fun j hj hji => ?_)
  · unfold isO
    rw [(dat_name (hd i (by omega) hi)).1, hn]
    exact decide_eq_true rfl
  · unfold isO
    rw [(dat_name (hd j hj (by omega))).1]
    refine decide_eq_false fun e => ?_
    have := hA j i (by omega) hi (e.trans hn.symm)
    omega
theorem step_dat {L N : List Ob} {T : List Ef} {j : Nat} (hj : j < T.length) (hl : N.length = L.length) (hd : ∀ x (h1 : x < N.length) (h2 : x < L.length), N[x].dat = datAt L[x] (T.take j)) (hA : Apart L) {i : Nat} (hi : i < L.length) (hn : L[i].name = T[j].obj) (hi2 : i < N.length) (r : Value) :
    ∀ x (h1 : x < (N.set i (N[i].rowed r (tab1 T[j].obj N[i].rows T[j]))).length) (h2 : x < L.length), (N.set i (N[i].rowed r (tab1 T[j].obj N[i].rows T[j])))[x].dat = datAt L[x] (T.take (j + 1)) := by
  intro x h1 h2
  rw [List.getElem_set]
  obtain ⟨d1, d2, d3, d4, d5, d6⟩ := dat_name (hd x (by rw [List.length_set] at h1; exact h1) h2)
  by_cases e : i = x
  · subst e
    rw [if_pos rfl, dat_rowed]
    unfold datAt
    rw [tabs_take hj, d1, d2, d3, d4, d5, d6, hn]
  · rw [if_neg e]
    unfold datAt Ob.dat
    rw [tabs_take hj, tab1_other (fun h => e (hA i x hi h2 (hn.trans h))), d1, d2, d3, d4, d5, d6]

set_option maxRecDepth 100000 in
set_option maxHeartbeats 8000000 in
theorem apply_any (w : World) (next : Int) (v : Value) (L : List Ob) (tv : Value) (T : List Ef) (hL : VObs w v L) (hT : VEfs w tv T) (hm : L.length ≤ 1000) (hf : ∀ o ∈ L, o.few) (hoB : ∀ o ∈ L, RowsOk o.rows) (hnm : ∀ o ∈ L, o.name.size ≤ 140737488351232) (hR : rightSB next L = true) (hA : Apart L) (hC : CanDo L T) (hTl : T.length ≤ 1000) :
    Calls Try.prog 30 #[.agg #[.int .i64 next, v], tv] w fun e w' => ∃ v' N, e = .returned (.tuple #[.agg #[.int .i64 next, v'], .int .i64 0]) ∧ OObs w' w.heap.size v' N ∧ N.length = L.length ∧ (∀ x (h1 : x < N.length) (h2 : x < L.length), N[x].dat = datAt L[x] T) ∧ Below w.heap.size w w' := by
  obtain ⟨A, cap, rfl, hc, _⟩ := hL.view.cells
  obtain ⟨A2, cap2, rfl, hc2, _⟩ := hT.cells
  have hbx := (Whole.new w 45 #[.int .i64 next, .slice A L.length cap]).alloc (.cells #[.int .i64 0, .slice none 0 0] 45)
  have hbr := Whole.new (w.alloc (.cells #[.int .i64 next, .slice A L.length cap] 45)) 45 #[.int .i64 0, .slice none 0 0]
  rw [show (w.alloc (.cells #[.int .i64 next, .slice A L.length cap] 45)).heap.size = w.heap.size + 1 by simp] at hbr
  have hb0 : Below w.heap.size w ((w.alloc (.cells #[.int .i64 next, .slice A L.length cap] 45)).alloc (.cells #[.int .i64 0, .slice none 0 0] 45)) := by (refine upd_to_below ?_; repeat (first | exact Upd.refl _ _ | refine Upd.setCell ?_ (Or.inl (by simp)) _ | refine Upd.alloc ?_ _ | refine Upd.drewN ?_ _ | refine Upd.drew ?_))
  have kR := rightState_any _ next _ L (hL.below hb0) hm hf hoB hnm
  rw [hR] at kR
  replace kR := Lib.hid kR
  replace hbx := Lib.hid hbx
  replace hbr := Lib.hid hbr
  replace hb0 := Lib.hid hb0
  replace hL := Lib.hid hL
  replace hT := Lib.hid hT
  replace hf := Lib.hid hf
  replace hoB := Lib.hid hoB
  replace hA := Lib.hid hA
  replace hC := Lib.hid hC
  clear hnm hR
  go_enter Try.func30, Try.ntmps30
  go_wp2_with fail
  refine kR.out.mono ?_; rintro e w2 ⟨rfl, hb2⟩
  have hbx2 := Lib.hid (hbx.out.below hb2)
  have hbr2 := Lib.hid (hbr.out.below hb2)
  have hB2 := Lib.hid (hb0.out.trans (hb2.mono hb0.out.size))
  have d0 := hbx2.out.cell 0
  have d1 := hbx2.out.cell 1
  have dl := hbx2.out.lt
  have kC := Lib.hid (copyS_any w2 next _ L (hL.out.below hB2.out) hm hf.out)
  clear kR hbx hbr hb0 hb2
  go_wp2_with fail
  refine kC.out.mono ?_; rintro e w3 ⟨v3, N, rfl, hN3, hNd, hb3⟩
  have hNl : N.length = L.length := by have := congrArg List.length hNd; simpa using this
  have hd3 : ∀ x (h1 : x < N.length) (h2 : x < L.length), N[x].dat = datAt L[x] (T.take 0) := fun x h1 h2 => by
    have h5 : (N.map Ob.dat)[x]? = (L.map Ob.dat)[x]? := by rw [hNd]
    simp [h1, h2] at h5
    exact h5
  have hal : Below w3.heap.size w3 (w3.alloc (.cells #[.int .i64 next, v3] 45)) := (Below.refl _ _).alloc (Nat.le_refl _) _
  have hn4 := Lib.hid (Whole.new w3 45 #[.int .i64 next, v3])
  have hN4 := Lib.hid (hN3.below hal)
  have hb34 := below_then hb3 hal
  have hr4 := Lib.hid (hbr2.out.below hb34)
  have hB4 := Lib.hid (hB2.out.trans (hb34.mono hB2.out.size))
  have hpB : w.heap.size + 1 < w2.heap.size := hbr2.out.lt
  have hBw4 : w2.heap.size ≤ (w3.alloc (.cells #[.int .i64 next, v3] 45)).heap.size := hb34.size
  have hpn : w2.heap.size ≤ w3.heap.size := hb3.size
  obtain ⟨Av, cv, ev, _, _, _⟩ := own_shape hN3.arr
  subst ev
  replace hd3 := Lib.hid hd3
  replace hNl := Lib.hid hNl
  clear hN3 hNd hb3 hal hb34 hbr2 hB2 hbx2 kC d0 d1 dl
  go_upto_region 5 with fail
  generalize w3.alloc (.cells #[.int .i64 next, .slice Av N.length cv] 45) = w4 at *
  generalize w3.heap.size = pn at *
  go_loopw [7] (fun j W => ∃ (m : Nat) (M : List Ob), m ≤ T.length ∧ j = .int .i64 m ∧ OObs W w2.heap.size (.slice Av N.length cv) M ∧ M.length = L.length ∧ (∀ x (h1 : x < M.length) (h2 : x < L.length), M[x].dat = datAt L[x] (T.take m)) ∧ Whole W pn 45 #[.int .i64 next, .slice Av N.length cv] ∧ Whole W (w.heap.size + 1) 45 #[.int .i64 0, .slice none 0 0] ∧ Below w.heap.size w W) (fun j _ => T.length - (intOf j).toNat)
  case atStart => exact ⟨0, N, by omega, rfl, hN4.out, hNl.out, hd3.out, hn4.out, hr4.out, hB4.out⟩
  case round =>
    clear hN4 hd3 hn4 hr4 hB4 hBw4
    obtain ⟨m, M, hmT, rfl, hM, hMl, hMd, hn, hr, hB⟩ := hrel
    by_cases hlt : m < T.length
    · have q1 : (m : Int) < (T.length : Int) := by omega
      obtain ⟨b, off, cap', e, _, _, hblw, f⟩ := efs_at hT.out (by omega)
      injection e with e1 e2 e3
      subst e1 e3
      have hcb := fun {o : Nat} {v : Value} (h : w.cell? ⟨b, o, none⟩ = some v) => (hB.cell (p := ⟨b, o, none⟩) hblw).trans h
      obtain ⟨p0, p1, p2, p3, p4, p5, p6, p7, p8, p9, p10, p11, p12⟩ := f m hlt
      replace p0 := hcb p0; replace p1 := hcb p1; replace p2 := hcb p2; replace p3 := hcb p3; replace p4 := hcb p4; replace p5 := hcb p5; replace p6 := hcb p6; replace p7 := hcb p7; replace p8 := hcb p8; replace p9 := hcb p9; replace p10 := hcb p10; replace p11 := hcb p11; replace p12 := hcb p12
      have hbl : b < wr.heap.size := Nat.lt_of_lt_of_le hblw hB.size
      clear hcb f
      obtain ⟨i, hi, hin, hik, hikk⟩ := hC.out.at_ m hlt
      have hri := hC.out.right _ (List.getElem_mem hlt)
      have hky := hC.out.key _ (List.getElem_mem hlt)
      have hiM : i < M.length := by omega
      have hix := idx_name hMl hMd hA.out hi hin
      obtain ⟨d1, d2, d3, d4, d5, d6⟩ := dat_name (hMd i hiM hi)
      rw [← d4] at hikk
      have hstep := step_dat hlt hMl hMd hA.out hi hin hiM
      have hrl : M[i].rows.length ≤ 900000 := by
        rw [d4]
        have h1 := tabs_len L[i].name L[i].rows (T.take m)
        have h2 := (hf.out _ (List.getElem_mem hi)).1
        rw [List.length_take] at h1
        omega
      have hro : RowsOk M[i].rows := by
        rw [d4]
        exact tabs_ok _ (hoB.out _ (List.getElem_mem hi)) (fun e he => hC.out.key e (List.mem_of_mem_take he))
      have hkd : M[i].kind = 1 := d2.trans hik
      have kE := rightE_any wr T[m]
      rw [hri] at kE
      obtain ⟨g, cg, ev, _, _, hBg, hgl⟩ := own_some hM.arr (by omega)
      injection ev with ev1 ev2 ev3
      have hNM : N.length = M.length := by omega
      have kO := fun (W : World) (h : Below wr.heap.size wr W) => one_any W pn next w2.heap.size g cv M i T[m] (by rw [← hNM, ← ev1]; exact hn.below h) (by have := hM.below h; rw [ev1, hNM] at this; exact this) (by have := hM.arr; have h1 := h.size; omega) hiM hix hkd hikk hrl hro hky (by omega)
      have hngp : pn ≠ g := fun e => own_ne_whole hM.arr hn (by decide) (by rw [ev1, e]; rfl)
      have hcells : T[m].cells.toArray = #[.int .i64 T[m].kind, .string T[m].obj, .string T[m].key, .string T[m].val, .int .i64 T[m].n, .int .i64 T[m].limit, .bool T[m].tried, .int .i64 T[m].msg.id, .int .i64 T[m].msg.pri, .int .i64 T[m].msg.retry, .bool T[m].msg.claimed, .string T[m].msg.corr, .string T[m].msg.body] := rfl
      rw [hcells] at kE
      simp only [hcells] at kO
      generalize tab1 T[m].obj M[i].rows T[m] = R9 at *
      generalize T[m] = x at *
      replace kE := Lib.hid kE
      replace kO := Lib.hid kO
      replace hM := Lib.hid hM
      replace hn := Lib.hid hn
      replace hr := Lib.hid hr
      replace hB := Lib.hid hB
      replace hstep := Lib.hid hstep
      replace hMd := Lib.hid hMd
      replace hMl := Lib.hid hMl
      replace hNM := Lib.hid hNM
      replace ev1 := Lib.hid ev1
      replace hix := Lib.hid hix
      clear hcells hikk d1 d2 d3 d4 d5 d6 hin hik hri hro hkd ev2 ev3
      go_wp2_with fail
      refine kE.out.mono ?_; rintro e w5 ⟨rfl, hb5⟩
      have hcb := fun {o : Nat} {v : Value} (h : wr.cell? ⟨b, o, none⟩ = some v) => (hb5.cell (p := ⟨b, o, none⟩) hbl).trans h
      replace p0 := hcb p0; replace p1 := hcb p1; replace p2 := hcb p2; replace p3 := hcb p3; replace p4 := hcb p4; replace p5 := hcb p5; replace p6 := hcb p6; replace p7 := hcb p7; replace p8 := hcb p8; replace p9 := hcb p9; replace p10 := hcb p10; replace p11 := hcb p11; replace p12 := hcb p12
      have hbl5 := Nat.lt_of_lt_of_le hbl hb5.size
      have kO5 := Lib.hid (kO.out w5 hb5)
      have hn5 := Lib.hid (hn.out.below hb5)
      have hr5 := Lib.hid (hr.out.below hb5)
      have hB5 := Lib.hid (hB.out.trans (hb5.mono hB.out.size))
      clear hcb kE kO hn hr hB hb5
      go_wp2_with fail
      refine kO5.out.mono ?_; rintro e w6 ⟨rfl, ⟨r6, hM6⟩, hu6⟩
      have hn6 := hn5.out.upd hu6 hngp
      have hr6 := hr5.out.upd hu6 (by omega)
      have hB6 := hB5.out.trans (hu6.below hB5.out.size (fun b e => by omega))
      have hM6' : OObs w6 w2.heap.size (.slice Av N.length cv) (M.set i (M[i].rowed r6 R9)) := by rw [ev1.out, hNM.out]; exact hM6
      have hd6 := hstep.out r6
      have hl6 : (M.set i (M[i].rowed r6 R9)).length = L.length := by rw [List.length_set]; exact hMl.out
      replace hM6' := Lib.hid hM6'
      replace hd6 := Lib.hid hd6
      replace hl6 := Lib.hid hl6
      replace hn6 := Lib.hid hn6
      replace hr6 := Lib.hid hr6
      replace hB6 := Lib.hid hB6
      clear hM6 hu6 hstep kO5
      go_wp2_with fail
      go_roundw
      case rel => exact ⟨m + 1, _, by omega, by go_num, hM6'.out, hl6.out, hd6.out, hn6.out, hr6.out, hB6.out⟩
      case measure => simp [intOf]; omega
    · have hm3 : m = T.length := by omega
      subst hm3
      rw [List.take_length] at hMd
      have q1 : ¬ (T.length : Int) < (T.length : Int) := by omega
      have n0 := hn.cell 0
      have n1 := hn.cell 1
      have nl := hn.lt
      have y0 := hr.cell 0
      have y1 := hr.cell 1
      have g0 := hr.frozen 0
      have g1 := hr.frozen 1
      have yl := hr.lt
      replace hM := Lib.hid hM
      replace hMd := Lib.hid hMd
      replace hMl := Lib.hid hMl
      replace hn := Lib.hid hn
      replace hr := Lib.hid hr
      replace hB := Lib.hid hB
      go_wp2_with fail
      have hu : Upd (fun b => b = w.heap.size + 1) wr ((wr.setCell ⟨w.heap.size + 1, 0, none⟩ (.int .i64 next)).setCell ⟨w.heap.size + 1, 1, none⟩ (.slice Av N.length cv)) :=
        ((Upd.refl (fun b => b = w.heap.size + 1) wr).setCell (p := ⟨w.heap.size + 1, 0, none⟩) (.inr rfl) _).setCell (p := ⟨w.heap.size + 1, 1, none⟩) (.inr rfl) _
      have hr5 : Whole ((wr.setCell ⟨w.heap.size + 1, 0, none⟩ (.int .i64 next)).setCell ⟨w.heap.size + 1, 1, none⟩ (.slice Av N.length cv)) (w.heap.size + 1) 45 #[.int .i64 next, .slice Av N.length cv] := (hr.out.set 0 _).set 1 _
      have hM5 := (hM.out.upd hu (fun b e => by omega)).mono (show w.heap.size ≤ w2.heap.size by omega)
      have hB5 := hB.out.trans (hu.below hB.out.size (fun b e => by omega))
      exact bodyPost_ret (results_cell_tmp_row rfl _ _ (w.heap.size + 1) _ _ _ _ rfl hr5 Try.underlying45 rfl (by kernel_rfl) _ rfl) rfl ⟨_, rfl, M, hM5, hMl.out, hMd.out, hB5⟩
end Go.Proofs.Ytegomkgfmaclkaa
