/-
  DeadOthers: its walk.
-/
import Derived.Test.YtbckobclicogiaaPa
import Derived.Test.YtbckobclicogiaaNi
set_option linter.unusedVariables false
set_option linter.unusedSimpArgs false
namespace Go.Proofs.Ytbckobclicogiaa
open Go.RowKit Go.Proofs.PosteMem Go.Proofs.PosteOpen
attribute [local go_sem ↓] Go.wp_at_zero Go.wp_at_succ

set_option maxRecDepth 100000 in
set_option maxHeartbeats 8000000 in
theorem others_core (w : World) (o : Ob) (r m d : Value) (id : Int) (tried : Bool) (h : VOb w o r m d) :
    Calls Try.prog 5 #[.agg (o.cells r m d), .int .i64 id, .bool tried] w fun e w' => e = .returned (.bool true) ∧ Below w.heap.size w w' := by
  obtain ⟨Ar, cr, hr, _⟩ := h.rows.cells
  obtain ⟨Am, cm, hm, _⟩ := h.msgs.cells
  obtain ⟨Ad, cd, hd, _⟩ := h.dead.cells
  subst hr hm hd
  have hbx := Whole.new w 25 (o.cells (.slice Ar o.rows.length cr) (.slice Am o.msgs.length cm) (.slice Ad o.dead.length cd))
  by_cases h2 : 40 < o.msgs.length
  · have g2 : (40 : Int) < (o.msgs.length : Int) := by omega
    replace h := Lib.hid h
    obtain ⟨name, kind, limit, R, M, D⟩ := o
    unfold Ob.cells at *
    simp only at g2 hbx ⊢
    go_enter Try.func5, Try.ntmps5
    go_wp2_with fail
    refine (alive16 _).mono ?_; rintro e w1 ⟨rfl, hb1⟩
    have c4 := (hbx.below hb1).cell 4
    go_wp2
    go_ret
    exact ⟨rfl, below_then ((Below.refl w.heap.size w).alloc (Nat.le_refl _) _) hb1⟩
  have g2 : ¬ (40 : Int) < (o.msgs.length : Int) := by omega
  by_cases h3 : 40 < o.dead.length
  · have g3 : (40 : Int) < (o.dead.length : Int) := by omega
    replace h := Lib.hid h
    obtain ⟨name, kind, limit, R, M, D⟩ := o
    unfold Ob.cells at *
    simp only at g2 g3 hbx ⊢
    go_enter Try.func5, Try.ntmps5
    go_wp2_with fail
    refine (alive16 _).mono ?_; rintro e w1 ⟨rfl, hb1⟩
    have c4 := (hbx.below hb1).cell 4
    have c5 := (hbx.below hb1).cell 5
    go_wp2
    go_ret
    exact ⟨rfl, below_then ((Below.refl w.heap.size w).alloc (Nat.le_refl _) _) hb1⟩
  have g3 : ¬ (40 : Int) < (o.dead.length : Int) := by omega
  by_cases h1 : 40 < o.rows.length
  · have g1 : (40 : Int) < (o.rows.length : Int) := by omega
    replace h := Lib.hid h
    obtain ⟨name, kind, limit, R, M, D⟩ := o
    unfold Ob.cells at *
    simp only at g1 g2 g3 hbx ⊢
    go_enter Try.func5, Try.ntmps5
    go_wp2_with fail
    refine (alive16 _).mono ?_; rintro e w1 ⟨rfl, hb1⟩
    have c3 := (hbx.below hb1).cell 3
    have c4 := (hbx.below hb1).cell 4
    have c5 := (hbx.below hb1).cell 5
    go_wp2
    go_ret
    exact ⟨rfl, below_then ((Below.refl w.heap.size w).alloc (Nat.le_refl _) _) hb1⟩
  have g1 : ¬ (40 : Int) < (o.rows.length : Int) := by omega
  have hs : o.small := by unfold Ob.small; omega
  have kF := Lib.hid (fun W (hb : Below w.heap.size w W) => free_any W o _ _ _ id tried (VOb.below h hb) hs)
  have kR := Lib.hid (fun W (hb : Below w.heap.size w W) => rises_any W _ o.msgs (View.below h.msgs hb) (by omega))
  have kO := Lib.hid (fun (ho : Once o.msgs) => freeR_ok (o := o) (id := id) (tried := tried) ho)
  have kV := Lib.hid (fun W (hb : Below w.heap.size w W) => VOb.below h hb)
  have hs' := Lib.hid hs
  clear h h1 h2 h3 hs
  generalize freeR o id tried = res at *
  obtain ⟨name, kind, limit, R, M, D⟩ := o
  unfold FreePost at *
  unfold Ob.cells at kF hbx ⊢
  simp only at *
  go_enter Try.func5, Try.ntmps5
  go_wp2_with fail
  refine (alive16 _).mono ?_; rintro e w1 ⟨rfl, hb1⟩
  have x1 := hbx.below hb1
  have hacc := below_then ((Below.refl w.heap.size w).alloc (Nat.le_refl _) _) hb1
  have c3 := x1.cell 3
  have c4 := x1.cell 4
  have c5 := x1.cell 5
  go_wp2_with fail
  refine (kR.out _ hacc).mono ?_; rintro e w2 ⟨⟨b, rfl, honce⟩, hb2⟩
  replace x1 := x1.below hb2
  replace hacc := below_then hacc hb2
  clear c3 c4 c5 hb1 hbx hb2 kR
  cases b with
  | false =>
    clear honce
    go_wp2_with fail
    go_ret
    exact ⟨rfl, hacc⟩
  | true =>
    have hres := kO.out (honce rfl)
    replace hres := Lib.hid hres
    clear honce kO
    have c0 := x1.cell 0
    have c1 := x1.cell 1
    have c2 := x1.cell 2
    have c3 := x1.cell 3
    have c4 := x1.cell 4
    have c5 := x1.cell 5
    go_wp2_with fail
    refine (kF.out _ hacc).mono ?_; rintro e w3 ⟨r1, m1, d1, rfl, ho1, hb3⟩
    rcases hres.out with e | ⟨x, e, f, hO⟩
    · subst e
      replace ho1 : OOb w3 w2.heap.size ⟨name, kind, limit, R, M, D⟩ r1 m1 d1 := ho1
      simp only
      obtain ⟨A1, n1, rfl, _, _, _⟩ := own_shape ho1.rows
      obtain ⟨A2, n2, rfl, _, _, _⟩ := own_shape ho1.msgs
      obtain ⟨A3, n3, rfl, _, _, _⟩ := own_shape ho1.dead
      simp only at ho1 ⊢
      have y1 : Whole (w3.alloc (.cells #[.string name, .int .i64 kind, .int .i64 limit, .slice A1 R.length n1, .slice A2 M.length n2, .slice A3 D.length n3] 25)) w3.heap.size 25 #[.string name, .int .i64 kind, .int .i64 limit, .slice A1 R.length n1, .slice A2 M.length n2, .slice A3 D.length n3] := Whole.new w3 _ _
      have hal := (Below.refl w3.heap.size w3).alloc (Nat.le_refl _) (.cells #[.string name, .int .i64 kind, .int .i64 limit, .slice A1 R.length n1, .slice A2 M.length n2, .slice A3 D.length n3] 25)
      have x3 := (x1.below hb3).below hal
      have hacc3 := below_then (below_then hacc hb3) hal
      have kS := Lib.hid (same_object _ _ _ _ _ _ _ _ (ho1.view.below hal) (kV.out _ hacc3) hs'.out)
      unfold Ob.cells at kS
      simp only at kS
      clear x1 c0 c1 c2 c3 c4 c5 hb3 ho1 hal kF kV hs' hacc hres
      have c0 := x3.cell 0
      have c1 := x3.cell 1
      have c2 := x3.cell 2
      have c3 := x3.cell 3
      have c4 := x3.cell 4
      have c5 := x3.cell 5
      replace hacc3 := Lib.hid hacc3
      go_upto_region 5 with fail
      generalize (w3.alloc (.cells #[.string name, .int .i64 kind, .int .i64 limit, .slice A1 R.length n1, .slice A2 M.length n2, .slice A3 D.length n3] 25)) = W at *
      generalize w3.heap.size = b1 at *
      have y0' := y1.cell 0
      have y1' := y1.cell 1
      have y2' := y1.cell 2
      have y3' := y1.cell 3
      have y4' := y1.cell 4
      have y5' := y1.cell 5
      go_wp2_with fail
      refine (kS.out).mono ?_; rintro e wS ⟨rfl, hbS⟩
      go_wp2_with fail
      go_ret
      exact ⟨rfl, below_then hacc3.out hbS⟩
    · subst e
      obtain ⟨name', kind', limit', R', N, E⟩ := x
      replace ho1 : OOb w3 w2.heap.size ⟨name', kind', limit', R', N, E⟩ r1 m1 d1 := ho1
      replace hO : Others M N D E id f := hO
      simp only
      obtain ⟨A1, n1, rfl, _, _, _⟩ := own_shape ho1.rows
      obtain ⟨A2, n2, rfl, _, _, _⟩ := own_shape ho1.msgs
      obtain ⟨A3, n3, rfl, _, _, _⟩ := own_shape ho1.dead
      simp only at ho1 ⊢
      have y1 : Whole (w3.alloc (.cells #[.string name', .int .i64 kind', .int .i64 limit', .slice A1 R'.length n1, .slice A2 N.length n2, .slice A3 E.length n3] 25)) w3.heap.size 25 #[.string name', .int .i64 kind', .int .i64 limit', .slice A1 R'.length n1, .slice A2 N.length n2, .slice A3 E.length n3] := Whole.new w3 _ _
      have hal := (Below.refl w3.heap.size w3).alloc (Nat.le_refl _) (.cells #[.string name', .int .i64 kind', .int .i64 limit', .slice A1 R'.length n1, .slice A2 N.length n2, .slice A3 E.length n3] 25)
      have x3 := (x1.below hb3).below hal
      have hacc3 := below_then (below_then hacc hb3) hal
      have vN : VMsgs _ (.slice A2 N.length n2) N := (ho1.view.below hal).msgs
      have vE : VMsgs _ (.slice A3 E.length n3) E := (ho1.view.below hal).dead
      have vM : VMsgs _ (.slice Am M.length cm) M := (kV.out _ hacc3).msgs
      have vD : VMsgs _ (.slice Ad D.length cd) D := (kV.out _ hacc3).dead
      clear x1 c0 c1 c2 c3 c4 c5 hb3 ho1 hal kF kV hs' hacc hres
      replace hacc3 := Lib.hid hacc3
      go_upto_region 5 with fail
      generalize (w3.alloc (.cells #[.string name', .int .i64 kind', .int .i64 limit', .slice A1 R'.length n1, .slice A2 N.length n2, .slice A3 E.length n3] 25)) = W at *
      generalize w3.heap.size = b1 at *
      have c4 := x3.cell 4
      have c5 := x3.cell 5
      have y4 := y1.cell 4
      have y5 := y1.cell 5
      have hsum := hO.sum
      have hNl : N.length ≤ 80 := by omega
      have hEl : E.length ≤ 80 := by omega
      have hz := hO.zero
      replace vN := Lib.hid vN
      replace vE := Lib.hid vE
      replace vM := Lib.hid vM
      replace vD := Lib.hid vD
      replace hO := Lib.hid hO
      clear x3 y1
      go_upto_region 9 with fail
      go_loopw [10, 11] (fun kk ii wr => ∃ i : Nat, i ≤ M.length ∧ ii = .int .i64 i ∧ kk = .int .i64 (f i : Nat) ∧ ∃ q, wr = W.drewN q) (fun _ ii _ => M.length - (intOf ii).toNat)
      case atStart => exact ⟨0, by omega, rfl, by rw [hz]; rfl, 0, rfl⟩
      case round =>
        obtain ⟨i, hi, rfl, rfl, q, rfl⟩ := hrel
        by_cases hlt : i < M.length
        · have q1 : (i : Int) < (M.length : Int) := by omega
          obtain ⟨b, off, cap', e, _, _, hbl, fM⟩ := msgs_at vM.out (by omega)
          injection e with e1 e2 e3
          subst e1 e3
          obtain ⟨p0, p1, p2, p3, p4, p5⟩ := fM i hlt
          clear fM
          have ht := hO.out.turn i hlt
          generalize hk' : f (i + 1) = k' at ht
          generalize f i = k at *
          replace hk' := Lib.hid hk'
          rcases ht with ⟨_, hk, he, hn, h'⟩ | ⟨_, hk, h1, h2, h'⟩ | ⟨_, hk, h1, h2, h'⟩ | ⟨_, hk, h1, h'⟩
          · obtain ⟨g, og, cap2, e, _, _, hgl, fN⟩ := msgs_at vN.out (by omega)
            injection e with e1 e2 e3
            subst e1 e3
            obtain ⟨r0, r1, r2, r3, r4, r5⟩ := fN k hk
            rw [he] at r0 r1 r2 r3 r4 r5
            clear fN he
            have hne : (M[i].id == id) = false := beq_eq_false_iff_ne.2 hn
            have q2 : (k : Int) < (N.length : Int) := by omega
            have q3 : decide ((N.length : Int) ≤ (k : Int)) = false := decide_eq_false (by omega)
            generalize M[i] = x at *
            go_wp2_with fail
            go_quiet (fail)
            go_wp2_with fail
            go_roundw
            case rel => exact ⟨i + 1, by omega, by go_num, by rw [hk'.out, h']; go_num, _, rfl⟩
            case measure => simp [intOf]; omega
          · obtain ⟨g, og, cap2, e, _, _, hgl, fN⟩ := msgs_at vN.out (by omega)
            injection e with e1 e2 e3
            subst e1 e3
            obtain ⟨r0, r1, r2, r3, r4, r5⟩ := fN k hk
            clear fN r1 r2 r3 r4 r5 p1 p2 p3 p4 p5
            rw [h2] at r0
            rw [h1] at p0
            have q2 : (k : Int) < (N.length : Int) := by omega
            go_wp2_with fail
            go_roundw
            case rel => exact ⟨i + 1, by omega, by go_num, by rw [hk'.out, h']; go_num, _, rfl⟩
            case measure => simp [intOf]; omega
          · obtain ⟨g, og, cap2, e, _, _, hgl, fN⟩ := msgs_at vN.out (by omega)
            injection e with e1 e2 e3
            subst e1 e3
            obtain ⟨r0, r1, r2, r3, r4, r5⟩ := fN k hk
            have hne : (N[k].id == id) = false := beq_eq_false_iff_ne.2 h2
            clear fN r1 r2 r3 r4 r5 p1 p2 p3 p4 p5
            rw [h1] at p0
            generalize N[k].id = x at *
            have q2 : (k : Int) < (N.length : Int) := by omega
            go_wp2_with fail
            go_roundw
            case rel => exact ⟨i + 1, by omega, by go_num, by rw [hk'.out, h'], _, rfl⟩
            case measure => simp [intOf]; omega
          · clear p1 p2 p3 p4 p5
            rw [h1] at p0
            have q2 : ¬ (k : Int) < (N.length : Int) := by omega
            go_wp2_with fail
            go_roundw
            case rel => exact ⟨i + 1, by omega, by go_num, by rw [hk'.out, h'], _, rfl⟩
            case measure => simp [intOf]; omega
        · have q1 : ¬ (i : Int) < (M.length : Int) := by omega
          have hi' : i = M.length := by omega
          subst hi'
          rw [hO.out.last]
          go_upto_region 18 with fail
          clear hi hz hlt q1
          go_loopw [12] (fun ii wr => ∃ i : Nat, i ≤ D.length ∧ ii = .int .i64 i ∧ ∃ q, wr = W.drewN q) (fun ii _ => D.length - (intOf ii).toNat)
          case atStart => exact ⟨0, by omega, rfl, _, rfl⟩
          case round =>
            obtain ⟨i, hi, rfl, q, rfl⟩ := hrel
            by_cases hlt : i < D.length
            · have q1 : (i : Int) < (D.length : Int) := by omega
              obtain ⟨hE, he⟩ := hO.out.dead i hlt
              obtain ⟨b, off, cap', e, _, _, hbl, fD⟩ := msgs_at vD.out (by omega)
              injection e with e1 e2 e3
              subst e1 e3
              obtain ⟨p0, p1, p2, p3, p4, p5⟩ := fD i hlt
              obtain ⟨g, og, cap2, e, _, _, hgl, fE⟩ := msgs_at vE.out (by omega)
              injection e with e1 e2 e3
              subst e1 e3
              obtain ⟨r0, r1, r2, r3, r4, r5⟩ := fE i hE
              rw [he] at r0 r1 r2 r3 r4 r5
              clear fD fE he
              have q2 : (i : Int) < (E.length : Int) := by omega
              have q3 : decide ((E.length : Int) ≤ (i : Int)) = false := decide_eq_false (by omega)
              generalize D[i] = x at *
              go_wp2_with fail
              go_quiet (fail)
              go_wp2_with fail
              go_roundw
              case rel => exact ⟨i + 1, by omega, by go_num, _, rfl⟩
              case measure => simp [intOf]; omega
            · have q1 : ¬ (i : Int) < (D.length : Int) := by omega
              go_wp2_with fail
              go_ret
              exact ⟨ret_bool (by rw [beq_iff_eq]; omega), below_dn _ hacc3.out⟩

theorem deadOthers_walk (W : World) (cs : Array Value) (x : KOb.T) (z : Rd Try.prog W KOb (Value.agg cs).cells.toList x) (id : Int) (_ : (Lit.int .i64 id).wf = true) (tried : Bool) :
    Calls Try.prog 5 #[.agg cs, .int .i64 id, .bool tried] W fun e w' => e = .returned (.bool true) ∧ Below W.heap.size W w' := by
  obtain ⟨o, r, m, d, e, h⟩ := ob_of_rd z
  rw [e]
  exact others_core W o r m d id tried h
end Go.Proofs.Ytbckobclicogiaa
