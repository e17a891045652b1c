/-
  SectorsPlay: its walk.
-/
import Derived.Test.YtbfcaapompkjhaaEf
set_option linter.unusedVariables false
set_option linter.unusedSimpArgs false
namespace Go.Proofs.Ytbfcaapompkjhaa
open Go.RowKit Go.Proofs.PosteMem Go.Proofs.PosteOpen
attribute [local go_sem ↓] Go.wp_at_zero Go.wp_at_succ

theorem Keeps.whole {C : Nat → Prop} {W W' : World} {g : Nat} {t : TypeId} {cs : Array Value} (k : Keeps C W W') (h : Whole W g t cs) (hC : C g) : Whole W' g t cs := by
  obtain ⟨S, h1, h2⟩ := k
  exact h.upd h1 (h2 g hC)
theorem ActAt.below {W W' : World} {b o : Nat} {x : ActT} {Ak : Option Addr} {ck : Nat} (h : ActAt W b o x Ak ck) (hb : b < W.heap.size) (k : Below W.heap.size W W') : ActAt W' b o x Ak ck :=
  ⟨(k.cell (p := ⟨b, _, none⟩) hb).trans h.c0, (k.cell (p := ⟨b, _, none⟩) hb).trans h.c1, (k.cell (p := ⟨b, _, none⟩) hb).trans h.c2, (k.cell (p := ⟨b, _, none⟩) hb).trans h.c3, (k.cell (p := ⟨b, _, none⟩) hb).trans h.c4, (k.cell (p := ⟨b, _, none⟩) hb).trans h.c5, View.below h.keep k, h.n_lt⟩
theorem infoBool : (Try.prog.info? 4).map (fun i => (i.zero, i.size, i.bytes)) = some (some (.bool false), 1, 1) := by kernel_rfl
theorem bool_one (bs : List Bool) : ∀ u ∈ bs.map Value.bool, u.oneCell' = true := by
  intro u hu
  obtain ⟨x, _, rfl⟩ := List.mem_map.1 hu
  rfl
theorem fill_some (w : World) (c : Int) (bad : Bool) : Calls Try.prog 18 #[.int .u8 c, .bool bad] w fun e w' => ∃ g cap, e = .returned (.slice (some ⟨g, 0, none⟩) (if bad then 63 else 64) cap) ∧ OB w' w.heap.size (.slice (some ⟨g, 0, none⟩) (if bad then 63 else 64) cap) (fillL (if bad then 63 else 64) c) ∧ Below w.heap.size w w' ∧ w.heap.size ≤ g ∧ g < w'.heap.size :=
  (fill_any w c bad).mono fun e w' ⟨v, he, ho, hb⟩ => by
    have ho2 := ho
    unfold OB at ho
    rw [fillL_len] at ho
    obtain ⟨g, cap, rfl, _⟩ := own_some ho (by split <;> decide)
    exact ⟨_, _, he, ho2, hb, own_lt ho rfl⟩

set_option maxRecDepth 100000 in
set_option maxHeartbeats 16000000 in
theorem play_core (w : World) (n : Int) (A : Option Addr) (cap : Nat) (l : List ActT) (hz : ∀ i (hi : i < l.length), ∃ b o Ak ck, A = some ⟨b, o, none⟩ ∧ b < w.heap.size ∧ ActAt w b (o + i * 6) l[i] Ak ck) :
    Calls Try.prog 5 #[.int .i64 n, .slice A l.length cap] w fun e w' => e = .returned (.bool true) ∧ Below w.heap.size w w' := by
  obtain ⟨ib, hib, hbz0, hbz1, hbz2⟩ := info_parts infoBool
  replace hz := Lib.hid hz
  by_cases hg : 200 < n ∨ 100 < l.length
  · go_enter Try.func5, Try.ntmps5
    go_wp2_with fail
    refine (alive_any _).mono ?_; rintro e w1 ⟨rfl, hb1⟩
    replace hb1 := Lib.hid hb1
    go_wp2_with fail
    all_goals
      first
        | (go_ret; exact ⟨rfl, hb1.out⟩)
        | (exfalso; omega)
  · have g1 : n ≤ 200 := by omega
    have g2 : (l.length : Int) ≤ 100 := by omega
    clear hg
    go_enter Try.func5, Try.ntmps5
    go_wp2_with fail
    refine (alive_any _).mono ?_; rintro e w1 ⟨rfl, hb1⟩
    replace hb1 := Lib.hid hb1
    go_wp2_with fail
    refine (new_any _ n).mono ?_; rintro e w2 ⟨rfl, h2, hb2⟩
    replace h2 := Lib.hid h2
    replace hb2 := Lib.hid hb2
    go_wp2_with fail
    refine (new_any _ 5).mono ?_; rintro e w3 ⟨rfl, h3, hb3⟩
    replace h3 := Lib.hid h3
    replace hb3 := Lib.hid hb3
    go_wp2_with fail
    refine (rnew_any _ n).mono ?_; rintro e w4 ⟨rfl, h4, hb4⟩
    have s1 := hb1.out.size
    have s2 := hb2.out.size
    have s3 := hb3.out.size
    have s4 := hb4.size
    have T0 : Trio w w4 w1.heap.size w2.heap.size w3.heap.size (Dk.new (many n)) (Dk.new (many 5)) (Rk.new (many n)) (fun _ => False) :=
      ⟨_, _, _, h2.out.below (below_then hb3.out hb4), h3.out.below hb4, h4, fun b hb => ⟨by omega, by omega, by omega, by omega, fun t => t⟩, fun b hb => ⟨by omega, by omega, by omega, fun t => t⟩, fun b hb => ⟨by omega, by omega, fun t => t⟩, fun b t => t.elim, below_then (below_then (below_then hb1.out hb2.out) hb3.out) hb4⟩
    have rl0 := rel_new (many n)
    have fd0 := few_new (many n) (many_le n)
    have fo0 := few_new (many 5) (many_le 5)
    have rok0 := rnew_ok (many n) (many_le n)
    generalize Dk.new (many n) = D0 at *
    generalize Dk.new (many 5) = O0 at *
    generalize Rk.new (many n) = R0 at *
    have hp13 : True := trivial
    clear h2 h3 h4 hb1 hb2 hb3 hb4 s1 s2 s3 s4
    generalize w1.heap.size = p1 at *
    generalize w2.heap.size = p2 at *
    generalize w3.heap.size = p3 at *
    replace T0 := Lib.hid T0
    replace rl0 := Lib.hid rl0
    replace fd0 := Lib.hid fd0
    replace fo0 := Lib.hid fo0
    replace rok0 := Lib.hid rok0
    go_upto_region 10 with fail
    go_loopw [9] (fun j wr => ∃ (i : Nat) (D O : Dk) (R : Rk), i ≤ l.length ∧ j = .int .i64 i ∧ Rel i D R ∧ Few i D ∧ Few i O ∧ R.ok ∧ Trio w wr p1 p2 p3 D O R (fun _ => False)) (fun j _ => l.length - (intOf j).toNat)
    case atStart => exact ⟨0, D0, O0, R0, by omega, rfl, rl0.out, fd0.out, fo0.out, rok0.out, T0.out⟩
    clear T0 rl0 fd0 fo0 rok0
    case round =>
      obtain ⟨i, D, O, R, hi, rfl, rl, fd, fo, rok, T⟩ := hrel
      by_cases hlt : i < l.length
      · have q1 : (i : Int) < (l.length : Int) := by omega
        obtain ⟨ab, ao, Ak, ck, rfl, hab, ax⟩ := hz.out i hlt
        have ax1 := ax.below hab T.acc
        have hab1 : ab < wr.heap.size := by have := T.acc.size; omega
        have nlt := ax.n_lt
        generalize l[i] = x at *
        obtain ⟨way, at', nn, cc, bad, kp⟩ := x
        obtain ⟨a0, a1, a2, a3, a4, a5, ak, _⟩ := ax1
        simp only at a0 a1 a2 a3 a4 a5 ak nlt
        have hal := (Below.refl wr.heap.size wr).alloc (Nat.le_refl _) (.cells #[.int .i64 way, .int .i64 at', .int .i64 nn, .int .u8 cc, .bool bad, .slice Ak kp.length ck] 38)
        have T1 := (T.client hal).mono (C' := fun b => b = wr.heap.size) (fun b e => .inr ⟨by omega, by rw [e]; simp⟩)
        have bx := Whole.new wr 38 #[.int .i64 way, .int .i64 at', .int .i64 nn, .int .u8 cc, .bool bad, .slice Ak kp.length ck]
        have hwr := T.acc.size
        have akw := ax.keep
        simp only at akw
        clear ax T hal ak
        replace T1 := Lib.hid T1
        replace bx := Lib.hid bx
        replace rl := Lib.hid rl
        replace fd := Lib.hid fd
        replace fo := Lib.hid fo
        replace rok := Lib.hid rok
        replace akw := Lib.hid akw
        go_upto_region 13 with fail
        clear a0 a1 a2 a3 a4 a5
        generalize wr.alloc (.cells #[.int .i64 way, .int .i64 at', .int .i64 nn, .int .u8 cc, .bool bad, .slice Ak kp.length ck] 38) = W1 at *
        generalize wr.heap.size = nb at *
        go_wp2_with fail
        refine (fill_some _ _ _).mono ?_; rintro e w5 ⟨g5, c5, rfl, ho5, hb5, hx5, hx6⟩
        simp only [Bool.false_eq_true, if_false] at ho5 ⊢
        have T5 := T1.out.client hb5
        have bx5 := bx.out.below hb5
        have hv5 := ho5.view
        have fo' := few_write fo.out (i : Int) (fillL 64 9)
        have kO := Lib.hid (t_owrite T5 fo.out (by omega) (i : Int) hv5 (fun b e => .inr (by injection e with e; subst e; exact ⟨hx5, hx6⟩)))
        clear hv5 ho5
        go_wp2_with fail
        refine kO.out.mono ?_; rintro e w6 ⟨rfl, T6, k6⟩
        have bx6 := k6.whole bx5 (.inl rfl)
        replace T6 := T6.mono (C' := fun b => b = nb) (fun b e => .inl e)
        generalize (O.write (i : Int) (fillL 64 9)).1 = O' at *
        generalize (O.write (i : Int) (fillL 64 9)).2 = ob at *
        clear kO T5 bx5 k6 T1 bx hx5 hx6 hb5 fo
        have b0 := bx6.cell 0
        have b1 := bx6.cell 1
        have b2 := bx6.cell 2
        have b3 := bx6.cell 3
        have b4 := bx6.cell 4
        have b5 := bx6.cell 5
        replace T6 := Lib.hid T6
        replace fo' := Lib.hid fo'
        have bxh := Lib.hid bx6
        clear bx6
        by_cases e0 : way = 0
        · subst e0
          go_wp2_with fail
          refine (fill_some _ _ _).mono ?_; rintro e wf ⟨gb, cb, rfl, hob, hbf, hgb1, hgb2⟩
          have hfl := fillL_len (if bad = true then 63 else 64) cc
          obtain ⟨N, hN, hN2⟩ : ∃ N : Nat, (if bad = true then 63 else 64) = N ∧ N ≤ 64 := ⟨_, rfl, by split <;> omega⟩
          rw [hN] at hob hfl ⊢
          have hvb := hob.view
          unfold OB at hob
          rw [hfl] at hob
          generalize fillL N cc = bs at *
          have T := T6.out.client hbf
          have hT6 := T6.out.acc.size
          have hnbl := bxh.out.lt
          have bx := bxh.out.below hbf
          have y := rel_write rl.out rok.out (by omega) at' bs
          have y1 := Lib.hid y.1
          have rl' := Lib.hid y.2
          have fd' := Lib.hid (few_write fd.out at' bs)
          have rok' := Lib.hid (rwrite_ok rok.out at' bs)
          have hCb : ∀ b, blockOf (.slice (some ⟨gb, 0, none⟩) N cb) = some b → (b = nb ∨ (w6.heap.size ≤ b ∧ b < wf.heap.size)) := fun b e => by injection e with e; subst e; exact .inr ⟨hgb1, hgb2⟩
          have hCo : ∀ b, (Value.slice (some ⟨gb, 0, none⟩) N cb).ownBlock = some b → (b = nb ∨ (w6.heap.size ≤ b ∧ b < wf.heap.size)) := fun b e => by injection e with e; subst e; exact .inr ⟨hgb1, hgb2⟩
          have b1 := bx.cell 1
          replace T := Lib.hid T
          replace bx := Lib.hid bx
          replace hob := Lib.hid hob
          replace hvb := Lib.hid hvb
          replace hCb := Lib.hid hCb
          replace hCo := Lib.hid hCo
          replace hfl := Lib.hid hfl
          replace hN := Lib.hid hN
          clear y b0 b2 b3 b4 b5 T6 hbf bxh
          go_wp2_with fail
          clear b1
          refine tl_begin (fun (w' : World) => w'.cell? ⟨nb, 1, none⟩ = some (.int .i64 at')) [] (by kernel_rfl) (bx.out.drew.cell 1) (fun hHeld => ?_)
          refine tl_p (i := 0) (v := ?_) rfl (by rfl) (by kernel_rfl) (by kernel_rfl) (by kernel_rfl) (fun _ _ _ h => h) (by rfl) hHeld ?_ ?_
          rotate_left
          · intro w
            go_simp
            try (with_reducible rfl)
          try simp only [Act.put, List.setIfInBounds_toArray, List.set_cons_zero, List.set_cons_succ]
          refine tl_p (i := 1) (v := ?_) rfl (by rfl) (by kernel_rfl) (by kernel_rfl) (by kernel_rfl) (fun _ _ _ h => h) (by rfl) hHeld ?_ ?_
          rotate_left
          · intro w
            go_simp
            try (with_reducible rfl)
          try simp only [Act.put, List.setIfInBounds_toArray, List.set_cons_zero, List.set_cons_succ]
          refine tl_w (i := 2) (v := ?_) rfl (by rfl) (by kernel_rfl) (by kernel_rfl) (by kernel_rfl) (by kernel_rfl) (by kernel_rfl) (fun _ _ _ h => h) (by rfl) hHeld ?_ ?_
          rotate_left
          · intro w hSw
            try dsimp only at hSw
            go_simp
            try (with_reducible rfl)
          try simp only [Act.put, List.setIfInBounds_toArray, List.set_cons_zero, List.set_cons_succ]
          refine tl_p (i := 3) (v := ?_) rfl (by rfl) (by kernel_rfl) (by kernel_rfl) (by kernel_rfl) (fun _ _ _ h => h) (by rfl) hHeld ?_ ?_
          rotate_left
          · intro w
            go_simp
            try (with_reducible rfl)
          try simp only [Act.put, List.setIfInBounds_toArray, List.set_cons_zero, List.set_cons_succ]
          refine tl_p (i := 5) (v := ?_) rfl (by rfl) (by kernel_rfl) (by kernel_rfl) (by kernel_rfl) (fun _ _ _ h => h) (by rfl) hHeld ?_ ?_
          rotate_left
          · intro w
            go_simp
            try (with_reducible rfl)
          try simp only [Act.put, List.setIfInBounds_toArray, List.set_cons_zero, List.set_cons_succ]
          refine tl_p (i := 6) (v := ?_) rfl (by rfl) (by kernel_rfl) (by kernel_rfl) (by kernel_rfl) (fun _ _ _ h => h) (by rfl) hHeld ?_ ?_
          rotate_left
          · intro w
            go_simp
            try (with_reducible rfl)
          try simp only [Act.put, List.setIfInBounds_toArray, List.set_cons_zero, List.set_cons_succ]
          refine tl_w (i := 7) (v := ?_) rfl (by rfl) (by kernel_rfl) (by kernel_rfl) (by kernel_rfl) (by kernel_rfl) (by kernel_rfl) (fun _ _ _ h => h) (by rfl) hHeld ?_ ?_
          rotate_left
          · intro w hSw
            try dsimp only at hSw
            go_simp
            try (with_reducible rfl)
          try simp only [Act.put, List.setIfInBounds_toArray, List.set_cons_zero, List.set_cons_succ]
          refine tl_p (i := 8) (v := ?_) rfl (by rfl) (by kernel_rfl) (by kernel_rfl) (by kernel_rfl) (fun _ _ _ h => h) (by rfl) hHeld ?_ ?_
          rotate_left
          · intro w
            go_simp
            try (with_reducible rfl)
          try simp only [Act.put, List.setIfInBounds_toArray, List.set_cons_zero, List.set_cons_succ]
          refine tl_do (i := 4) rfl (by kernel_rfl) (by rfl) (fun K hK => ?_)
          go_simp
          go_at_call 17
          refine (t_write (T.out.below (Below.drew (Below.refl _ _))) fd.out (by omega) at' (View.drew hvb.out) hCb.out).mono ?_; rintro e w7 ⟨rfl, T7, k7⟩
          have bx7 := Lib.hid (k7.whole (Whole.drew bx.out) (Or.inl rfl))
          have vb7 := Lib.hid (k7.view (View.drew hvb.out) hCb.out)
          have ob7 := Lib.hid (k7.own (own_drew hob.out) hCo.out)
          try go_wp2_with fail
          refine hK.out _ _ (bx7.out.cell 1) (fun hHeld1 => ?_)
          clear hK K hHeld
          have hHeld := hHeld1
          clear hHeld1
          try simp only [Act.put, List.setIfInBounds_toArray, List.set_cons_zero, List.set_cons_succ]
          refine tl_do (i := 9) rfl (by kernel_rfl) (by rfl) (fun K hK => ?_)
          go_simp
          go_at_call 23
          refine (t_rwrite T7 rok.out (by have := rl.out.count; have := fd.out.written; omega) (by rw [rl.out.uns]; have := fd.out.uns; omega) at' vb7.out).mono ?_; rintro e w8 ⟨rfl, T8, k8⟩
          rw [← y1.out]
          have bx8 := Lib.hid (k8.whole bx7.out (Or.inl rfl))
          have ob8 := Lib.hid (k8.own ob7.out hCo.out)
          try go_wp2_with fail
          refine hK.out _ _ (bx8.out.cell 1) (fun hHeld1 => ?_)
          clear hK K hHeld
          have hHeld := hHeld1
          clear hHeld1
          try simp only [Act.put, List.setIfInBounds_toArray, List.set_cons_zero, List.set_cons_succ]
          refine tl_p (i := 10) (v := ?_) rfl (by rfl) (by kernel_rfl) (by kernel_rfl) (by kernel_rfl) (fun _ _ _ h => h) (by rfl) hHeld ?_ ?_
          rotate_left
          · intro w
            go_simp
            try (with_reducible rfl)
          try simp only [Act.put, List.setIfInBounds_toArray, List.set_cons_zero, List.set_cons_succ]
          refine till_done (by kernel_rfl) ?_ _
          generalize (D.write at' bs).1 = D' at *
          generalize (R.write at' bs).1 = R' at *
          generalize (D.write at' bs).2 = sb at *
          have hgn : nb ≠ gb := by omega
          replace T8 := Lib.hid T8
          clear hHeld k7 k8 T7 bx7 vb7 ob7 y1 T bx hob hvb hCb rl fd rok
          go_upto_region 20 with fail
          go_loopw [12] (fun q wi => ∃ (m : Nat) (xs : List Value), m ≤ N ∧ q = .int .i64 m ∧ wi.ownsRow w6.heap.size 5 1 (.slice (some ⟨gb, 0, none⟩) N cb) N xs ∧ Trio w wi p1 p2 p3 D' O' R' (fun b => b = nb ∨ (w6.heap.size ≤ b ∧ b < wf.heap.size)) ∧ Whole wi nb 38 #[.int .i64 0, .int .i64 at', .int .i64 nn, .int .u8 cc, .bool bad, .slice Ak kp.length ck]) (fun q _ => N - (intOf q).toNat)
          case atStart => exact ⟨0, _, by omega, rfl, ob8.out, T8.out, bx8.out⟩
          clear T8 ob8 bx8
          case round =>
            obtain ⟨m, xs, hm, rfl, ho, T0, bx0⟩ := hrel
            by_cases hlt2 : m < N
            · have q9 : (m : Int) < (N : Int) := by omega
              obtain ⟨u1, z1⟩ : ∃ u, wr.cell? ⟨gb, m, none⟩ = some u := ⟨_, own_cell ho m (by omega)⟩
              have z2 := own_free ho m
              have ho2 := Lib.hid (own_set ho m (by omega) (.int .u8 77))
              have T2 := Lib.hid (T0.store (a := ⟨gb, m, none⟩) (.inr ⟨hgb1, hgb2⟩) (by show w.heap.size ≤ gb; omega) (.int .u8 77))
              have bx2 := Lib.hid (bx0.other (p := ⟨gb, m, none⟩) hgn (.int .u8 77))
              clear ho T0 bx0
              go_wp2_with fail
              go_roundw
              case rel => exact ⟨m + 1, _, by omega, by go_num, ho2.out, T2.out, bx2.out⟩
              case measure => simp [intOf]; omega
            · have q9 : ¬ (m : Int) < (N : Int) := by omega
              obtain rfl : m = N := by omega
              replace T0 := T0.mono (C' := fun b => b = nb) (fun b e => .inl e)
              clear ho
              have T := Lib.hid (T0.below (Below.drew (Below.refl _ _)))
              have bx := Lib.hid bx0
              have hcnt := Lib.hid (T.out.count.trans (by rw [rl'.out.count]))
              have hRl : R'.sure.length = D'.now.length := by rw [rl'.out.sure, rl'.out.len]
              have kLr := t_rlen T.out
              rw [hRl] at kLr
              replace kLr := Lib.hid kLr
              clear hRl T0 bx0
              go_wp2_with fail
              refine tl_begin (fun (w' : World) => w'.cell? ⟨nb, 1, none⟩ = some (.int .i64 at') ∧ w'.cell? ⟨p3, 4, none⟩ = some (.int .i64 D'.written)) [] (by kernel_rfl) (⟨bx.out.drew.cell 1, hcnt.out⟩) (fun hHeld => ?_)
              refine tl_p (i := 0) (v := ?_) rfl (by rfl) (by kernel_rfl) (by kernel_rfl) (by kernel_rfl) (fun _ _ _ h => h) (by rfl) hHeld ?_ ?_
              rotate_left
              · intro w
                go_simp
                try (with_reducible rfl)
              try simp only [Act.put, List.setIfInBounds_toArray, List.set_cons_zero, List.set_cons_succ]
              refine tl_p (i := 2) (v := ?_) rfl (by rfl) (by kernel_rfl) (by kernel_rfl) (by kernel_rfl) (fun _ _ _ h => h) (by rfl) hHeld ?_ ?_
              rotate_left
              · intro w
                go_simp
                try (with_reducible rfl)
              try simp only [Act.put, List.setIfInBounds_toArray, List.set_cons_zero, List.set_cons_succ]
              refine tl_p (i := 3) (v := ?_) rfl (by rfl) (by kernel_rfl) (by kernel_rfl) (by kernel_rfl) (fun _ _ _ h => h) (by rfl) hHeld ?_ ?_
              rotate_left
              · intro w
                go_simp
                try (with_reducible rfl)
              try simp only [Act.put, List.setIfInBounds_toArray, List.set_cons_zero, List.set_cons_succ]
              refine tl_p (i := 4) (v := ?_) rfl (by rfl) (by kernel_rfl) (by kernel_rfl) (by kernel_rfl) (fun _ _ _ h => h) (by rfl) hHeld ?_ ?_
              rotate_left
              · intro w
                go_simp
                try (with_reducible rfl)
              try simp only [Act.put, List.setIfInBounds_toArray, List.set_cons_zero, List.set_cons_succ]
              refine tl_w (i := 5) (v := ?_) rfl (by rfl) (by kernel_rfl) (by kernel_rfl) (by kernel_rfl) (by kernel_rfl) (by kernel_rfl) (fun _ _ _ h => h) (by rfl) hHeld ?_ ?_
              rotate_left
              · intro w hSw
                try dsimp only at hSw
                go_simp
                try (with_reducible rfl)
              try simp only [Act.put, List.setIfInBounds_toArray, List.set_cons_zero, List.set_cons_succ]
              refine tl_do (i := 1) rfl (by kernel_rfl) (by rfl) (fun K hK => ?_)
              go_simp
              go_at_call 28
              refine (t_writes T.out).mono ?_; rintro e w9 ⟨rfl, hw9⟩
              have hw9' := hw9.symm
              subst hw9'
              clear hw9
              try go_wp2_with fail
              refine hK.out _ _ (⟨bx.out.drew.cell 1, hcnt.out⟩) (fun hHeld1 => ?_)
              clear hK K hHeld
              have hHeld := hHeld1
              clear hHeld1
              try simp only [Act.put, List.setIfInBounds_toArray, List.set_cons_zero, List.set_cons_succ]
              refine tl_p (i := 6) (v := ?_) rfl (by rfl) (by kernel_rfl) (by kernel_rfl) (by kernel_rfl) (fun _ _ _ h => h) (by rfl) hHeld ?_ ?_
              rotate_left
              · intro w
                go_simp
                try (with_reducible rfl)
              try simp only [Act.put, List.setIfInBounds_toArray, List.set_cons_zero, List.set_cons_succ]
              refine tl_p (i := 7) (v := ?_) rfl (by rfl) (by kernel_rfl) (by kernel_rfl) (by kernel_rfl) (fun _ _ _ h => h) (by rfl) hHeld ?_ ?_
              rotate_left
              · intro w
                go_simp
                try (with_reducible rfl)
              try simp only [Act.put, List.setIfInBounds_toArray, List.set_cons_zero, List.set_cons_succ]
              refine tl_p (i := 8) (v := ?_) rfl (by rfl) (by kernel_rfl) (by kernel_rfl) (by kernel_rfl) (fun _ _ _ h => h) (by rfl) hHeld ?_ ?_
              rotate_left
              · intro w
                go_simp
                try (with_reducible rfl)
              try simp only [Act.put, List.setIfInBounds_toArray, List.set_cons_zero, List.set_cons_succ]
              refine tl_p (i := 10) (v := ?_) rfl (by rfl) (by kernel_rfl) (by kernel_rfl) (by kernel_rfl) (fun _ _ _ h => h) (by rfl) hHeld ?_ ?_
              rotate_left
              · intro w
                go_simp
                try (with_reducible rfl)
              try simp only [Act.put, List.setIfInBounds_toArray, List.set_cons_zero, List.set_cons_succ]
              refine tl_do (i := 9) rfl (by kernel_rfl) (by rfl) (fun K hK => ?_)
              go_simp
              go_at_call 29
              refine (t_len T.out).mono ?_; rintro e w9 ⟨rfl, hw9⟩
              have hw9' := hw9.symm
              subst hw9'
              clear hw9
              try go_wp2_with fail
              refine hK.out _ _ (⟨bx.out.drew.cell 1, hcnt.out⟩) (fun hHeld1 => ?_)
              clear hK K hHeld
              have hHeld := hHeld1
              clear hHeld1
              try simp only [Act.put, List.setIfInBounds_toArray, List.set_cons_zero, List.set_cons_succ]
              refine tl_do (i := 11) rfl (by kernel_rfl) (by rfl) (fun K hK => ?_)
              go_simp
              go_at_call 30
              refine (kLr.out).mono ?_; rintro e w9 ⟨rfl, hw9⟩
              have hw9' := hw9.symm
              subst hw9'
              clear hw9
              try go_wp2_with fail
              refine hK.out _ _ (⟨bx.out.drew.cell 1, hcnt.out⟩) (fun hHeld1 => ?_)
              clear hK K hHeld
              have hHeld := hHeld1
              clear hHeld1
              try simp only [Act.put, List.setIfInBounds_toArray, List.set_cons_zero, List.set_cons_succ]
              refine tl_p (i := 12) (v := ?_) rfl (by rfl) (by kernel_rfl) (by kernel_rfl) (by kernel_rfl) (fun _ _ _ h => h) (by rfl) hHeld ?_ ?_
              rotate_left
              · intro w
                go_simp
                try (with_reducible rfl)
              try simp only [Act.put, List.setIfInBounds_toArray, List.set_cons_zero, List.set_cons_succ]
              refine tl_p (i := 13) (v := ?_) rfl (by rfl) (by kernel_rfl) (by kernel_rfl) (by kernel_rfl) (fun _ _ _ h => h) (by rfl) hHeld ?_ ?_
              rotate_left
              · intro w
                go_simp
                try (with_reducible rfl)
              try simp only [Act.put, List.setIfInBounds_toArray, List.set_cons_zero, List.set_cons_succ]
              refine tl_p (i := 14) (v := ?_) rfl (by rfl) (by kernel_rfl) (by kernel_rfl) (by kernel_rfl) (fun _ _ _ h => h) (by rfl) hHeld ?_ ?_
              rotate_left
              · intro w
                go_simp
                try (with_reducible rfl)
              try simp only [Act.put, List.setIfInBounds_toArray, List.set_cons_zero, List.set_cons_succ]
              refine tl_p (i := 15) (v := ?_) rfl (by rfl) (by kernel_rfl) (by kernel_rfl) (by kernel_rfl) (fun _ _ _ h => h) (by rfl) hHeld ?_ ?_
              rotate_left
              · intro w
                go_simp
                try (with_reducible rfl)
              try simp only [Act.put, List.setIfInBounds_toArray, List.set_cons_zero, List.set_cons_succ]
              refine tl_p (i := 16) (v := ?_) rfl (by rfl) (by kernel_rfl) (by kernel_rfl) (by kernel_rfl) (fun _ _ _ h => h) (by rfl) hHeld ?_ ?_
              rotate_left
              · intro w
                go_simp
                try (with_reducible rfl)
              try simp only [Act.put, List.setIfInBounds_toArray, List.set_cons_zero, List.set_cons_succ]
              refine tl_w (i := 17) (v := ?_) rfl (by rfl) (by kernel_rfl) (by kernel_rfl) (by kernel_rfl) (by kernel_rfl) (by kernel_rfl) (fun _ _ _ h => h) (by rfl) hHeld ?_ ?_
              rotate_left
              · intro w hSw
                try dsimp only at hSw
                go_simp
                try (with_reducible rfl)
              try simp only [Act.put, List.setIfInBounds_toArray, List.set_cons_zero, List.set_cons_succ]
              refine tl_p (i := 20) (v := ?_) rfl (by rfl) (by kernel_rfl) (by kernel_rfl) (by kernel_rfl) (fun _ _ _ h => h) (by rfl) hHeld ?_ ?_
              rotate_left
              · intro w
                go_simp
                try (with_reducible rfl)
              try simp only [Act.put, List.setIfInBounds_toArray, List.set_cons_zero, List.set_cons_succ]
              refine tl_p (i := 21) (v := ?_) rfl (by rfl) (by kernel_rfl) (by kernel_rfl) (by kernel_rfl) (fun _ _ _ h => h) (by rfl) hHeld ?_ ?_
              rotate_left
              · intro w
                go_simp
                try (with_reducible rfl)
              try simp only [Act.put, List.setIfInBounds_toArray, List.set_cons_zero, List.set_cons_succ]
              refine tl_w (i := 22) (v := ?_) rfl (by rfl) (by kernel_rfl) (by kernel_rfl) (by kernel_rfl) (by kernel_rfl) (by kernel_rfl) (fun _ _ _ h => h) (by rfl) hHeld ?_ ?_
              rotate_left
              · intro w hSw
                try dsimp only at hSw
                go_simp
                try (with_reducible rfl)
              try simp only [Act.put, List.setIfInBounds_toArray, List.set_cons_zero, List.set_cons_succ]
              refine tl_do (i := 18) rfl (by kernel_rfl) (by rfl) (fun K hK => ?_)
              go_simp
              go_at_call 21
              refine (t_read T.out fd'.out.ok at').mono ?_; rintro e w10 ⟨A10, c10, rfl, hv10, hb10⟩
              have T10 := T.out.below hb10
              have bx10 := Lib.hid ((Whole.drew bx.out).below hb10)
              have hcnt10 := Lib.hid (T10.count.trans (by rw [rl'.out.count]))
              try go_wp2_with fail
              refine hK.out _ _ (⟨bx10.out.cell 1, hcnt10.out⟩) (fun hHeld1 => ?_)
              clear hK K hHeld
              have hHeld := hHeld1
              clear hHeld1
              try simp only [Act.put, List.setIfInBounds_toArray, List.set_cons_zero, List.set_cons_succ]
              refine till_more (fun w' => VB w' (.slice A10 (D'.read at').length c10) (D'.read at')) ?_
              replace hHeld := And.intro hHeld hv10
              refine tl_w (i := 19) (v := ?_) rfl (by rfl) (by kernel_rfl) (by kernel_rfl) (by kernel_rfl) (by kernel_rfl) (by kernel_rfl) (fun _ _ _ h => h) (by rfl) hHeld ?_ ?_
              rotate_left
              · intro w hSw
                have hc := conv_any w _ _ hSw.2
                clear hSw
                go_simp
                try (with_reducible rfl)
              try simp only [Act.put, List.setIfInBounds_toArray, List.set_cons_zero, List.set_cons_succ]
              refine tl_do (i := 23) rfl (by kernel_rfl) (by rfl) (fun K hK => ?_)
              go_simp
              go_at_call 31
              refine (t_rread T10 rok'.out (by rw [rl'.out.uns]; have := fd'.out.uns; omega) at').mono ?_; rintro e w11 ⟨A11, c11, rfl, hv11, hb11⟩
              rw [← rel_read rl'.out] at hv11 ⊢
              have T11 := T10.below hb11
              have hv12 := View.below hv10 hb11
              try go_wp2_with fail
              refine hK.out _ _ (⟨⟨(bx10.out.below hb11).cell 1, T11.count.trans (by rw [rl'.out.count])⟩, hv12⟩) (fun hHeld1 => ?_)
              clear hK K hHeld
              have hHeld := hHeld1
              clear hHeld1
              try simp only [Act.put, List.setIfInBounds_toArray, List.set_cons_zero, List.set_cons_succ]
              refine till_more (fun w' => VB w' (.slice A11 (D'.read at').length c11) (D'.read at')) ?_
              replace hHeld := And.intro hHeld hv11
              refine tl_w (i := 24) (v := ?_) rfl (by rfl) (by kernel_rfl) (by kernel_rfl) (by kernel_rfl) (by kernel_rfl) (by kernel_rfl) (fun _ _ _ h => h) (by rfl) hHeld ?_ ?_
              rotate_left
              · intro w hSw
                have hc := conv_any w _ _ hSw.2
                clear hSw
                go_simp
                try (with_reducible rfl)
              try simp only [Act.put, List.setIfInBounds_toArray, List.set_cons_zero, List.set_cons_succ]
              refine tl_p (i := 25) (v := ?_) rfl (by rfl) (by kernel_rfl) (by kernel_rfl) (by kernel_rfl) (fun _ _ _ h => h) (by rfl) hHeld ?_ ?_
              rotate_left
              · intro w
                go_simp
                try (with_reducible rfl)
              try simp only [Act.put, List.setIfInBounds_toArray, List.set_cons_zero, List.set_cons_succ]
              refine tl_p (i := 26) (v := ?_) rfl (by rfl) (by kernel_rfl) (by kernel_rfl) (by kernel_rfl) (fun _ _ _ h => h) (by rfl) hHeld ?_ ?_
              rotate_left
              · intro w
                go_simp
                try (with_reducible rfl)
              try simp only [Act.put, List.setIfInBounds_toArray, List.set_cons_zero, List.set_cons_succ]
              refine till_done (by kernel_rfl) ?_ _
              have T12 := Lib.hid (T11.mono (C' := fun _ => False) (fun _ t => t.elim))
              clear hHeld hv10 hv11 hv12 hb10 hb11 T10 T11 bx10 hcnt10 hcnt T bx kLr
              go_wp2_with fail
              go_roundw
              case rel => exact ⟨i + 1, D', O', R', by omega, by go_num, rl'.out, fd'.out, fo'.out, rok'.out, T12.out⟩
              case measure => simp [intOf]; omega
        by_cases e1 : way = 1
        · subst e1
          have y := rel_sync rl.out
          have kS := Lib.hid (t_sync T6.out fd.out.ok)
          have fd' := few_sync fd.out
          have rok' := rsync_ok rok.out
          have kR := Lib.hid (fun W (T : Trio w W p1 p2 p3 D.sync.1 O' R (fun b => b = nb)) => t_rsync T rok.out (by rw [rl.out.uns]; have := fd.out.uns; omega))
          rw [← y.1] at kR
          have rl' := y.2
          clear y
          generalize D.sync.1 = D' at *
          generalize D.sync.2 = sb at *
          generalize R.sync.1 = R' at *
          replace fd' := Lib.hid fd'
          replace rok' := Lib.hid rok'
          replace rl' := Lib.hid rl'
          go_wp2_with fail
          refine kS.out.mono ?_; rintro e w7 ⟨rfl, T7, k7⟩
          have bx7 := k7.whole bxh.out rfl
          replace T7 := Lib.hid T7
          replace bx7 := Lib.hid bx7
          clear k7 b0 b1 b2 b3 b4 b5
          go_wp2_with fail
          refine (kR.out _ T7.out).mono ?_; rintro e w8 ⟨rfl, T0, k8⟩
          have bx0 := k8.whole bx7.out rfl
          clear k8 T7 bx7 kR kS T6 bxh rl fd rok
          have T := Lib.hid (T0.below (Below.drew (Below.refl _ _)))
          have bx := Lib.hid bx0
          have hcnt := Lib.hid (T.out.count.trans (by rw [rl'.out.count]))
          have hRl : R'.sure.length = D'.now.length := by rw [rl'.out.sure, rl'.out.len]
          have kLr := t_rlen T.out
          rw [hRl] at kLr
          replace kLr := Lib.hid kLr
          clear hRl T0 bx0
          go_wp2_with fail
          refine tl_begin (fun (w' : World) => w'.cell? ⟨nb, 1, none⟩ = some (.int .i64 at') ∧ w'.cell? ⟨p3, 4, none⟩ = some (.int .i64 D'.written)) [] (by kernel_rfl) (⟨bx.out.drew.cell 1, hcnt.out⟩) (fun hHeld => ?_)
          refine tl_p (i := 0) (v := ?_) rfl (by rfl) (by kernel_rfl) (by kernel_rfl) (by kernel_rfl) (fun _ _ _ h => h) (by rfl) hHeld ?_ ?_
          rotate_left
          · intro w
            go_simp
            try (with_reducible rfl)
          try simp only [Act.put, List.setIfInBounds_toArray, List.set_cons_zero, List.set_cons_succ]
          refine tl_p (i := 2) (v := ?_) rfl (by rfl) (by kernel_rfl) (by kernel_rfl) (by kernel_rfl) (fun _ _ _ h => h) (by rfl) hHeld ?_ ?_
          rotate_left
          · intro w
            go_simp
            try (with_reducible rfl)
          try simp only [Act.put, List.setIfInBounds_toArray, List.set_cons_zero, List.set_cons_succ]
          refine tl_p (i := 3) (v := ?_) rfl (by rfl) (by kernel_rfl) (by kernel_rfl) (by kernel_rfl) (fun _ _ _ h => h) (by rfl) hHeld ?_ ?_
          rotate_left
          · intro w
            go_simp
            try (with_reducible rfl)
          try simp only [Act.put, List.setIfInBounds_toArray, List.set_cons_zero, List.set_cons_succ]
          refine tl_p (i := 4) (v := ?_) rfl (by rfl) (by kernel_rfl) (by kernel_rfl) (by kernel_rfl) (fun _ _ _ h => h) (by rfl) hHeld ?_ ?_
          rotate_left
          · intro w
            go_simp
            try (with_reducible rfl)
          try simp only [Act.put, List.setIfInBounds_toArray, List.set_cons_zero, List.set_cons_succ]
          refine tl_w (i := 5) (v := ?_) rfl (by rfl) (by kernel_rfl) (by kernel_rfl) (by kernel_rfl) (by kernel_rfl) (by kernel_rfl) (fun _ _ _ h => h) (by rfl) hHeld ?_ ?_
          rotate_left
          · intro w hSw
            try dsimp only at hSw
            go_simp
            try (with_reducible rfl)
          try simp only [Act.put, List.setIfInBounds_toArray, List.set_cons_zero, List.set_cons_succ]
          refine tl_do (i := 1) rfl (by kernel_rfl) (by rfl) (fun K hK => ?_)
          go_simp
          go_at_call 28
          refine (t_writes T.out).mono ?_; rintro e w9 ⟨rfl, hw9⟩
          have hw9' := hw9.symm
          subst hw9'
          clear hw9
          try go_wp2_with fail
          refine hK.out _ _ (⟨bx.out.drew.cell 1, hcnt.out⟩) (fun hHeld1 => ?_)
          clear hK K hHeld
          have hHeld := hHeld1
          clear hHeld1
          try simp only [Act.put, List.setIfInBounds_toArray, List.set_cons_zero, List.set_cons_succ]
          refine tl_p (i := 6) (v := ?_) rfl (by rfl) (by kernel_rfl) (by kernel_rfl) (by kernel_rfl) (fun _ _ _ h => h) (by rfl) hHeld ?_ ?_
          rotate_left
          · intro w
            go_simp
            try (with_reducible rfl)
          try simp only [Act.put, List.setIfInBounds_toArray, List.set_cons_zero, List.set_cons_succ]
          refine tl_p (i := 7) (v := ?_) rfl (by rfl) (by kernel_rfl) (by kernel_rfl) (by kernel_rfl) (fun _ _ _ h => h) (by rfl) hHeld ?_ ?_
          rotate_left
          · intro w
            go_simp
            try (with_reducible rfl)
          try simp only [Act.put, List.setIfInBounds_toArray, List.set_cons_zero, List.set_cons_succ]
          refine tl_p (i := 8) (v := ?_) rfl (by rfl) (by kernel_rfl) (by kernel_rfl) (by kernel_rfl) (fun _ _ _ h => h) (by rfl) hHeld ?_ ?_
          rotate_left
          · intro w
            go_simp
            try (with_reducible rfl)
          try simp only [Act.put, List.setIfInBounds_toArray, List.set_cons_zero, List.set_cons_succ]
          refine tl_p (i := 10) (v := ?_) rfl (by rfl) (by kernel_rfl) (by kernel_rfl) (by kernel_rfl) (fun _ _ _ h => h) (by rfl) hHeld ?_ ?_
          rotate_left
          · intro w
            go_simp
            try (with_reducible rfl)
          try simp only [Act.put, List.setIfInBounds_toArray, List.set_cons_zero, List.set_cons_succ]
          refine tl_do (i := 9) rfl (by kernel_rfl) (by rfl) (fun K hK => ?_)
          go_simp
          go_at_call 29
          refine (t_len T.out).mono ?_; rintro e w9 ⟨rfl, hw9⟩
          have hw9' := hw9.symm
          subst hw9'
          clear hw9
          try go_wp2_with fail
          refine hK.out _ _ (⟨bx.out.drew.cell 1, hcnt.out⟩) (fun hHeld1 => ?_)
          clear hK K hHeld
          have hHeld := hHeld1
          clear hHeld1
          try simp only [Act.put, List.setIfInBounds_toArray, List.set_cons_zero, List.set_cons_succ]
          refine tl_do (i := 11) rfl (by kernel_rfl) (by rfl) (fun K hK => ?_)
          go_simp
          go_at_call 30
          refine (kLr.out).mono ?_; rintro e w9 ⟨rfl, hw9⟩
          have hw9' := hw9.symm
          subst hw9'
          clear hw9
          try go_wp2_with fail
          refine hK.out _ _ (⟨bx.out.drew.cell 1, hcnt.out⟩) (fun hHeld1 => ?_)
          clear hK K hHeld
          have hHeld := hHeld1
          clear hHeld1
          try simp only [Act.put, List.setIfInBounds_toArray, List.set_cons_zero, List.set_cons_succ]
          refine tl_p (i := 12) (v := ?_) rfl (by rfl) (by kernel_rfl) (by kernel_rfl) (by kernel_rfl) (fun _ _ _ h => h) (by rfl) hHeld ?_ ?_
          rotate_left
          · intro w
            go_simp
            try (with_reducible rfl)
          try simp only [Act.put, List.setIfInBounds_toArray, List.set_cons_zero, List.set_cons_succ]
          refine tl_p (i := 13) (v := ?_) rfl (by rfl) (by kernel_rfl) (by kernel_rfl) (by kernel_rfl) (fun _ _ _ h => h) (by rfl) hHeld ?_ ?_
          rotate_left
          · intro w
            go_simp
            try (with_reducible rfl)
          try simp only [Act.put, List.setIfInBounds_toArray, List.set_cons_zero, List.set_cons_succ]
          refine tl_p (i := 14) (v := ?_) rfl (by rfl) (by kernel_rfl) (by kernel_rfl) (by kernel_rfl) (fun _ _ _ h => h) (by rfl) hHeld ?_ ?_
          rotate_left
          · intro w
            go_simp
            try (with_reducible rfl)
          try simp only [Act.put, List.setIfInBounds_toArray, List.set_cons_zero, List.set_cons_succ]
          refine tl_p (i := 15) (v := ?_) rfl (by rfl) (by kernel_rfl) (by kernel_rfl) (by kernel_rfl) (fun _ _ _ h => h) (by rfl) hHeld ?_ ?_
          rotate_left
          · intro w
            go_simp
            try (with_reducible rfl)
          try simp only [Act.put, List.setIfInBounds_toArray, List.set_cons_zero, List.set_cons_succ]
          refine tl_p (i := 16) (v := ?_) rfl (by rfl) (by kernel_rfl) (by kernel_rfl) (by kernel_rfl) (fun _ _ _ h => h) (by rfl) hHeld ?_ ?_
          rotate_left
          · intro w
            go_simp
            try (with_reducible rfl)
          try simp only [Act.put, List.setIfInBounds_toArray, List.set_cons_zero, List.set_cons_succ]
          refine tl_w (i := 17) (v := ?_) rfl (by rfl) (by kernel_rfl) (by kernel_rfl) (by kernel_rfl) (by kernel_rfl) (by kernel_rfl) (fun _ _ _ h => h) (by rfl) hHeld ?_ ?_
          rotate_left
          · intro w hSw
            try dsimp only at hSw
            go_simp
            try (with_reducible rfl)
          try simp only [Act.put, List.setIfInBounds_toArray, List.set_cons_zero, List.set_cons_succ]
          refine tl_p (i := 20) (v := ?_) rfl (by rfl) (by kernel_rfl) (by kernel_rfl) (by kernel_rfl) (fun _ _ _ h => h) (by rfl) hHeld ?_ ?_
          rotate_left
          · intro w
            go_simp
            try (with_reducible rfl)
          try simp only [Act.put, List.setIfInBounds_toArray, List.set_cons_zero, List.set_cons_succ]
          refine tl_p (i := 21) (v := ?_) rfl (by rfl) (by kernel_rfl) (by kernel_rfl) (by kernel_rfl) (fun _ _ _ h => h) (by rfl) hHeld ?_ ?_
          rotate_left
          · intro w
            go_simp
            try (with_reducible rfl)
          try simp only [Act.put, List.setIfInBounds_toArray, List.set_cons_zero, List.set_cons_succ]
          refine tl_w (i := 22) (v := ?_) rfl (by rfl) (by kernel_rfl) (by kernel_rfl) (by kernel_rfl) (by kernel_rfl) (by kernel_rfl) (fun _ _ _ h => h) (by rfl) hHeld ?_ ?_
          rotate_left
          · intro w hSw
            try dsimp only at hSw
            go_simp
            try (with_reducible rfl)
          try simp only [Act.put, List.setIfInBounds_toArray, List.set_cons_zero, List.set_cons_succ]
          refine tl_do (i := 18) rfl (by kernel_rfl) (by rfl) (fun K hK => ?_)
          go_simp
          go_at_call 21
          refine (t_read T.out fd'.out.ok at').mono ?_; rintro e w10 ⟨A10, c10, rfl, hv10, hb10⟩
          have T10 := T.out.below hb10
          have bx10 := Lib.hid ((Whole.drew bx.out).below hb10)
          have hcnt10 := Lib.hid (T10.count.trans (by rw [rl'.out.count]))
          try go_wp2_with fail
          refine hK.out _ _ (⟨bx10.out.cell 1, hcnt10.out⟩) (fun hHeld1 => ?_)
          clear hK K hHeld
          have hHeld := hHeld1
          clear hHeld1
          try simp only [Act.put, List.setIfInBounds_toArray, List.set_cons_zero, List.set_cons_succ]
          refine till_more (fun w' => VB w' (.slice A10 (D'.read at').length c10) (D'.read at')) ?_
          replace hHeld := And.intro hHeld hv10
          refine tl_w (i := 19) (v := ?_) rfl (by rfl) (by kernel_rfl) (by kernel_rfl) (by kernel_rfl) (by kernel_rfl) (by kernel_rfl) (fun _ _ _ h => h) (by rfl) hHeld ?_ ?_
          rotate_left
          · intro w hSw
            have hc := conv_any w _ _ hSw.2
            clear hSw
            go_simp
            try (with_reducible rfl)
          try simp only [Act.put, List.setIfInBounds_toArray, List.set_cons_zero, List.set_cons_succ]
          refine tl_do (i := 23) rfl (by kernel_rfl) (by rfl) (fun K hK => ?_)
          go_simp
          go_at_call 31
          refine (t_rread T10 rok'.out (by rw [rl'.out.uns]; have := fd'.out.uns; omega) at').mono ?_; rintro e w11 ⟨A11, c11, rfl, hv11, hb11⟩
          rw [← rel_read rl'.out] at hv11 ⊢
          have T11 := T10.below hb11
          have hv12 := View.below hv10 hb11
          try go_wp2_with fail
          refine hK.out _ _ (⟨⟨(bx10.out.below hb11).cell 1, T11.count.trans (by rw [rl'.out.count])⟩, hv12⟩) (fun hHeld1 => ?_)
          clear hK K hHeld
          have hHeld := hHeld1
          clear hHeld1
          try simp only [Act.put, List.setIfInBounds_toArray, List.set_cons_zero, List.set_cons_succ]
          refine till_more (fun w' => VB w' (.slice A11 (D'.read at').length c11) (D'.read at')) ?_
          replace hHeld := And.intro hHeld hv11
          refine tl_w (i := 24) (v := ?_) rfl (by rfl) (by kernel_rfl) (by kernel_rfl) (by kernel_rfl) (by kernel_rfl) (by kernel_rfl) (fun _ _ _ h => h) (by rfl) hHeld ?_ ?_
          rotate_left
          · intro w hSw
            have hc := conv_any w _ _ hSw.2
            clear hSw
            go_simp
            try (with_reducible rfl)
          try simp only [Act.put, List.setIfInBounds_toArray, List.set_cons_zero, List.set_cons_succ]
          refine tl_p (i := 25) (v := ?_) rfl (by rfl) (by kernel_rfl) (by kernel_rfl) (by kernel_rfl) (fun _ _ _ h => h) (by rfl) hHeld ?_ ?_
          rotate_left
          · intro w
            go_simp
            try (with_reducible rfl)
          try simp only [Act.put, List.setIfInBounds_toArray, List.set_cons_zero, List.set_cons_succ]
          refine tl_p (i := 26) (v := ?_) rfl (by rfl) (by kernel_rfl) (by kernel_rfl) (by kernel_rfl) (fun _ _ _ h => h) (by rfl) hHeld ?_ ?_
          rotate_left
          · intro w
            go_simp
            try (with_reducible rfl)
          try simp only [Act.put, List.setIfInBounds_toArray, List.set_cons_zero, List.set_cons_succ]
          refine till_done (by kernel_rfl) ?_ _
          have T12 := Lib.hid (T11.mono (C' := fun _ => False) (fun _ t => t.elim))
          clear hHeld hv10 hv11 hv12 hb10 hb11 T10 T11 bx10 hcnt10 hcnt T bx kLr
          go_wp2_with fail
          go_roundw
          case rel => exact ⟨i + 1, D', O', R', by omega, by go_num, rl'.out, fd'.out, fo'.out, rok'.out, T12.out⟩
          case measure => simp [intOf]; omega
        by_cases e2 : way = 2
        · subst e2
          by_cases hkl : 200 < kp.length
          · have q8 : (200 : Int) < (kp.length : Int) := by omega
            go_wp2_with fail
            go_ret
            exact ⟨rfl, T6.out.acc⟩
          · have q8 : ¬ (200 : Int) < (kp.length : Int) := by omega
            have hvk := Lib.hid (View.below akw.out T6.out.acc)
            have fd' := Lib.hid (few_crash fd.out kp)
            have rok' := Lib.hid (rcrash_ok rok.out kp)
            have rl' := Lib.hid (rel_crash rl.out kp)
            go_wp2_with (at_builtin; refine wpList_append_view _ rfl (.const (.slice none 0 0)) (.tmp 96) _ rfl 0 4 ib (.bool false) 1 1 Try.underlying23 hib hbz0 hbz1 hbz2 rfl (by omega) (.slice none 0 0) 0 [] rfl (World.ownsRow_nil _ _ _ _) (.slice Ak kp.length ck) kp.length (kp.map .bool) rfl hvk.out (bool_one kp) (by omega) (by simp only [maxLen]; omega) (Nat.zero_le _) ?_; intro v7 w7 hown7 hg7 hat7; rw [Nat.zero_add, List.nil_append] at hown7; obtain ⟨A7, c7, rfl, _, _, _⟩ := own_shape hown7)
            have hb7 : Below w6.heap.size w6 w7 := (Below.refl w6.heap.size w6).grown hg7 (Nat.le_refl _) (by intro k hk; cases hk)
            have T7 := T6.out.client hb7
            have bx7 := bxh.out.below hb7
            have hC7 : kp ≠ [] → ∀ b, blockOf (.slice A7 kp.length c7) = some b → (b = nb ∨ (w6.heap.size ≤ b ∧ b < w7.heap.size)) ∨ b < w.heap.size := fun hne b e => by
              obtain ⟨g7, c8, e7, _, _, _, hl7⟩ := own_some hown7 (List.length_pos_iff.2 hne)
              injection e7 with e7 _ _
              subst e7
              injection e with e
              subst e
              rcases hat7 with h | h
              · cases h
              · injection h with h
                exact .inl (.inr ⟨by omega, hl7⟩)
            have kS := Lib.hid (t_crash T7 fd.out (by omega) (View.of_own hown7) hC7 (by omega))
            have hvkw := akw.out
            have hCk : kp ≠ [] → ∀ b, blockOf (.slice Ak kp.length ck) = some b → b < w.heap.size := fun hne b e => by
              obtain ⟨b', o', c', e', _, _, hb', _⟩ := hvkw.at_ (by have := List.length_pos_iff.2 hne; omega)
              injection e' with e1 e2 e3
              subst e1
              injection e with e
              subst e
              exact hb'
            have kR := Lib.hid (fun W (T : Trio w W p1 p2 p3 (D.crash kp) O' R (fun b => b = nb)) => t_rcrash T rok.out (by rw [rl.out.uns]; have := fd.out.uns; omega) (View.below hvkw T.acc) (fun hne b e => .inr (hCk hne b e)) (by omega))
            generalize D.crash kp = D' at *
            generalize R.crash kp = R' at *
            clear hvkw hC7 hown7 hg7 hat7 T7 hvk b0 b1 b2 b3 b4 b5
            replace bx7 := Lib.hid bx7
            go_wp2_with fail
            refine kS.out.mono ?_; rintro e w8 ⟨rfl, T8, k8⟩
            have bx8 := k8.whole bx7.out (.inl rfl)
            replace T8 := Lib.hid (T8.mono (C' := fun b => b = nb) (fun b e => .inl e))
            have b5' := bx8.cell 5
            replace bx8 := Lib.hid bx8
            clear k8 hb7 bx7 kS T6 bxh
            go_wp2_with fail
            refine (kR.out _ T8.out).mono ?_; rintro e w9 ⟨rfl, T0, k9⟩
            have bx0 := k9.whole bx8.out rfl
            clear k9 T8 bx8 kR b5' rl fd rok
            have T := Lib.hid (T0.below (Below.drew (Below.refl _ _)))
            have bx := Lib.hid bx0
            have hcnt := Lib.hid (T.out.count.trans (by rw [rl'.out.count]))
            have hRl : R'.sure.length = D'.now.length := by rw [rl'.out.sure, rl'.out.len]
            have kLr := t_rlen T.out
            rw [hRl] at kLr
            replace kLr := Lib.hid kLr
            clear hRl T0 bx0
            go_wp2_with fail
            refine tl_begin (fun (w' : World) => w'.cell? ⟨nb, 1, none⟩ = some (.int .i64 at') ∧ w'.cell? ⟨p3, 4, none⟩ = some (.int .i64 D'.written)) [] (by kernel_rfl) (⟨bx.out.drew.cell 1, hcnt.out⟩) (fun hHeld => ?_)
            refine tl_p (i := 0) (v := ?_) rfl (by rfl) (by kernel_rfl) (by kernel_rfl) (by kernel_rfl) (fun _ _ _ h => h) (by rfl) hHeld ?_ ?_
            rotate_left
            · intro w
              go_simp
              try (with_reducible rfl)
            try simp only [Act.put, List.setIfInBounds_toArray, List.set_cons_zero, List.set_cons_succ]
            refine tl_p (i := 2) (v := ?_) rfl (by rfl) (by kernel_rfl) (by kernel_rfl) (by kernel_rfl) (fun _ _ _ h => h) (by rfl) hHeld ?_ ?_
            rotate_left
            · intro w
              go_simp
              try (with_reducible rfl)
            try simp only [Act.put, List.setIfInBounds_toArray, List.set_cons_zero, List.set_cons_succ]
            refine tl_p (i := 3) (v := ?_) rfl (by rfl) (by kernel_rfl) (by kernel_rfl) (by kernel_rfl) (fun _ _ _ h => h) (by rfl) hHeld ?_ ?_
            rotate_left
            · intro w
              go_simp
              try (with_reducible rfl)
            try simp only [Act.put, List.setIfInBounds_toArray, List.set_cons_zero, List.set_cons_succ]
            refine tl_p (i := 4) (v := ?_) rfl (by rfl) (by kernel_rfl) (by kernel_rfl) (by kernel_rfl) (fun _ _ _ h => h) (by rfl) hHeld ?_ ?_
            rotate_left
            · intro w
              go_simp
              try (with_reducible rfl)
            try simp only [Act.put, List.setIfInBounds_toArray, List.set_cons_zero, List.set_cons_succ]
            refine tl_w (i := 5) (v := ?_) rfl (by rfl) (by kernel_rfl) (by kernel_rfl) (by kernel_rfl) (by kernel_rfl) (by kernel_rfl) (fun _ _ _ h => h) (by rfl) hHeld ?_ ?_
            rotate_left
            · intro w hSw
              try dsimp only at hSw
              go_simp
              try (with_reducible rfl)
            try simp only [Act.put, List.setIfInBounds_toArray, List.set_cons_zero, List.set_cons_succ]
            refine tl_do (i := 1) rfl (by kernel_rfl) (by rfl) (fun K hK => ?_)
            go_simp
            go_at_call 28
            refine (t_writes T.out).mono ?_; rintro e w9 ⟨rfl, hw9⟩
            have hw9' := hw9.symm
            subst hw9'
            clear hw9
            try go_wp2_with fail
            refine hK.out _ _ (⟨bx.out.drew.cell 1, hcnt.out⟩) (fun hHeld1 => ?_)
            clear hK K hHeld
            have hHeld := hHeld1
            clear hHeld1
            try simp only [Act.put, List.setIfInBounds_toArray, List.set_cons_zero, List.set_cons_succ]
            refine tl_p (i := 6) (v := ?_) rfl (by rfl) (by kernel_rfl) (by kernel_rfl) (by kernel_rfl) (fun _ _ _ h => h) (by rfl) hHeld ?_ ?_
            rotate_left
            · intro w
              go_simp
              try (with_reducible rfl)
            try simp only [Act.put, List.setIfInBounds_toArray, List.set_cons_zero, List.set_cons_succ]
            refine tl_p (i := 7) (v := ?_) rfl (by rfl) (by kernel_rfl) (by kernel_rfl) (by kernel_rfl) (fun _ _ _ h => h) (by rfl) hHeld ?_ ?_
            rotate_left
            · intro w
              go_simp
              try (with_reducible rfl)
            try simp only [Act.put, List.setIfInBounds_toArray, List.set_cons_zero, List.set_cons_succ]
            refine tl_p (i := 8) (v := ?_) rfl (by rfl) (by kernel_rfl) (by kernel_rfl) (by kernel_rfl) (fun _ _ _ h => h) (by rfl) hHeld ?_ ?_
            rotate_left
            · intro w
              go_simp
              try (with_reducible rfl)
            try simp only [Act.put, List.setIfInBounds_toArray, List.set_cons_zero, List.set_cons_succ]
            refine tl_p (i := 10) (v := ?_) rfl (by rfl) (by kernel_rfl) (by kernel_rfl) (by kernel_rfl) (fun _ _ _ h => h) (by rfl) hHeld ?_ ?_
            rotate_left
            · intro w
              go_simp
              try (with_reducible rfl)
            try simp only [Act.put, List.setIfInBounds_toArray, List.set_cons_zero, List.set_cons_succ]
            refine tl_do (i := 9) rfl (by kernel_rfl) (by rfl) (fun K hK => ?_)
            go_simp
            go_at_call 29
            refine (t_len T.out).mono ?_; rintro e w9 ⟨rfl, hw9⟩
            have hw9' := hw9.symm
            subst hw9'
            clear hw9
            try go_wp2_with fail
            refine hK.out _ _ (⟨bx.out.drew.cell 1, hcnt.out⟩) (fun hHeld1 => ?_)
            clear hK K hHeld
            have hHeld := hHeld1
            clear hHeld1
            try simp only [Act.put, List.setIfInBounds_toArray, List.set_cons_zero, List.set_cons_succ]
            refine tl_do (i := 11) rfl (by kernel_rfl) (by rfl) (fun K hK => ?_)
            go_simp
            go_at_call 30
            refine (kLr.out).mono ?_; rintro e w9 ⟨rfl, hw9⟩
            have hw9' := hw9.symm
            subst hw9'
            clear hw9
            try go_wp2_with fail
            refine hK.out _ _ (⟨bx.out.drew.cell 1, hcnt.out⟩) (fun hHeld1 => ?_)
            clear hK K hHeld
            have hHeld := hHeld1
            clear hHeld1
            try simp only [Act.put, List.setIfInBounds_toArray, List.set_cons_zero, List.set_cons_succ]
            refine tl_p (i := 12) (v := ?_) rfl (by rfl) (by kernel_rfl) (by kernel_rfl) (by kernel_rfl) (fun _ _ _ h => h) (by rfl) hHeld ?_ ?_
            rotate_left
            · intro w
              go_simp
              try (with_reducible rfl)
            try simp only [Act.put, List.setIfInBounds_toArray, List.set_cons_zero, List.set_cons_succ]
            refine tl_p (i := 13) (v := ?_) rfl (by rfl) (by kernel_rfl) (by kernel_rfl) (by kernel_rfl) (fun _ _ _ h => h) (by rfl) hHeld ?_ ?_
            rotate_left
            · intro w
              go_simp
              try (with_reducible rfl)
            try simp only [Act.put, List.setIfInBounds_toArray, List.set_cons_zero, List.set_cons_succ]
            refine tl_p (i := 14) (v := ?_) rfl (by rfl) (by kernel_rfl) (by kernel_rfl) (by kernel_rfl) (fun _ _ _ h => h) (by rfl) hHeld ?_ ?_
            rotate_left
            · intro w
              go_simp
              try (with_reducible rfl)
            try simp only [Act.put, List.setIfInBounds_toArray, List.set_cons_zero, List.set_cons_succ]
            refine tl_p (i := 15) (v := ?_) rfl (by rfl) (by kernel_rfl) (by kernel_rfl) (by kernel_rfl) (fun _ _ _ h => h) (by rfl) hHeld ?_ ?_
            rotate_left
            · intro w
              go_simp
              try (with_reducible rfl)
            try simp only [Act.put, List.setIfInBounds_toArray, List.set_cons_zero, List.set_cons_succ]
            refine tl_p (i := 16) (v := ?_) rfl (by rfl) (by kernel_rfl) (by kernel_rfl) (by kernel_rfl) (fun _ _ _ h => h) (by rfl) hHeld ?_ ?_
            rotate_left
            · intro w
              go_simp
              try (with_reducible rfl)
            try simp only [Act.put, List.setIfInBounds_toArray, List.set_cons_zero, List.set_cons_succ]
            refine tl_w (i := 17) (v := ?_) rfl (by rfl) (by kernel_rfl) (by kernel_rfl) (by kernel_rfl) (by kernel_rfl) (by kernel_rfl) (fun _ _ _ h => h) (by rfl) hHeld ?_ ?_
            rotate_left
            · intro w hSw
              try dsimp only at hSw
              go_simp
              try (with_reducible rfl)
            try simp only [Act.put, List.setIfInBounds_toArray, List.set_cons_zero, List.set_cons_succ]
            refine tl_p (i := 20) (v := ?_) rfl (by rfl) (by kernel_rfl) (by kernel_rfl) (by kernel_rfl) (fun _ _ _ h => h) (by rfl) hHeld ?_ ?_
            rotate_left
            · intro w
              go_simp
              try (with_reducible rfl)
            try simp only [Act.put, List.setIfInBounds_toArray, List.set_cons_zero, List.set_cons_succ]
            refine tl_p (i := 21) (v := ?_) rfl (by rfl) (by kernel_rfl) (by kernel_rfl) (by kernel_rfl) (fun _ _ _ h => h) (by rfl) hHeld ?_ ?_
            rotate_left
            · intro w
              go_simp
              try (with_reducible rfl)
            try simp only [Act.put, List.setIfInBounds_toArray, List.set_cons_zero, List.set_cons_succ]
            refine tl_w (i := 22) (v := ?_) rfl (by rfl) (by kernel_rfl) (by kernel_rfl) (by kernel_rfl) (by kernel_rfl) (by kernel_rfl) (fun _ _ _ h => h) (by rfl) hHeld ?_ ?_
            rotate_left
            · intro w hSw
              try dsimp only at hSw
              go_simp
              try (with_reducible rfl)
            try simp only [Act.put, List.setIfInBounds_toArray, List.set_cons_zero, List.set_cons_succ]
            refine tl_do (i := 18) rfl (by kernel_rfl) (by rfl) (fun K hK => ?_)
            go_simp
            go_at_call 21
            refine (t_read T.out fd'.out.ok at').mono ?_; rintro e w10 ⟨A10, c10, rfl, hv10, hb10⟩
            have T10 := T.out.below hb10
            have bx10 := Lib.hid ((Whole.drew bx.out).below hb10)
            have hcnt10 := Lib.hid (T10.count.trans (by rw [rl'.out.count]))
            try go_wp2_with fail
            refine hK.out _ _ (⟨bx10.out.cell 1, hcnt10.out⟩) (fun hHeld1 => ?_)
            clear hK K hHeld
            have hHeld := hHeld1
            clear hHeld1
            try simp only [Act.put, List.setIfInBounds_toArray, List.set_cons_zero, List.set_cons_succ]
            refine till_more (fun w' => VB w' (.slice A10 (D'.read at').length c10) (D'.read at')) ?_
            replace hHeld := And.intro hHeld hv10
            refine tl_w (i := 19) (v := ?_) rfl (by rfl) (by kernel_rfl) (by kernel_rfl) (by kernel_rfl) (by kernel_rfl) (by kernel_rfl) (fun _ _ _ h => h) (by rfl) hHeld ?_ ?_
            rotate_left
            · intro w hSw
              have hc := conv_any w _ _ hSw.2
              clear hSw
              go_simp
              try (with_reducible rfl)
            try simp only [Act.put, List.setIfInBounds_toArray, List.set_cons_zero, List.set_cons_succ]
            refine tl_do (i := 23) rfl (by kernel_rfl) (by rfl) (fun K hK => ?_)
            go_simp
            go_at_call 31
            refine (t_rread T10 rok'.out (by rw [rl'.out.uns]; have := fd'.out.uns; omega) at').mono ?_; rintro e w11 ⟨A11, c11, rfl, hv11, hb11⟩
            rw [← rel_read rl'.out] at hv11 ⊢
            have T11 := T10.below hb11
            have hv12 := View.below hv10 hb11
            try go_wp2_with fail
            refine hK.out _ _ (⟨⟨(bx10.out.below hb11).cell 1, T11.count.trans (by rw [rl'.out.count])⟩, hv12⟩) (fun hHeld1 => ?_)
            clear hK K hHeld
            have hHeld := hHeld1
            clear hHeld1
            try simp only [Act.put, List.setIfInBounds_toArray, List.set_cons_zero, List.set_cons_succ]
            refine till_more (fun w' => VB w' (.slice A11 (D'.read at').length c11) (D'.read at')) ?_
            replace hHeld := And.intro hHeld hv11
            refine tl_w (i := 24) (v := ?_) rfl (by rfl) (by kernel_rfl) (by kernel_rfl) (by kernel_rfl) (by kernel_rfl) (by kernel_rfl) (fun _ _ _ h => h) (by rfl) hHeld ?_ ?_
            rotate_left
            · intro w hSw
              have hc := conv_any w _ _ hSw.2
              clear hSw
              go_simp
              try (with_reducible rfl)
            try simp only [Act.put, List.setIfInBounds_toArray, List.set_cons_zero, List.set_cons_succ]
            refine tl_p (i := 25) (v := ?_) rfl (by rfl) (by kernel_rfl) (by kernel_rfl) (by kernel_rfl) (fun _ _ _ h => h) (by rfl) hHeld ?_ ?_
            rotate_left
            · intro w
              go_simp
              try (with_reducible rfl)
            try simp only [Act.put, List.setIfInBounds_toArray, List.set_cons_zero, List.set_cons_succ]
            refine tl_p (i := 26) (v := ?_) rfl (by rfl) (by kernel_rfl) (by kernel_rfl) (by kernel_rfl) (fun _ _ _ h => h) (by rfl) hHeld ?_ ?_
            rotate_left
            · intro w
              go_simp
              try (with_reducible rfl)
            try simp only [Act.put, List.setIfInBounds_toArray, List.set_cons_zero, List.set_cons_succ]
            refine till_done (by kernel_rfl) ?_ _
            have T12 := Lib.hid (T11.mono (C' := fun _ => False) (fun _ t => t.elim))
            clear hHeld hv10 hv11 hv12 hb10 hb11 T10 T11 bx10 hcnt10 hcnt T bx kLr
            go_wp2_with fail
            go_roundw
            case rel => exact ⟨i + 1, D', O', R', by omega, by go_num, rl'.out, fd'.out, fo'.out, rok'.out, T12.out⟩
            case measure => simp [intOf]; omega
        by_cases e3 : way = 3
        · subst e3
          have fd' := Lib.hid (few_brk fd.out nn nlt)
          have rok' := Lib.hid (rbrk_ok rok.out nn)
          have rl' := Lib.hid (rel_brk rl.out nn)
          have kS := Lib.hid (t_break T6.out nn)
          have kR := Lib.hid (fun W (T : Trio w W p1 p2 p3 (D.brk nn) O' R (fun b => b = nb)) => t_rbreak T nn)
          generalize D.brk nn = D' at *
          generalize R.brk nn = R' at *
          go_wp2_with fail
          refine kS.out.mono ?_; rintro e w7 ⟨rfl, T7, k7⟩
          have bx7 := k7.whole bxh.out rfl
          have b2' := bx7.cell 2
          replace T7 := Lib.hid T7
          replace bx7 := Lib.hid bx7
          clear k7 b0 b1 b2 b3 b4 b5
          go_wp2_with fail
          refine (kR.out _ T7.out).mono ?_; rintro e w8 ⟨rfl, T0, k8⟩
          have bx0 := k8.whole bx7.out rfl
          clear k8 T7 bx7 kR kS T6 bxh rl fd rok b2'
          have T := Lib.hid (T0.below (Below.drew (Below.refl _ _)))
          have bx := Lib.hid bx0
          have hcnt := Lib.hid (T.out.count.trans (by rw [rl'.out.count]))
          have hRl : R'.sure.length = D'.now.length := by rw [rl'.out.sure, rl'.out.len]
          have kLr := t_rlen T.out
          rw [hRl] at kLr
          replace kLr := Lib.hid kLr
          clear hRl T0 bx0
          go_wp2_with fail
          refine tl_begin (fun (w' : World) => w'.cell? ⟨nb, 1, none⟩ = some (.int .i64 at') ∧ w'.cell? ⟨p3, 4, none⟩ = some (.int .i64 D'.written)) [] (by kernel_rfl) (⟨bx.out.drew.cell 1, hcnt.out⟩) (fun hHeld => ?_)
          refine tl_p (i := 0) (v := ?_) rfl (by rfl) (by kernel_rfl) (by kernel_rfl) (by kernel_rfl) (fun _ _ _ h => h) (by rfl) hHeld ?_ ?_
          rotate_left
          · intro w
            go_simp
            try (with_reducible rfl)
          try simp only [Act.put, List.setIfInBounds_toArray, List.set_cons_zero, List.set_cons_succ]
          refine tl_p (i := 2) (v := ?_) rfl (by rfl) (by kernel_rfl) (by kernel_rfl) (by kernel_rfl) (fun _ _ _ h => h) (by rfl) hHeld ?_ ?_
          rotate_left
          · intro w
            go_simp
            try (with_reducible rfl)
          try simp only [Act.put, List.setIfInBounds_toArray, List.set_cons_zero, List.set_cons_succ]
          refine tl_p (i := 3) (v := ?_) rfl (by rfl) (by kernel_rfl) (by kernel_rfl) (by kernel_rfl) (fun _ _ _ h => h) (by rfl) hHeld ?_ ?_
          rotate_left
          · intro w
            go_simp
            try (with_reducible rfl)
          try simp only [Act.put, List.setIfInBounds_toArray, List.set_cons_zero, List.set_cons_succ]
          refine tl_p (i := 4) (v := ?_) rfl (by rfl) (by kernel_rfl) (by kernel_rfl) (by kernel_rfl) (fun _ _ _ h => h) (by rfl) hHeld ?_ ?_
          rotate_left
          · intro w
            go_simp
            try (with_reducible rfl)
          try simp only [Act.put, List.setIfInBounds_toArray, List.set_cons_zero, List.set_cons_succ]
          refine tl_w (i := 5) (v := ?_) rfl (by rfl) (by kernel_rfl) (by kernel_rfl) (by kernel_rfl) (by kernel_rfl) (by kernel_rfl) (fun _ _ _ h => h) (by rfl) hHeld ?_ ?_
          rotate_left
          · intro w hSw
            try dsimp only at hSw
            go_simp
            try (with_reducible rfl)
          try simp only [Act.put, List.setIfInBounds_toArray, List.set_cons_zero, List.set_cons_succ]
          refine tl_do (i := 1) rfl (by kernel_rfl) (by rfl) (fun K hK => ?_)
          go_simp
          go_at_call 28
          refine (t_writes T.out).mono ?_; rintro e w9 ⟨rfl, hw9⟩
          have hw9' := hw9.symm
          subst hw9'
          clear hw9
          try go_wp2_with fail
          refine hK.out _ _ (⟨bx.out.drew.cell 1, hcnt.out⟩) (fun hHeld1 => ?_)
          clear hK K hHeld
          have hHeld := hHeld1
          clear hHeld1
          try simp only [Act.put, List.setIfInBounds_toArray, List.set_cons_zero, List.set_cons_succ]
          refine tl_p (i := 6) (v := ?_) rfl (by rfl) (by kernel_rfl) (by kernel_rfl) (by kernel_rfl) (fun _ _ _ h => h) (by rfl) hHeld ?_ ?_
          rotate_left
          · intro w
            go_simp
            try (with_reducible rfl)
          try simp only [Act.put, List.setIfInBounds_toArray, List.set_cons_zero, List.set_cons_succ]
          refine tl_p (i := 7) (v := ?_) rfl (by rfl) (by kernel_rfl) (by kernel_rfl) (by kernel_rfl) (fun _ _ _ h => h) (by rfl) hHeld ?_ ?_
          rotate_left
          · intro w
            go_simp
            try (with_reducible rfl)
          try simp only [Act.put, List.setIfInBounds_toArray, List.set_cons_zero, List.set_cons_succ]
          refine tl_p (i := 8) (v := ?_) rfl (by rfl) (by kernel_rfl) (by kernel_rfl) (by kernel_rfl) (fun _ _ _ h => h) (by rfl) hHeld ?_ ?_
          rotate_left
          · intro w
            go_simp
            try (with_reducible rfl)
          try simp only [Act.put, List.setIfInBounds_toArray, List.set_cons_zero, List.set_cons_succ]
          refine tl_p (i := 10) (v := ?_) rfl (by rfl) (by kernel_rfl) (by kernel_rfl) (by kernel_rfl) (fun _ _ _ h => h) (by rfl) hHeld ?_ ?_
          rotate_left
          · intro w
            go_simp
            try (with_reducible rfl)
          try simp only [Act.put, List.setIfInBounds_toArray, List.set_cons_zero, List.set_cons_succ]
          refine tl_do (i := 9) rfl (by kernel_rfl) (by rfl) (fun K hK => ?_)
          go_simp
          go_at_call 29
          refine (t_len T.out).mono ?_; rintro e w9 ⟨rfl, hw9⟩
          have hw9' := hw9.symm
          subst hw9'
          clear hw9
          try go_wp2_with fail
          refine hK.out _ _ (⟨bx.out.drew.cell 1, hcnt.out⟩) (fun hHeld1 => ?_)
          clear hK K hHeld
          have hHeld := hHeld1
          clear hHeld1
          try simp only [Act.put, List.setIfInBounds_toArray, List.set_cons_zero, List.set_cons_succ]
          refine tl_do (i := 11) rfl (by kernel_rfl) (by rfl) (fun K hK => ?_)
          go_simp
          go_at_call 30
          refine (kLr.out).mono ?_; rintro e w9 ⟨rfl, hw9⟩
          have hw9' := hw9.symm
          subst hw9'
          clear hw9
          try go_wp2_with fail
          refine hK.out _ _ (⟨bx.out.drew.cell 1, hcnt.out⟩) (fun hHeld1 => ?_)
          clear hK K hHeld
          have hHeld := hHeld1
          clear hHeld1
          try simp only [Act.put, List.setIfInBounds_toArray, List.set_cons_zero, List.set_cons_succ]
          refine tl_p (i := 12) (v := ?_) rfl (by rfl) (by kernel_rfl) (by kernel_rfl) (by kernel_rfl) (fun _ _ _ h => h) (by rfl) hHeld ?_ ?_
          rotate_left
          · intro w
            go_simp
            try (with_reducible rfl)
          try simp only [Act.put, List.setIfInBounds_toArray, List.set_cons_zero, List.set_cons_succ]
          refine tl_p (i := 13) (v := ?_) rfl (by rfl) (by kernel_rfl) (by kernel_rfl) (by kernel_rfl) (fun _ _ _ h => h) (by rfl) hHeld ?_ ?_
          rotate_left
          · intro w
            go_simp
            try (with_reducible rfl)
          try simp only [Act.put, List.setIfInBounds_toArray, List.set_cons_zero, List.set_cons_succ]
          refine tl_p (i := 14) (v := ?_) rfl (by rfl) (by kernel_rfl) (by kernel_rfl) (by kernel_rfl) (fun _ _ _ h => h) (by rfl) hHeld ?_ ?_
          rotate_left
          · intro w
            go_simp
            try (with_reducible rfl)
          try simp only [Act.put, List.setIfInBounds_toArray, List.set_cons_zero, List.set_cons_succ]
          refine tl_p (i := 15) (v := ?_) rfl (by rfl) (by kernel_rfl) (by kernel_rfl) (by kernel_rfl) (fun _ _ _ h => h) (by rfl) hHeld ?_ ?_
          rotate_left
          · intro w
            go_simp
            try (with_reducible rfl)
          try simp only [Act.put, List.setIfInBounds_toArray, List.set_cons_zero, List.set_cons_succ]
          refine tl_p (i := 16) (v := ?_) rfl (by rfl) (by kernel_rfl) (by kernel_rfl) (by kernel_rfl) (fun _ _ _ h => h) (by rfl) hHeld ?_ ?_
          rotate_left
          · intro w
            go_simp
            try (with_reducible rfl)
          try simp only [Act.put, List.setIfInBounds_toArray, List.set_cons_zero, List.set_cons_succ]
          refine tl_w (i := 17) (v := ?_) rfl (by rfl) (by kernel_rfl) (by kernel_rfl) (by kernel_rfl) (by kernel_rfl) (by kernel_rfl) (fun _ _ _ h => h) (by rfl) hHeld ?_ ?_
          rotate_left
          · intro w hSw
            try dsimp only at hSw
            go_simp
            try (with_reducible rfl)
          try simp only [Act.put, List.setIfInBounds_toArray, List.set_cons_zero, List.set_cons_succ]
          refine tl_p (i := 20) (v := ?_) rfl (by rfl) (by kernel_rfl) (by kernel_rfl) (by kernel_rfl) (fun _ _ _ h => h) (by rfl) hHeld ?_ ?_
          rotate_left
          · intro w
            go_simp
            try (with_reducible rfl)
          try simp only [Act.put, List.setIfInBounds_toArray, List.set_cons_zero, List.set_cons_succ]
          refine tl_p (i := 21) (v := ?_) rfl (by rfl) (by kernel_rfl) (by kernel_rfl) (by kernel_rfl) (fun _ _ _ h => h) (by rfl) hHeld ?_ ?_
          rotate_left
          · intro w
            go_simp
            try (with_reducible rfl)
          try simp only [Act.put, List.setIfInBounds_toArray, List.set_cons_zero, List.set_cons_succ]
          refine tl_w (i := 22) (v := ?_) rfl (by rfl) (by kernel_rfl) (by kernel_rfl) (by kernel_rfl) (by kernel_rfl) (by kernel_rfl) (fun _ _ _ h => h) (by rfl) hHeld ?_ ?_
          rotate_left
          · intro w hSw
            try dsimp only at hSw
            go_simp
            try (with_reducible rfl)
          try simp only [Act.put, List.setIfInBounds_toArray, List.set_cons_zero, List.set_cons_succ]
          refine tl_do (i := 18) rfl (by kernel_rfl) (by rfl) (fun K hK => ?_)
          go_simp
          go_at_call 21
          refine (t_read T.out fd'.out.ok at').mono ?_; rintro e w10 ⟨A10, c10, rfl, hv10, hb10⟩
          have T10 := T.out.below hb10
          have bx10 := Lib.hid ((Whole.drew bx.out).below hb10)
          have hcnt10 := Lib.hid (T10.count.trans (by rw [rl'.out.count]))
          try go_wp2_with fail
          refine hK.out _ _ (⟨bx10.out.cell 1, hcnt10.out⟩) (fun hHeld1 => ?_)
          clear hK K hHeld
          have hHeld := hHeld1
          clear hHeld1
          try simp only [Act.put, List.setIfInBounds_toArray, List.set_cons_zero, List.set_cons_succ]
          refine till_more (fun w' => VB w' (.slice A10 (D'.read at').length c10) (D'.read at')) ?_
          replace hHeld := And.intro hHeld hv10
          refine tl_w (i := 19) (v := ?_) rfl (by rfl) (by kernel_rfl) (by kernel_rfl) (by kernel_rfl) (by kernel_rfl) (by kernel_rfl) (fun _ _ _ h => h) (by rfl) hHeld ?_ ?_
          rotate_left
          · intro w hSw
            have hc := conv_any w _ _ hSw.2
            clear hSw
            go_simp
            try (with_reducible rfl)
          try simp only [Act.put, List.setIfInBounds_toArray, List.set_cons_zero, List.set_cons_succ]
          refine tl_do (i := 23) rfl (by kernel_rfl) (by rfl) (fun K hK => ?_)
          go_simp
          go_at_call 31
          refine (t_rread T10 rok'.out (by rw [rl'.out.uns]; have := fd'.out.uns; omega) at').mono ?_; rintro e w11 ⟨A11, c11, rfl, hv11, hb11⟩
          rw [← rel_read rl'.out] at hv11 ⊢
          have T11 := T10.below hb11
          have hv12 := View.below hv10 hb11
          try go_wp2_with fail
          refine hK.out _ _ (⟨⟨(bx10.out.below hb11).cell 1, T11.count.trans (by rw [rl'.out.count])⟩, hv12⟩) (fun hHeld1 => ?_)
          clear hK K hHeld
          have hHeld := hHeld1
          clear hHeld1
          try simp only [Act.put, List.setIfInBounds_toArray, List.set_cons_zero, List.set_cons_succ]
          refine till_more (fun w' => VB w' (.slice A11 (D'.read at').length c11) (D'.read at')) ?_
          replace hHeld := And.intro hHeld hv11
          refine tl_w (i := 24) (v := ?_) rfl (by rfl) (by kernel_rfl) (by kernel_rfl) (by kernel_rfl) (by kernel_rfl) (by kernel_rfl) (fun _ _ _ h => h) (by rfl) hHeld ?_ ?_
          rotate_left
          · intro w hSw
            have hc := conv_any w _ _ hSw.2
            clear hSw
            go_simp
            try (with_reducible rfl)
          try simp only [Act.put, List.setIfInBounds_toArray, List.set_cons_zero, List.set_cons_succ]
          refine tl_p (i := 25) (v := ?_) rfl (by rfl) (by kernel_rfl) (by kernel_rfl) (by kernel_rfl) (fun _ _ _ h => h) (by rfl) hHeld ?_ ?_
          rotate_left
          · intro w
            go_simp
            try (with_reducible rfl)
          try simp only [Act.put, List.setIfInBounds_toArray, List.set_cons_zero, List.set_cons_succ]
          refine tl_p (i := 26) (v := ?_) rfl (by rfl) (by kernel_rfl) (by kernel_rfl) (by kernel_rfl) (fun _ _ _ h => h) (by rfl) hHeld ?_ ?_
          rotate_left
          · intro w
            go_simp
            try (with_reducible rfl)
          try simp only [Act.put, List.setIfInBounds_toArray, List.set_cons_zero, List.set_cons_succ]
          refine till_done (by kernel_rfl) ?_ _
          have T12 := Lib.hid (T11.mono (C' := fun _ => False) (fun _ t => t.elim))
          clear hHeld hv10 hv11 hv12 hb10 hb11 T10 T11 bx10 hcnt10 hcnt T bx kLr
          go_wp2_with fail
          go_roundw
          case rel => exact ⟨i + 1, D', O', R', by omega, by go_num, rl'.out, fd'.out, fo'.out, rok'.out, T12.out⟩
          case measure => simp [intOf]; omega
        · have z0 : (way == 0) = false := beq_eq_false_iff_ne.2 e0
          have z1 : (way == 1) = false := beq_eq_false_iff_ne.2 e1
          have z2 : (way == 2) = false := beq_eq_false_iff_ne.2 e2
          have z3 : (way == 3) = false := beq_eq_false_iff_ne.2 e3
          have fd' := Lib.hid fd.out.weak
          have rok' := rok
          have rl' := Lib.hid rl.out.weak
          have T0 := T6.out
          have bx0 := bxh.out
          clear rl fd T6 bxh
          have T := Lib.hid (T0.below (Below.drew (Below.refl _ _)))
          have bx := Lib.hid bx0
          have hcnt := Lib.hid (T.out.count.trans (by rw [rl'.out.count]))
          have hRl : R.sure.length = D.now.length := by rw [rl'.out.sure, rl'.out.len]
          have kLr := t_rlen T.out
          rw [hRl] at kLr
          replace kLr := Lib.hid kLr
          clear hRl T0 bx0
          go_wp2_with fail
          refine tl_begin (fun (w' : World) => w'.cell? ⟨nb, 1, none⟩ = some (.int .i64 at') ∧ w'.cell? ⟨p3, 4, none⟩ = some (.int .i64 D.written)) [] (by kernel_rfl) (⟨bx.out.drew.cell 1, hcnt.out⟩) (fun hHeld => ?_)
          refine tl_p (i := 0) (v := ?_) rfl (by rfl) (by kernel_rfl) (by kernel_rfl) (by kernel_rfl) (fun _ _ _ h => h) (by rfl) hHeld ?_ ?_
          rotate_left
          · intro w
            go_simp
            try (with_reducible rfl)
          try simp only [Act.put, List.setIfInBounds_toArray, List.set_cons_zero, List.set_cons_succ]
          refine tl_p (i := 2) (v := ?_) rfl (by rfl) (by kernel_rfl) (by kernel_rfl) (by kernel_rfl) (fun _ _ _ h => h) (by rfl) hHeld ?_ ?_
          rotate_left
          · intro w
            go_simp
            try (with_reducible rfl)
          try simp only [Act.put, List.setIfInBounds_toArray, List.set_cons_zero, List.set_cons_succ]
          refine tl_p (i := 3) (v := ?_) rfl (by rfl) (by kernel_rfl) (by kernel_rfl) (by kernel_rfl) (fun _ _ _ h => h) (by rfl) hHeld ?_ ?_
          rotate_left
          · intro w
            go_simp
            try (with_reducible rfl)
          try simp only [Act.put, List.setIfInBounds_toArray, List.set_cons_zero, List.set_cons_succ]
          refine tl_p (i := 4) (v := ?_) rfl (by rfl) (by kernel_rfl) (by kernel_rfl) (by kernel_rfl) (fun _ _ _ h => h) (by rfl) hHeld ?_ ?_
          rotate_left
          · intro w
            go_simp
            try (with_reducible rfl)
          try simp only [Act.put, List.setIfInBounds_toArray, List.set_cons_zero, List.set_cons_succ]
          refine tl_w (i := 5) (v := ?_) rfl (by rfl) (by kernel_rfl) (by kernel_rfl) (by kernel_rfl) (by kernel_rfl) (by kernel_rfl) (fun _ _ _ h => h) (by rfl) hHeld ?_ ?_
          rotate_left
          · intro w hSw
            try dsimp only at hSw
            go_simp
            try (with_reducible rfl)
          try simp only [Act.put, List.setIfInBounds_toArray, List.set_cons_zero, List.set_cons_succ]
          refine tl_do (i := 1) rfl (by kernel_rfl) (by rfl) (fun K hK => ?_)
          go_simp
          go_at_call 28
          refine (t_writes T.out).mono ?_; rintro e w9 ⟨rfl, hw9⟩
          have hw9' := hw9.symm
          subst hw9'
          clear hw9
          try go_wp2_with fail
          refine hK.out _ _ (⟨bx.out.drew.cell 1, hcnt.out⟩) (fun hHeld1 => ?_)
          clear hK K hHeld
          have hHeld := hHeld1
          clear hHeld1
          try simp only [Act.put, List.setIfInBounds_toArray, List.set_cons_zero, List.set_cons_succ]
          refine tl_p (i := 6) (v := ?_) rfl (by rfl) (by kernel_rfl) (by kernel_rfl) (by kernel_rfl) (fun _ _ _ h => h) (by rfl) hHeld ?_ ?_
          rotate_left
          · intro w
            go_simp
            try (with_reducible rfl)
          try simp only [Act.put, List.setIfInBounds_toArray, List.set_cons_zero, List.set_cons_succ]
          refine tl_p (i := 7) (v := ?_) rfl (by rfl) (by kernel_rfl) (by kernel_rfl) (by kernel_rfl) (fun _ _ _ h => h) (by rfl) hHeld ?_ ?_
          rotate_left
          · intro w
            go_simp
            try (with_reducible rfl)
          try simp only [Act.put, List.setIfInBounds_toArray, List.set_cons_zero, List.set_cons_succ]
          refine tl_p (i := 8) (v := ?_) rfl (by rfl) (by kernel_rfl) (by kernel_rfl) (by kernel_rfl) (fun _ _ _ h => h) (by rfl) hHeld ?_ ?_
          rotate_left
          · intro w
            go_simp
            try (with_reducible rfl)
          try simp only [Act.put, List.setIfInBounds_toArray, List.set_cons_zero, List.set_cons_succ]
          refine tl_p (i := 10) (v := ?_) rfl (by rfl) (by kernel_rfl) (by kernel_rfl) (by kernel_rfl) (fun _ _ _ h => h) (by rfl) hHeld ?_ ?_
          rotate_left
          · intro w
            go_simp
            try (with_reducible rfl)
          try simp only [Act.put, List.setIfInBounds_toArray, List.set_cons_zero, List.set_cons_succ]
          refine tl_do (i := 9) rfl (by kernel_rfl) (by rfl) (fun K hK => ?_)
          go_simp
          go_at_call 29
          refine (t_len T.out).mono ?_; rintro e w9 ⟨rfl, hw9⟩
          have hw9' := hw9.symm
          subst hw9'
          clear hw9
          try go_wp2_with fail
          refine hK.out _ _ (⟨bx.out.drew.cell 1, hcnt.out⟩) (fun hHeld1 => ?_)
          clear hK K hHeld
          have hHeld := hHeld1
          clear hHeld1
          try simp only [Act.put, List.setIfInBounds_toArray, List.set_cons_zero, List.set_cons_succ]
          refine tl_do (i := 11) rfl (by kernel_rfl) (by rfl) (fun K hK => ?_)
          go_simp
          go_at_call 30
          refine (kLr.out).mono ?_; rintro e w9 ⟨rfl, hw9⟩
          have hw9' := hw9.symm
          subst hw9'
          clear hw9
          try go_wp2_with fail
          refine hK.out _ _ (⟨bx.out.drew.cell 1, hcnt.out⟩) (fun hHeld1 => ?_)
          clear hK K hHeld
          have hHeld := hHeld1
          clear hHeld1
          try simp only [Act.put, List.setIfInBounds_toArray, List.set_cons_zero, List.set_cons_succ]
          refine tl_p (i := 12) (v := ?_) rfl (by rfl) (by kernel_rfl) (by kernel_rfl) (by kernel_rfl) (fun _ _ _ h => h) (by rfl) hHeld ?_ ?_
          rotate_left
          · intro w
            go_simp
            try (with_reducible rfl)
          try simp only [Act.put, List.setIfInBounds_toArray, List.set_cons_zero, List.set_cons_succ]
          refine tl_p (i := 13) (v := ?_) rfl (by rfl) (by kernel_rfl) (by kernel_rfl) (by kernel_rfl) (fun _ _ _ h => h) (by rfl) hHeld ?_ ?_
          rotate_left
          · intro w
            go_simp
            try (with_reducible rfl)
          try simp only [Act.put, List.setIfInBounds_toArray, List.set_cons_zero, List.set_cons_succ]
          refine tl_p (i := 14) (v := ?_) rfl (by rfl) (by kernel_rfl) (by kernel_rfl) (by kernel_rfl) (fun _ _ _ h => h) (by rfl) hHeld ?_ ?_
          rotate_left
          · intro w
            go_simp
            try (with_reducible rfl)
          try simp only [Act.put, List.setIfInBounds_toArray, List.set_cons_zero, List.set_cons_succ]
          refine tl_p (i := 15) (v := ?_) rfl (by rfl) (by kernel_rfl) (by kernel_rfl) (by kernel_rfl) (fun _ _ _ h => h) (by rfl) hHeld ?_ ?_
          rotate_left
          · intro w
            go_simp
            try (with_reducible rfl)
          try simp only [Act.put, List.setIfInBounds_toArray, List.set_cons_zero, List.set_cons_succ]
          refine tl_p (i := 16) (v := ?_) rfl (by rfl) (by kernel_rfl) (by kernel_rfl) (by kernel_rfl) (fun _ _ _ h => h) (by rfl) hHeld ?_ ?_
          rotate_left
          · intro w
            go_simp
            try (with_reducible rfl)
          try simp only [Act.put, List.setIfInBounds_toArray, List.set_cons_zero, List.set_cons_succ]
          refine tl_w (i := 17) (v := ?_) rfl (by rfl) (by kernel_rfl) (by kernel_rfl) (by kernel_rfl) (by kernel_rfl) (by kernel_rfl) (fun _ _ _ h => h) (by rfl) hHeld ?_ ?_
          rotate_left
          · intro w hSw
            try dsimp only at hSw
            go_simp
            try (with_reducible rfl)
          try simp only [Act.put, List.setIfInBounds_toArray, List.set_cons_zero, List.set_cons_succ]
          refine tl_p (i := 20) (v := ?_) rfl (by rfl) (by kernel_rfl) (by kernel_rfl) (by kernel_rfl) (fun _ _ _ h => h) (by rfl) hHeld ?_ ?_
          rotate_left
          · intro w
            go_simp
            try (with_reducible rfl)
          try simp only [Act.put, List.setIfInBounds_toArray, List.set_cons_zero, List.set_cons_succ]
          refine tl_p (i := 21) (v := ?_) rfl (by rfl) (by kernel_rfl) (by kernel_rfl) (by kernel_rfl) (fun _ _ _ h => h) (by rfl) hHeld ?_ ?_
          rotate_left
          · intro w
            go_simp
            try (with_reducible rfl)
          try simp only [Act.put, List.setIfInBounds_toArray, List.set_cons_zero, List.set_cons_succ]
          refine tl_w (i := 22) (v := ?_) rfl (by rfl) (by kernel_rfl) (by kernel_rfl) (by kernel_rfl) (by kernel_rfl) (by kernel_rfl) (fun _ _ _ h => h) (by rfl) hHeld ?_ ?_
          rotate_left
          · intro w hSw
            try dsimp only at hSw
            go_simp
            try (with_reducible rfl)
          try simp only [Act.put, List.setIfInBounds_toArray, List.set_cons_zero, List.set_cons_succ]
          refine tl_do (i := 18) rfl (by kernel_rfl) (by rfl) (fun K hK => ?_)
          go_simp
          go_at_call 21
          refine (t_read T.out fd'.out.ok at').mono ?_; rintro e w10 ⟨A10, c10, rfl, hv10, hb10⟩
          have T10 := T.out.below hb10
          have bx10 := Lib.hid ((Whole.drew bx.out).below hb10)
          have hcnt10 := Lib.hid (T10.count.trans (by rw [rl'.out.count]))
          try go_wp2_with fail
          refine hK.out _ _ (⟨bx10.out.cell 1, hcnt10.out⟩) (fun hHeld1 => ?_)
          clear hK K hHeld
          have hHeld := hHeld1
          clear hHeld1
          try simp only [Act.put, List.setIfInBounds_toArray, List.set_cons_zero, List.set_cons_succ]
          refine till_more (fun w' => VB w' (.slice A10 (D.read at').length c10) (D.read at')) ?_
          replace hHeld := And.intro hHeld hv10
          refine tl_w (i := 19) (v := ?_) rfl (by rfl) (by kernel_rfl) (by kernel_rfl) (by kernel_rfl) (by kernel_rfl) (by kernel_rfl) (fun _ _ _ h => h) (by rfl) hHeld ?_ ?_
          rotate_left
          · intro w hSw
            have hc := conv_any w _ _ hSw.2
            clear hSw
            go_simp
            try (with_reducible rfl)
          try simp only [Act.put, List.setIfInBounds_toArray, List.set_cons_zero, List.set_cons_succ]
          refine tl_do (i := 23) rfl (by kernel_rfl) (by rfl) (fun K hK => ?_)
          go_simp
          go_at_call 31
          refine (t_rread T10 rok'.out (by rw [rl'.out.uns]; have := fd'.out.uns; omega) at').mono ?_; rintro e w11 ⟨A11, c11, rfl, hv11, hb11⟩
          rw [← rel_read rl'.out] at hv11 ⊢
          have T11 := T10.below hb11
          have hv12 := View.below hv10 hb11
          try go_wp2_with fail
          refine hK.out _ _ (⟨⟨(bx10.out.below hb11).cell 1, T11.count.trans (by rw [rl'.out.count])⟩, hv12⟩) (fun hHeld1 => ?_)
          clear hK K hHeld
          have hHeld := hHeld1
          clear hHeld1
          try simp only [Act.put, List.setIfInBounds_toArray, List.set_cons_zero, List.set_cons_succ]
          refine till_more (fun w' => VB w' (.slice A11 (D.read at').length c11) (D.read at')) ?_
          replace hHeld := And.intro hHeld hv11
          refine tl_w (i := 24) (v := ?_) rfl (by rfl) (by kernel_rfl) (by kernel_rfl) (by kernel_rfl) (by kernel_rfl) (by kernel_rfl) (fun _ _ _ h => h) (by rfl) hHeld ?_ ?_
          rotate_left
          · intro w hSw
            have hc := conv_any w _ _ hSw.2
            clear hSw
            go_simp
            try (with_reducible rfl)
          try simp only [Act.put, List.setIfInBounds_toArray, List.set_cons_zero, List.set_cons_succ]
          refine tl_p (i := 25) (v := ?_) rfl (by rfl) (by kernel_rfl) (by kernel_rfl) (by kernel_rfl) (fun _ _ _ h => h) (by rfl) hHeld ?_ ?_
          rotate_left
          · intro w
            go_simp
            try (with_reducible rfl)
          try simp only [Act.put, List.setIfInBounds_toArray, List.set_cons_zero, List.set_cons_succ]
          refine tl_p (i := 26) (v := ?_) rfl (by rfl) (by kernel_rfl) (by kernel_rfl) (by kernel_rfl) (fun _ _ _ h => h) (by rfl) hHeld ?_ ?_
          rotate_left
          · intro w
            go_simp
            try (with_reducible rfl)
          try simp only [Act.put, List.setIfInBounds_toArray, List.set_cons_zero, List.set_cons_succ]
          refine till_done (by kernel_rfl) ?_ _
          have T12 := Lib.hid (T11.mono (C' := fun _ => False) (fun _ t => t.elim))
          clear hHeld hv10 hv11 hv12 hb10 hb11 T10 T11 bx10 hcnt10 hcnt T bx kLr
          go_wp2_with fail
          go_roundw
          case rel => exact ⟨i + 1, D, O', R, by omega, by go_num, rl'.out, fd'.out, fo'.out, rok'.out, T12.out⟩
          case measure => simp [intOf]; omega
      · have q1 : ¬ (i : Int) < (l.length : Int) := by omega
        replace T := Lib.hid T
        replace rl := Lib.hid rl
        replace fd := Lib.hid fd
        replace fo := Lib.hid fo
        replace rok := Lib.hid rok
        go_upto_region 37 with fail
        go_loopw [13] (fun q wr => ∃ j : Nat, j ≤ R.sure.length ∧ q = .int .i64 j ∧ Trio w wr p1 p2 p3 D O R (fun _ => False)) (fun q _ => R.sure.length - (intOf q).toNat)
        case atStart => exact ⟨0, by omega, rfl, T.out⟩
        clear T
        case round =>
          obtain ⟨j, hj, rfl, T⟩ := hrel
          have kLr := Lib.hid (t_rlen T)
          have hRm := rok.out.max
          replace T := Lib.hid T
          by_cases hlt2 : j < R.sure.length
          · have q2 : (j : Int) < (R.sure.length : Int) := by omega
            go_wp2_with fail
            refine kLr.out.mono ?_; rintro e w9 ⟨rfl, hw9⟩
            have hw9' := hw9.symm
            subst hw9'
            clear hw9 kLr
            go_wp2_with fail
            refine tl_begin (fun (w' : World) => True) [] (by kernel_rfl) (trivial) (fun hHeld => ?_)
            refine tl_p (i := 0) (v := ?_) rfl (by rfl) (by kernel_rfl) (by kernel_rfl) (by kernel_rfl) (fun _ _ _ h => h) (by rfl) hHeld ?_ ?_
            rotate_left
            · intro w
              go_simp
              try (with_reducible rfl)
            try simp only [Act.put, List.setIfInBounds_toArray, List.set_cons_zero, List.set_cons_succ]
            refine tl_p (i := 1) (v := ?_) rfl (by rfl) (by kernel_rfl) (by kernel_rfl) (by kernel_rfl) (fun _ _ _ h => h) (by rfl) hHeld ?_ ?_
            rotate_left
            · intro w
              go_simp
              try (with_reducible rfl)
            try simp only [Act.put, List.setIfInBounds_toArray, List.set_cons_zero, List.set_cons_succ]
            refine tl_p (i := 4) (v := ?_) rfl (by rfl) (by kernel_rfl) (by kernel_rfl) (by kernel_rfl) (fun _ _ _ h => h) (by rfl) hHeld ?_ ?_
            rotate_left
            · intro w
              go_simp
              try (with_reducible rfl)
            try simp only [Act.put, List.setIfInBounds_toArray, List.set_cons_zero, List.set_cons_succ]
            refine tl_p (i := 5) (v := ?_) rfl (by rfl) (by kernel_rfl) (by kernel_rfl) (by kernel_rfl) (fun _ _ _ h => h) (by rfl) hHeld ?_ ?_
            rotate_left
            · intro w
              go_simp
              try (with_reducible rfl)
            try simp only [Act.put, List.setIfInBounds_toArray, List.set_cons_zero, List.set_cons_succ]
            refine tl_do (i := 2) rfl (by kernel_rfl) (by rfl) (fun K hK => ?_)
            go_simp
            go_at_call 21
            refine (t_read (T.out.below (Below.drew (Below.refl _ _))) fd.out.ok (j : Int)).mono ?_; rintro e w10 ⟨A10, c10, rfl, hv10, hb10⟩
            have T10 := (T.out.below (Below.drew (Below.refl _ _))).below hb10
            try go_wp2_with fail
            refine hK.out _ _ (trivial) (fun hHeld1 => ?_)
            clear hK K hHeld
            have hHeld := hHeld1
            clear hHeld1
            try simp only [Act.put, List.setIfInBounds_toArray, List.set_cons_zero, List.set_cons_succ]
            refine till_more (fun w' => VB w' (.slice A10 (D.read (j : Int)).length c10) (D.read (j : Int))) ?_
            replace hHeld := And.intro hHeld hv10
            refine tl_w (i := 3) (v := ?_) rfl (by rfl) (by kernel_rfl) (by kernel_rfl) (by kernel_rfl) (by kernel_rfl) (by kernel_rfl) (fun _ _ _ h => h) (by rfl) hHeld ?_ ?_
            rotate_left
            · intro w hSw
              have hc := conv_any w _ _ hSw.2
              clear hSw
              go_simp
              try (with_reducible rfl)
            try simp only [Act.put, List.setIfInBounds_toArray, List.set_cons_zero, List.set_cons_succ]
            refine tl_do (i := 6) rfl (by kernel_rfl) (by rfl) (fun K hK => ?_)
            go_simp
            go_at_call 31
            refine (t_rread T10 rok.out (by rw [rl.out.uns]; have := fd.out.uns; omega) (j : Int)).mono ?_; rintro e w11 ⟨A11, c11, rfl, hv11, hb11⟩
            rw [← rel_read rl.out] at hv11 ⊢
            have T11 := T10.below hb11
            have hv12 := View.below hv10 hb11
            try go_wp2_with fail
            refine hK.out _ _ (⟨trivial, hv12⟩) (fun hHeld1 => ?_)
            clear hK K hHeld
            have hHeld := hHeld1
            clear hHeld1
            try simp only [Act.put, List.setIfInBounds_toArray, List.set_cons_zero, List.set_cons_succ]
            refine till_more (fun w' => VB w' (.slice A11 (D.read (j : Int)).length c11) (D.read (j : Int))) ?_
            replace hHeld := And.intro hHeld hv11
            refine tl_w (i := 7) (v := ?_) rfl (by rfl) (by kernel_rfl) (by kernel_rfl) (by kernel_rfl) (by kernel_rfl) (by kernel_rfl) (fun _ _ _ h => h) (by rfl) hHeld ?_ ?_
            rotate_left
            · intro w hSw
              have hc := conv_any w _ _ hSw.2
              clear hSw
              go_simp
              try (with_reducible rfl)
            try simp only [Act.put, List.setIfInBounds_toArray, List.set_cons_zero, List.set_cons_succ]
            refine tl_p (i := 8) (v := ?_) rfl (by rfl) (by kernel_rfl) (by kernel_rfl) (by kernel_rfl) (fun _ _ _ h => h) (by rfl) hHeld ?_ ?_
            rotate_left
            · intro w
              go_simp
              try (with_reducible rfl)
            try simp only [Act.put, List.setIfInBounds_toArray, List.set_cons_zero, List.set_cons_succ]
            refine till_done (by kernel_rfl) ?_ _
            have T12 := Lib.hid T11
            clear hHeld hv10 hv11 hv12 hb10 hb11 T10 T11
            go_wp2_with fail
            go_roundw
            case rel => exact ⟨j + 1, by omega, by go_num, T12.out⟩
            case measure => simp [intOf]; omega
          · have q2 : ¬ (j : Int) < (R.sure.length : Int) := by omega
            go_wp2_with fail
            refine kLr.out.mono ?_; rintro e w9 ⟨rfl, hw9⟩
            have hw9' := hw9.symm
            subst hw9'
            clear hw9 kLr
            go_wp2_with fail
            go_ret
            exact ⟨rfl, T.out.acc⟩

theorem sectorsPlay_walk (W : World) (n : Int) (_ : (Lit.int .i64 n).wf = true) (A : Option Addr) (k c : Nat) (l : (Kd.sl 38 KAct).T) (z : Rd Try.prog W (.sl 38 KAct) [.slice A k c] l) :
    Calls Try.prog 5 #[.int .i64 n, .slice A k c] W fun e w' => e = .returned (.bool true) ∧ Below W.heap.size W w' := by
  obtain ⟨rfl, h⟩ := acts_of_rd z
  have hl : (l.map actOf).length = List.length l := List.length_map ..
  have := play_core W n A c (l.map actOf) (fun i hi => by
    obtain ⟨b, o, Ak, ck, e, hb, ha⟩ := h i (by rw [← hl]; exact hi)
    exact ⟨b, o, Ak, ck, e, hb, by rw [List.getElem_map]; exact ha⟩)
  rw [hl] at this
  exact this
end Go.Proofs.Ytbfcaapompkjhaa
