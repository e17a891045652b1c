/-
  SpanPuts: its walk.
-/
import Derived.Test.YtbfcaapompkjhaaFi
import Derived.Test.YtbfcaapompkjhaaFf
set_option linter.unusedVariables false
set_option linter.unusedSimpArgs false
namespace Go.Proofs.Ytbfcaapompkjhaa
open Go.RowKit Go.Proofs.PosteMem Go.Proofs.PosteOpen
attribute [local go_sem ↓] Go.wp_at_zero Go.wp_at_succ

theorem rputok {D : Rk} (h : D.ok) (at' : Int) (b : List Int) : (D.put at' b).1.ok := by
  unfold Rk.put
  split
  · exact h
  · split
    · exact h
    · exact (rputN_ok h at' b _).1
set_option maxRecDepth 100000 in
set_option maxHeartbeats 16000000 in
theorem puts_core (w : World) (n at' : Int) (Ab : Option Addr) (cb : Nat) (b : List Int) (hv : VB w (.slice Ab b.length cb) b) (from' size left : Int) (hsz : size ≤ 9223372036854775807) :
    Calls Try.prog 9 #[.int .i64 n, .int .i64 at', .slice Ab b.length cb, .int .i64 from', .int .i64 size, .int .i64 left] w fun e w' => e = .returned (.bool true) ∧ Below w.heap.size w w' := by
  obtain ⟨j0, hj0, hy0, hy1, hy2⟩ := info_parts infoByte
  have ha := Lib.hid hv
  clear hv
  by_cases hg : n < 0 ∨ 60 < n ∨ 2000 < b.length
  · go_enter Try.func9, Try.ntmps9
    go_wp2_with fail
    refine (alive4 _).mono ?_; rintro e w1 ⟨rfl, hb1⟩
    replace hb1 := Lib.hid hb1
    go_wp2_with fail
    all_goals
      first
        | (go_ret; exact ⟨rfl, hb1.out⟩)
        | (exfalso; omega)
  · obtain ⟨n, rfl⟩ : ∃ k : Nat, n = k := ⟨n.toNat, by omega⟩
    have g1 : (n : Int) ≤ 60 := by omega
    have g2 : (b.length : Int) ≤ 2000 := by omega
    clear hg
    have kN1 := Lib.hid (fun W => need_any W b.length (by omega))
    have kN2 := Lib.hid (fun W => rneed_any W b.length (by omega))
    have kN3 := Lib.hid (fun W => need_any W size hsz)
    have kN4 := Lib.hid (fun W => rneed_any W size hsz)
    go_enter Try.func9, Try.ntmps9
    go_wp2_with fail
    refine (alive4 _).mono ?_; rintro e w1 ⟨rfl, hb1⟩
    replace hb1 := Lib.hid hb1
    go_wp2_with fail
    refine (new_any _ n).mono ?_; rintro e w2 ⟨rfl, h2, hb2⟩
    replace h2 := Lib.hid h2
    replace hb2 := Lib.hid hb2
    go_wp2_with fail
    refine (rnew_any _ n).mono ?_; rintro e w4 ⟨rfl, h4, hb4⟩
    have s1 := hb1.out.size
    have s2 := hb2.out.size
    have s4 := hb4.size
    have TT : Duo w w4 w1.heap.size w2.heap.size (Dk.new (many n)) (Rk.new (many n)) (fun _ => False) :=
      ⟨_, _, h2.out.below hb4, h4, fun b hb => ⟨by omega, by omega, by omega, fun t => t⟩, fun b hb => ⟨by omega, by omega, fun t => t⟩, fun b t => t.elim, below_then (below_then hb1.out hb2.out) hb4⟩
    have rlN := rel_new (many n)
    have dokN := new_ok (many n) (many_le n)
    have rokN := rnew_ok (many n) (many_le n)
    have hwN : (Dk.new (many n)).written = 0 ∧ (Dk.new (many n)).uns.length = 0 := ⟨rfl, rfl⟩
    generalize Dk.new (many n) = DN at *
    generalize Rk.new (many n) = RN at *
    clear h2 h4 hb1 hb2 hb4 s1 s2 s4
    generalize w1.heap.size = p1 at *
    generalize w2.heap.size = p3 at *
    by_cases hl : 0 ≤ left ∧ left < 40
    · obtain ⟨hl1, hl2⟩ := hl
      have rl0 := rel_brk rlN left
      have dok0 := brk_ok dokN (n := left) (by omega)
      have rok0 := rbrk_ok rokN left
      have hw0 : (DN.brk left).written = 0 ∧ (DN.brk left).uns.length = 0 := by unfold Dk.brk; split; exact hwN; exact hwN
      have kB := Lib.hid TT.left
      generalize hD0 : DN.brk left = D0 at *
      generalize hR0 : RN.brk left = R0 at *
      obtain ⟨hw0a, hw0b⟩ := hw0
      replace rl0 := Lib.hid rl0
      replace dok0 := Lib.hid dok0
      replace rok0 := Lib.hid rok0
      replace hD0 := Lib.hid hD0
      replace hR0 := Lib.hid hR0
      clear TT rlN dokN rokN hwN
      go_wp2_with fail
      obtain ⟨C1, hd1, _, hback1⟩ := kB.out
      have kBr := hd_break hd1 left
      rw [hD0.out] at kBr
      refine kBr.mono ?_; rintro e w5 ⟨rfl, h5, k5⟩
      obtain ⟨T5, _⟩ := hback1 _ _ h5 k5
      replace T5 := Lib.hid T5
      clear hd1 hback1 h5 k5 kB kBr
      go_wp2_with fail
      obtain ⟨C3, hr3, _, hback3⟩ := T5.out.right
      obtain ⟨F3, hrf, a3, a4, acc3⟩ := hr3
      refine (rbreak_any _ F3 p3 RN left hrf).mono ?_; rintro e w6 ⟨rfl, hp6⟩
      rw [hR0.out] at hp6
      obtain ⟨h6, k6⟩ := hr_post a3 a4 acc3 hp6
      obtain ⟨T0, _⟩ := hback3 _ _ h6 k6
      replace rl0 := rl0.out
      replace dok0 := dok0.out
      replace rok0 := rok0.out
      clear hrf a3 a4 acc3 hp6 h6 k6 hback3 T5
      have T := Lib.hid (T0.below (Below.drew (Below.refl _ _)))
      have yy := Lib.hid (rel_put rl0 rok0 (at' := at') (b := b) (by omega) (by omega))
      have hfew := put_few dok0 at' b
      have hnb : need b.length ≤ 32 := by unfold need; omega
      have hrok := Lib.hid (rputok rok0 at' b)
      have dok := Lib.hid dok0
      have rok := Lib.hid rok0
      have rl := Lib.hid rl0
      clear T0 rl0 rok0 dok0
      go_wp2_with fail
      refine tl_begin (fun (w' : World) => True) [] (by kernel_rfl) (trivial) (fun hHeld => ?_)
      refine tl_p (i := 0) (v := ?_) rfl (by rfl) (by kernel_rfl) (by kernel_rfl) (by kernel_rfl) (fun _ _ _ h => h) (by rfl) hHeld ?_ ?_
      rotate_left
      · intro w
        go_simp
        try (with_reducible rfl)
      try simp only [Act.put, List.setIfInBounds_toArray, List.set_cons_zero, List.set_cons_succ]
      refine tl_p (i := 1) (v := ?_) rfl (by rfl) (by kernel_rfl) (by kernel_rfl) (by kernel_rfl) (fun _ _ _ h => h) (by rfl) hHeld ?_ ?_
      rotate_left
      · intro w
        go_simp
        try (with_reducible rfl)
      try simp only [Act.put, List.setIfInBounds_toArray, List.set_cons_zero, List.set_cons_succ]
      refine tl_p (i := 3) (v := ?_) rfl (by rfl) (by kernel_rfl) (by kernel_rfl) (by kernel_rfl) (fun _ _ _ h => h) (by rfl) hHeld ?_ ?_
      rotate_left
      · intro w
        go_simp
        try (with_reducible rfl)
      try simp only [Act.put, List.setIfInBounds_toArray, List.set_cons_zero, List.set_cons_succ]
      refine tl_p (i := 4) (v := ?_) rfl (by rfl) (by kernel_rfl) (by kernel_rfl) (by kernel_rfl) (fun _ _ _ h => h) (by rfl) hHeld ?_ ?_
      rotate_left
      · intro w
        go_simp
        try (with_reducible rfl)
      try simp only [Act.put, List.setIfInBounds_toArray, List.set_cons_zero, List.set_cons_succ]
      refine tl_do (i := 2) rfl (by kernel_rfl) (by rfl) (fun K hK => ?_)
      go_simp
      go_at_call 36
      refine (kN1.out _).mono ?_; rintro e w9 ⟨rfl, hw9⟩
      have hw9' := hw9.symm
      subst hw9'
      clear hw9
      try go_wp2_with fail
      refine hK.out _ _ (trivial) (fun hHeld1 => ?_)
      clear hK K hHeld
      have hHeld := hHeld1
      clear hHeld1
      try simp only [Act.put, List.setIfInBounds_toArray, List.set_cons_zero, List.set_cons_succ]
      refine tl_do (i := 5) rfl (by kernel_rfl) (by rfl) (fun K hK => ?_)
      go_simp
      go_at_call 33
      refine (kN2.out _).mono ?_; rintro e w9 ⟨rfl, hw9⟩
      have hw9' := hw9.symm
      subst hw9'
      clear hw9
      try go_wp2_with fail
      refine hK.out _ _ (trivial) (fun hHeld1 => ?_)
      clear hK K hHeld
      have hHeld := hHeld1
      clear hHeld1
      try simp only [Act.put, List.setIfInBounds_toArray, List.set_cons_zero, List.set_cons_succ]
      refine tl_p (i := 6) (v := ?_) rfl (by rfl) (by kernel_rfl) (by kernel_rfl) (by kernel_rfl) (fun _ _ _ h => h) (by rfl) hHeld ?_ ?_
      rotate_left
      · intro w
        go_simp
        try (with_reducible rfl)
      try simp only [Act.put, List.setIfInBounds_toArray, List.set_cons_zero, List.set_cons_succ]
      refine tl_p (i := 7) (v := ?_) rfl (by rfl) (by kernel_rfl) (by kernel_rfl) (by kernel_rfl) (fun _ _ _ h => h) (by rfl) hHeld ?_ ?_
      rotate_left
      · intro w
        go_simp
        try (with_reducible rfl)
      try simp only [Act.put, List.setIfInBounds_toArray, List.set_cons_zero, List.set_cons_succ]
      refine tl_p (i := 8) (v := ?_) rfl (by rfl) (by kernel_rfl) (by kernel_rfl) (by kernel_rfl) (fun _ _ _ h => h) (by rfl) hHeld ?_ ?_
      rotate_left
      · intro w
        go_simp
        try (with_reducible rfl)
      try simp only [Act.put, List.setIfInBounds_toArray, List.set_cons_zero, List.set_cons_succ]
      refine tl_p (i := 10) (v := ?_) rfl (by rfl) (by kernel_rfl) (by kernel_rfl) (by kernel_rfl) (fun _ _ _ h => h) (by rfl) hHeld ?_ ?_
      rotate_left
      · intro w
        go_simp
        try (with_reducible rfl)
      try simp only [Act.put, List.setIfInBounds_toArray, List.set_cons_zero, List.set_cons_succ]
      refine tl_do (i := 9) rfl (by kernel_rfl) (by rfl) (fun K hK => ?_)
      go_simp
      go_at_call 36
      refine (kN3.out _).mono ?_; rintro e w9 ⟨rfl, hw9⟩
      have hw9' := hw9.symm
      subst hw9'
      clear hw9
      try go_wp2_with fail
      refine hK.out _ _ (trivial) (fun hHeld1 => ?_)
      clear hK K hHeld
      have hHeld := hHeld1
      clear hHeld1
      try simp only [Act.put, List.setIfInBounds_toArray, List.set_cons_zero, List.set_cons_succ]
      refine tl_do (i := 11) rfl (by kernel_rfl) (by rfl) (fun K hK => ?_)
      go_simp
      go_at_call 33
      refine (kN4.out _).mono ?_; rintro e w9 ⟨rfl, hw9⟩
      have hw9' := hw9.symm
      subst hw9'
      clear hw9
      try go_wp2_with fail
      refine hK.out _ _ (trivial) (fun hHeld1 => ?_)
      clear hK K hHeld
      have hHeld := hHeld1
      clear hHeld1
      try simp only [Act.put, List.setIfInBounds_toArray, List.set_cons_zero, List.set_cons_succ]
      refine tl_p (i := 12) (v := ?_) rfl (by rfl) (by kernel_rfl) (by kernel_rfl) (by kernel_rfl) (fun _ _ _ h => h) (by rfl) hHeld ?_ ?_
      rotate_left
      · intro w
        go_simp
        try (with_reducible rfl)
      try simp only [Act.put, List.setIfInBounds_toArray, List.set_cons_zero, List.set_cons_succ]
      refine tl_p (i := 13) (v := ?_) rfl (by rfl) (by kernel_rfl) (by kernel_rfl) (by kernel_rfl) (fun _ _ _ h => h) (by rfl) hHeld ?_ ?_
      rotate_left
      · intro w
        go_simp
        try (with_reducible rfl)
      try simp only [Act.put, List.setIfInBounds_toArray, List.set_cons_zero, List.set_cons_succ]
      refine tl_p (i := 14) (v := ?_) rfl (by rfl) (by kernel_rfl) (by kernel_rfl) (by kernel_rfl) (fun _ _ _ h => h) (by rfl) hHeld ?_ ?_
      rotate_left
      · intro w
        go_simp
        try (with_reducible rfl)
      try simp only [Act.put, List.setIfInBounds_toArray, List.set_cons_zero, List.set_cons_succ]
      refine tl_p (i := 15) (v := ?_) rfl (by rfl) (by kernel_rfl) (by kernel_rfl) (by kernel_rfl) (fun _ _ _ h => h) (by rfl) hHeld ?_ ?_
      rotate_left
      · intro w
        go_simp
        try (with_reducible rfl)
      try simp only [Act.put, List.setIfInBounds_toArray, List.set_cons_zero, List.set_cons_succ]
      refine tl_p (i := 16) (v := ?_) rfl (by rfl) (by kernel_rfl) (by kernel_rfl) (by kernel_rfl) (fun _ _ _ h => h) (by rfl) hHeld ?_ ?_
      rotate_left
      · intro w
        go_simp
        try (with_reducible rfl)
      try simp only [Act.put, List.setIfInBounds_toArray, List.set_cons_zero, List.set_cons_succ]
      refine tl_p (i := 17) (v := ?_) rfl (by rfl) (by kernel_rfl) (by kernel_rfl) (by kernel_rfl) (fun _ _ _ h => h) (by rfl) hHeld ?_ ?_
      rotate_left
      · intro w
        go_simp
        try (with_reducible rfl)
      try simp only [Act.put, List.setIfInBounds_toArray, List.set_cons_zero, List.set_cons_succ]
      refine tl_p (i := 20) (v := ?_) rfl (by rfl) (by kernel_rfl) (by kernel_rfl) (by kernel_rfl) (fun _ _ _ h => h) (by rfl) hHeld ?_ ?_
      rotate_left
      · intro w
        go_simp
        try (with_reducible rfl)
      try simp only [Act.put, List.setIfInBounds_toArray, List.set_cons_zero, List.set_cons_succ]
      refine tl_p (i := 21) (v := ?_) rfl (by rfl) (by kernel_rfl) (by kernel_rfl) (by kernel_rfl) (fun _ _ _ h => h) (by rfl) hHeld ?_ ?_
      rotate_left
      · intro w
        go_simp
        try (with_reducible rfl)
      try simp only [Act.put, List.setIfInBounds_toArray, List.set_cons_zero, List.set_cons_succ]
      refine tl_p (i := 22) (v := ?_) rfl (by rfl) (by kernel_rfl) (by kernel_rfl) (by kernel_rfl) (fun _ _ _ h => h) (by rfl) hHeld ?_ ?_
      rotate_left
      · intro w
        go_simp
        try (with_reducible rfl)
      try simp only [Act.put, List.setIfInBounds_toArray, List.set_cons_zero, List.set_cons_succ]
      refine tl_do (i := 18) rfl (by kernel_rfl) (by rfl) (fun K hK => ?_)
      refine wp_append_view _ (.const (.slice none 0 0)) (.tmp 69) _ rfl 0 5 j0 (.int .u8 0) 1 1 Try.underlying27 hj0 hy0 hy1 hy2 rfl (by omega) (.slice none 0 0) 0 [] rfl (World.ownsRow_nil _ _ _ _) (.slice Ab b.length cb) b.length (b.map bv) rfl (View.below ha.out T.out.acc) (bv_one b) (by omega) (by simp only [maxLen]; omega) (Nat.zero_le _) ?_
      intro v5 w5 hown5 hg5 hat5
      rw [Nat.zero_add, List.nil_append] at hown5
      obtain ⟨A5, c5, rfl, _, _, _⟩ := own_shape hown5
      have T5 := T.out.client ((Below.refl _ _).grown hg5 (Nat.le_refl _) (by intro k hk; cases hk))
      have hv5 : VB w5 (.slice A5 b.length c5) b := View.of_own hown5
      refine hK.out _ _ (trivial) (fun hHeld1 => ?_)
      clear hK K hHeld
      have hHeld := hHeld1
      clear hHeld1
      try simp only [Act.put, List.setIfInBounds_toArray, List.set_cons_zero, List.set_cons_succ]
      refine tl_do (i := 19) rfl (by kernel_rfl) (by rfl) (fun K hK => ?_)
      go_simp
      go_at_call 34
      obtain ⟨C5, hd5, hc5, hback5⟩ := T5.left
      refine (hd_put hd5 dok.out at' hv5 (by omega) (by omega) (by omega)).mono ?_; rintro e w6 ⟨rfl, h6, k6⟩
      obtain ⟨T6, _⟩ := hback5 _ _ h6 k6
      try go_wp2_with fail
      refine hK.out _ _ (trivial) (fun hHeld1 => ?_)
      clear hK K hHeld
      have hHeld := hHeld1
      clear hHeld1
      try simp only [Act.put, List.setIfInBounds_toArray, List.set_cons_zero, List.set_cons_succ]
      refine tl_do (i := 23) rfl (by kernel_rfl) (by rfl) (fun K hK => ?_)
      go_simp
      go_at_call 37
      obtain ⟨C6, hr6, hc6, hback6⟩ := T6.right
      refine (hr_put hr6 rok.out at' (fun W' hb _ => View.below ha.out hb) (by omega) (by rw [rl.out.count]; omega) (by rw [rl.out.uns]; omega)).mono ?_; rintro e w7 ⟨rfl, h7, k7⟩
      rw [← yy.out.1]
      obtain ⟨T7, _⟩ := hback6 _ _ h7 k7
      replace T7 := T7.mono (C' := fun _ => False) (fun _ t => t.elim)
      have hcnt := T7.count.trans (by rw [yy.out.2.count])
      try go_wp2_with fail
      refine hK.out _ _ (trivial) (fun hHeld1 => ?_)
      clear hK K hHeld
      have hHeld := hHeld1
      clear hHeld1
      try simp only [Act.put, List.setIfInBounds_toArray, List.set_cons_zero, List.set_cons_succ]
      refine till_more (fun w' => w'.cell? ⟨p3, 4, none⟩ = some (.int .i64 (D0.put at' b).1.written)) ?_
      replace hHeld := And.intro hHeld hcnt
      refine tl_p (i := 24) (v := ?_) rfl (by rfl) (by kernel_rfl) (by kernel_rfl) (by kernel_rfl) (fun _ _ _ h => h) (by rfl) hHeld ?_ ?_
      rotate_left
      · intro w
        go_simp
        try (with_reducible rfl)
      try simp only [Act.put, List.setIfInBounds_toArray, List.set_cons_zero, List.set_cons_succ]
      refine tl_p (i := 25) (v := ?_) rfl (by rfl) (by kernel_rfl) (by kernel_rfl) (by kernel_rfl) (fun _ _ _ h => h) (by rfl) hHeld ?_ ?_
      rotate_left
      · intro w
        go_simp
        try (with_reducible rfl)
      try simp only [Act.put, List.setIfInBounds_toArray, List.set_cons_zero, List.set_cons_succ]
      refine tl_p (i := 26) (v := ?_) rfl (by rfl) (by kernel_rfl) (by kernel_rfl) (by kernel_rfl) (fun _ _ _ h => h) (by rfl) hHeld ?_ ?_
      rotate_left
      · intro w
        go_simp
        try (with_reducible rfl)
      try simp only [Act.put, List.setIfInBounds_toArray, List.set_cons_zero, List.set_cons_succ]
      refine tl_p (i := 27) (v := ?_) rfl (by rfl) (by kernel_rfl) (by kernel_rfl) (by kernel_rfl) (fun _ _ _ h => h) (by rfl) hHeld ?_ ?_
      rotate_left
      · intro w
        go_simp
        try (with_reducible rfl)
      try simp only [Act.put, List.setIfInBounds_toArray, List.set_cons_zero, List.set_cons_succ]
      refine tl_p (i := 29) (v := ?_) rfl (by rfl) (by kernel_rfl) (by kernel_rfl) (by kernel_rfl) (fun _ _ _ h => h) (by rfl) hHeld ?_ ?_
      rotate_left
      · intro w
        go_simp
        try (with_reducible rfl)
      try simp only [Act.put, List.setIfInBounds_toArray, List.set_cons_zero, List.set_cons_succ]
      refine tl_p (i := 30) (v := ?_) rfl (by rfl) (by kernel_rfl) (by kernel_rfl) (by kernel_rfl) (fun _ _ _ h => h) (by rfl) hHeld ?_ ?_
      rotate_left
      · intro w
        go_simp
        try (with_reducible rfl)
      try simp only [Act.put, List.setIfInBounds_toArray, List.set_cons_zero, List.set_cons_succ]
      refine tl_p (i := 31) (v := ?_) rfl (by rfl) (by kernel_rfl) (by kernel_rfl) (by kernel_rfl) (fun _ _ _ h => h) (by rfl) hHeld ?_ ?_
      rotate_left
      · intro w
        go_simp
        try (with_reducible rfl)
      try simp only [Act.put, List.setIfInBounds_toArray, List.set_cons_zero, List.set_cons_succ]
      refine tl_w (i := 32) (v := ?_) rfl (by rfl) (by kernel_rfl) (by kernel_rfl) (by kernel_rfl) (by kernel_rfl) (by kernel_rfl) (fun _ _ _ h => h) (by rfl) hHeld ?_ ?_
      rotate_left
      · intro w hSw
        have hc := hSw.2
        clear hSw
        go_simp
        try (with_reducible rfl)
      try simp only [Act.put, List.setIfInBounds_toArray, List.set_cons_zero, List.set_cons_succ]
      refine tl_do (i := 28) rfl (by kernel_rfl) (by rfl) (fun K hK => ?_)
      go_simp
      go_at_call 28
      obtain ⟨C7, hd7, _, _⟩ := T7.left
      refine (hd_writes hd7).mono ?_; rintro e w9 ⟨rfl, hw9⟩
      have hw9' := hw9.symm
      subst hw9'
      clear hw9
      try go_wp2_with fail
      refine hK.out _ _ (⟨trivial, hcnt⟩) (fun hHeld1 => ?_)
      clear hK K hHeld
      have hHeld := hHeld1
      clear hHeld1
      try simp only [Act.put, List.setIfInBounds_toArray, List.set_cons_zero, List.set_cons_succ]
      refine tl_p (i := 33) (v := ?_) rfl (by rfl) (by kernel_rfl) (by kernel_rfl) (by kernel_rfl) (fun _ _ _ h => h) (by rfl) hHeld ?_ ?_
      rotate_left
      · intro w
        go_simp
        try (with_reducible rfl)
      try simp only [Act.put, List.setIfInBounds_toArray, List.set_cons_zero, List.set_cons_succ]
      refine tl_p (i := 34) (v := ?_) rfl (by rfl) (by kernel_rfl) (by kernel_rfl) (by kernel_rfl) (fun _ _ _ h => h) (by rfl) hHeld ?_ ?_
      rotate_left
      · intro w
        go_simp
        try (with_reducible rfl)
      try simp only [Act.put, List.setIfInBounds_toArray, List.set_cons_zero, List.set_cons_succ]
      refine till_done (by kernel_rfl) ?_ _
      have hfw := hfew.1
      have hfu := hfew.2.1
      have dok' := Lib.hid hfew.2.2
      have rl' := Lib.hid yy.out.2
      have rok' := hrok
      generalize (D0.put at' b).1 = D' at *
      generalize (R0.put at' b).1 = R' at *
      generalize (D0.put at' b).2 = pb at *
      replace T7 := Lib.hid T7
      clear hHeld hcnt yy hfew hd7 hback6 hback5 hr6 hd5 h6 k6 h7 k7 T6 T5 hv5 T rl rok dok hrok
      go_upto_region 14 with fail
      go_loopw [16] (fun q wr => ∃ i : Nat, i ≤ n ∧ q = .int .i64 i ∧ Duo w wr p1 p3 D' R' (fun _ => False)) (fun q _ => n - (intOf q).toNat)
      case atStart => exact ⟨0, by omega, rfl, T7.out⟩
      clear T7
      case round =>
        obtain ⟨i, hi, rfl, T⟩ := hrel
        replace T := Lib.hid T
        by_cases hlt : i < n
        · have q2 : (i : Int) < (n : Int) := by omega
          go_wp2_with fail
          refine tl_begin (fun (w' : World) => True) [] (by kernel_rfl) (trivial) (fun hHeld => ?_)
          refine tl_p (i := 0) (v := ?_) rfl (by rfl) (by kernel_rfl) (by kernel_rfl) (by kernel_rfl) (fun _ _ _ h => h) (by rfl) hHeld ?_ ?_
          rotate_left
          · intro w
            go_simp
            try (with_reducible rfl)
          try simp only [Act.put, List.setIfInBounds_toArray, List.set_cons_zero, List.set_cons_succ]
          refine tl_p (i := 1) (v := ?_) rfl (by rfl) (by kernel_rfl) (by kernel_rfl) (by kernel_rfl) (fun _ _ _ h => h) (by rfl) hHeld ?_ ?_
          rotate_left
          · intro w
            go_simp
            try (with_reducible rfl)
          try simp only [Act.put, List.setIfInBounds_toArray, List.set_cons_zero, List.set_cons_succ]
          refine tl_p (i := 4) (v := ?_) rfl (by rfl) (by kernel_rfl) (by kernel_rfl) (by kernel_rfl) (fun _ _ _ h => h) (by rfl) hHeld ?_ ?_
          rotate_left
          · intro w
            go_simp
            try (with_reducible rfl)
          try simp only [Act.put, List.setIfInBounds_toArray, List.set_cons_zero, List.set_cons_succ]
          refine tl_p (i := 5) (v := ?_) rfl (by rfl) (by kernel_rfl) (by kernel_rfl) (by kernel_rfl) (fun _ _ _ h => h) (by rfl) hHeld ?_ ?_
          rotate_left
          · intro w
            go_simp
            try (with_reducible rfl)
          try simp only [Act.put, List.setIfInBounds_toArray, List.set_cons_zero, List.set_cons_succ]
          refine tl_do (i := 2) rfl (by kernel_rfl) (by rfl) (fun K hK => ?_)
          go_simp
          go_at_call 21
          obtain ⟨C9, hd9, _, _⟩ := (T.out.below (Below.drew (Below.refl _ _))).left
          refine (hd_read hd9 dok'.out (i : Int)).mono ?_; rintro e w10 ⟨v10, rfl, ho10, hb10⟩
          have hv10 := ho10.view
          obtain ⟨A10, c10, rfl, _⟩ := own_shape ho10
          have T10 := (T.out.below (Below.drew (Below.refl _ _))).below hb10
          try go_wp2_with fail
          refine hK.out _ _ (trivial) (fun hHeld1 => ?_)
          clear hK K hHeld
          have hHeld := hHeld1
          clear hHeld1
          try simp only [Act.put, List.setIfInBounds_toArray, List.set_cons_zero, List.set_cons_succ]
          refine till_more (fun w' => VB w' (.slice A10 (D'.read (i : Int)).length c10) (D'.read (i : Int))) ?_
          replace hHeld := And.intro hHeld hv10
          refine tl_w (i := 3) (v := ?_) rfl (by rfl) (by kernel_rfl) (by kernel_rfl) (by kernel_rfl) (by kernel_rfl) (by kernel_rfl) (fun _ _ _ h => h) (by rfl) hHeld ?_ ?_
          rotate_left
          · intro w hSw
            have hc := conv_any w _ _ hSw.2
            clear hSw
            go_simp
            try (with_reducible rfl)
          try simp only [Act.put, List.setIfInBounds_toArray, List.set_cons_zero, List.set_cons_succ]
          refine tl_do (i := 6) rfl (by kernel_rfl) (by rfl) (fun K hK => ?_)
          go_simp
          go_at_call 31
          obtain ⟨C10, hr10, _, _⟩ := T10.right
          refine (hr_read hr10 rok'.out (by rw [rl'.out.uns]; omega) (i : Int)).mono ?_; rintro e w11 ⟨v11, rfl, ho11, hb11⟩
          rw [← rel_read rl'.out] at ho11
          have hv11 := ho11.view
          obtain ⟨A11, c11, rfl, _⟩ := own_shape ho11
          have T11 := T10.below hb11
          have hv12 := View.below hv10 hb11
          try go_wp2_with fail
          refine hK.out _ _ (⟨trivial, hv12⟩) (fun hHeld1 => ?_)
          clear hK K hHeld
          have hHeld := hHeld1
          clear hHeld1
          try simp only [Act.put, List.setIfInBounds_toArray, List.set_cons_zero, List.set_cons_succ]
          refine till_more (fun w' => VB w' (.slice A11 (D'.read (i : Int)).length c11) (D'.read (i : Int))) ?_
          replace hHeld := And.intro hHeld hv11
          refine tl_w (i := 7) (v := ?_) rfl (by rfl) (by kernel_rfl) (by kernel_rfl) (by kernel_rfl) (by kernel_rfl) (by kernel_rfl) (fun _ _ _ h => h) (by rfl) hHeld ?_ ?_
          rotate_left
          · intro w hSw
            have hc := conv_any w _ _ hSw.2
            clear hSw
            go_simp
            try (with_reducible rfl)
          try simp only [Act.put, List.setIfInBounds_toArray, List.set_cons_zero, List.set_cons_succ]
          refine tl_p (i := 8) (v := ?_) rfl (by rfl) (by kernel_rfl) (by kernel_rfl) (by kernel_rfl) (fun _ _ _ h => h) (by rfl) hHeld ?_ ?_
          rotate_left
          · intro w
            go_simp
            try (with_reducible rfl)
          try simp only [Act.put, List.setIfInBounds_toArray, List.set_cons_zero, List.set_cons_succ]
          refine till_done (by kernel_rfl) ?_ _
          have T12 := Lib.hid T11
          clear hHeld hv10 hv11 hv12 hb10 hb11 T10 T11 ho10 ho11
          go_wp2_with fail
          go_roundw
          case rel => exact ⟨i + 1, by omega, by go_num, T12.out⟩
          case measure => simp [intOf]; omega
        · have q2 : ¬ (i : Int) < (n : Int) := by omega
          go_wp2_with fail
          refine tl_begin (fun (w' : World) => True) [] (by kernel_rfl) (trivial) (fun hHeld => ?_)
          refine tl_p (i := 0) (v := ?_) rfl (by rfl) (by kernel_rfl) (by kernel_rfl) (by kernel_rfl) (fun _ _ _ h => h) (by rfl) hHeld ?_ ?_
          rotate_left
          · intro w
            go_simp
            try (with_reducible rfl)
          try simp only [Act.put, List.setIfInBounds_toArray, List.set_cons_zero, List.set_cons_succ]
          refine tl_p (i := 1) (v := ?_) rfl (by rfl) (by kernel_rfl) (by kernel_rfl) (by kernel_rfl) (fun _ _ _ h => h) (by rfl) hHeld ?_ ?_
          rotate_left
          · intro w
            go_simp
            try (with_reducible rfl)
          try simp only [Act.put, List.setIfInBounds_toArray, List.set_cons_zero, List.set_cons_succ]
          refine tl_p (i := 2) (v := ?_) rfl (by rfl) (by kernel_rfl) (by kernel_rfl) (by kernel_rfl) (fun _ _ _ h => h) (by rfl) hHeld ?_ ?_
          rotate_left
          · intro w
            go_simp
            try (with_reducible rfl)
          try simp only [Act.put, List.setIfInBounds_toArray, List.set_cons_zero, List.set_cons_succ]
          refine tl_p (i := 5) (v := ?_) rfl (by rfl) (by kernel_rfl) (by kernel_rfl) (by kernel_rfl) (fun _ _ _ h => h) (by rfl) hHeld ?_ ?_
          rotate_left
          · intro w
            go_simp
            try (with_reducible rfl)
          try simp only [Act.put, List.setIfInBounds_toArray, List.set_cons_zero, List.set_cons_succ]
          refine tl_p (i := 6) (v := ?_) rfl (by rfl) (by kernel_rfl) (by kernel_rfl) (by kernel_rfl) (fun _ _ _ h => h) (by rfl) hHeld ?_ ?_
          rotate_left
          · intro w
            go_simp
            try (with_reducible rfl)
          try simp only [Act.put, List.setIfInBounds_toArray, List.set_cons_zero, List.set_cons_succ]
          refine tl_p (i := 7) (v := ?_) rfl (by rfl) (by kernel_rfl) (by kernel_rfl) (by kernel_rfl) (fun _ _ _ h => h) (by rfl) hHeld ?_ ?_
          rotate_left
          · intro w
            go_simp
            try (with_reducible rfl)
          try simp only [Act.put, List.setIfInBounds_toArray, List.set_cons_zero, List.set_cons_succ]
          refine tl_do (i := 3) rfl (by kernel_rfl) (by rfl) (fun K hK => ?_)
          go_simp
          go_at_call 35
          obtain ⟨C9, hd9, _, _⟩ := (T.out.below (Below.drew (Below.refl _ _))).left
          refine (hd_get hd9 dok'.out from' size).mono ?_; rintro e w10 ⟨v10, rfl, hv10, hb10, _⟩
          obtain ⟨A10, c10, rfl, _⟩ := hv10.cells
          have T10 := (T.out.below (Below.drew (Below.refl _ _))).below hb10
          try go_wp2_with fail
          refine hK.out _ _ (trivial) (fun hHeld1 => ?_)
          clear hK K hHeld
          have hHeld := hHeld1
          clear hHeld1
          try simp only [Act.put, List.setIfInBounds_toArray, List.set_cons_zero, List.set_cons_succ]
          refine till_more (fun w' => VB w' (.slice A10 (D'.get from' size).length c10) (D'.get from' size)) ?_
          replace hHeld := And.intro hHeld hv10
          refine tl_w (i := 4) (v := ?_) rfl (by rfl) (by kernel_rfl) (by kernel_rfl) (by kernel_rfl) (by kernel_rfl) (by kernel_rfl) (fun _ _ _ h => h) (by rfl) hHeld ?_ ?_
          rotate_left
          · intro w hSw
            have hc := conv_any w _ _ hSw.2
            clear hSw
            go_simp
            try (with_reducible rfl)
          try simp only [Act.put, List.setIfInBounds_toArray, List.set_cons_zero, List.set_cons_succ]
          refine tl_do (i := 8) rfl (by kernel_rfl) (by rfl) (fun K hK => ?_)
          go_simp
          go_at_call 38
          obtain ⟨C10, hr10, _, _⟩ := T10.right
          refine (hr_get hr10 rok'.out (by rw [rl'.out.uns]; omega) from' size).mono ?_; rintro e w11 ⟨v11, rfl, hv11, hb11⟩
          rw [← rel_get rl'.out] at hv11
          obtain ⟨A11, c11, rfl, _⟩ := hv11.cells
          have T11 := T10.below hb11
          have hv12 := View.below hv10 hb11
          try go_wp2_with fail
          refine hK.out _ _ (⟨trivial, hv12⟩) (fun hHeld1 => ?_)
          clear hK K hHeld
          have hHeld := hHeld1
          clear hHeld1
          try simp only [Act.put, List.setIfInBounds_toArray, List.set_cons_zero, List.set_cons_succ]
          refine till_more (fun w' => VB w' (.slice A11 (D'.get from' size).length c11) (D'.get from' size)) ?_
          replace hHeld := And.intro hHeld hv11
          refine tl_w (i := 9) (v := ?_) rfl (by rfl) (by kernel_rfl) (by kernel_rfl) (by kernel_rfl) (by kernel_rfl) (by kernel_rfl) (fun _ _ _ h => h) (by rfl) hHeld ?_ ?_
          rotate_left
          · intro w hSw
            have hc := conv_any w _ _ hSw.2
            clear hSw
            go_simp
            try (with_reducible rfl)
          try simp only [Act.put, List.setIfInBounds_toArray, List.set_cons_zero, List.set_cons_succ]
          refine tl_p (i := 10) (v := ?_) rfl (by rfl) (by kernel_rfl) (by kernel_rfl) (by kernel_rfl) (fun _ _ _ h => h) (by rfl) hHeld ?_ ?_
          rotate_left
          · intro w
            go_simp
            try (with_reducible rfl)
          try simp only [Act.put, List.setIfInBounds_toArray, List.set_cons_zero, List.set_cons_succ]
          refine tl_p (i := 11) (v := ?_) rfl (by rfl) (by kernel_rfl) (by kernel_rfl) (by kernel_rfl) (fun _ _ _ h => h) (by rfl) hHeld ?_ ?_
          rotate_left
          · intro w
            go_simp
            try (with_reducible rfl)
          try simp only [Act.put, List.setIfInBounds_toArray, List.set_cons_zero, List.set_cons_succ]
          refine tl_p (i := 12) (v := ?_) rfl (by rfl) (by kernel_rfl) (by kernel_rfl) (by kernel_rfl) (fun _ _ _ h => h) (by rfl) hHeld ?_ ?_
          rotate_left
          · intro w
            go_simp
            try (with_reducible rfl)
          try simp only [Act.put, List.setIfInBounds_toArray, List.set_cons_zero, List.set_cons_succ]
          refine tl_p (i := 13) (v := ?_) rfl (by rfl) (by kernel_rfl) (by kernel_rfl) (by kernel_rfl) (fun _ _ _ h => h) (by rfl) hHeld ?_ ?_
          rotate_left
          · intro w
            go_simp
            try (with_reducible rfl)
          try simp only [Act.put, List.setIfInBounds_toArray, List.set_cons_zero, List.set_cons_succ]
          refine tl_p (i := 14) (v := ?_) rfl (by rfl) (by kernel_rfl) (by kernel_rfl) (by kernel_rfl) (fun _ _ _ h => h) (by rfl) hHeld ?_ ?_
          rotate_left
          · intro w
            go_simp
            try (with_reducible rfl)
          try simp only [Act.put, List.setIfInBounds_toArray, List.set_cons_zero, List.set_cons_succ]
          refine tl_p (i := 15) (v := ?_) rfl (by rfl) (by kernel_rfl) (by kernel_rfl) (by kernel_rfl) (fun _ _ _ h => h) (by rfl) hHeld ?_ ?_
          rotate_left
          · intro w
            go_simp
            try (with_reducible rfl)
          try simp only [Act.put, List.setIfInBounds_toArray, List.set_cons_zero, List.set_cons_succ]
          refine tl_p (i := 18) (v := ?_) rfl (by rfl) (by kernel_rfl) (by kernel_rfl) (by kernel_rfl) (fun _ _ _ h => h) (by rfl) hHeld ?_ ?_
          rotate_left
          · intro w
            go_simp
            try (with_reducible rfl)
          try simp only [Act.put, List.setIfInBounds_toArray, List.set_cons_zero, List.set_cons_succ]
          refine tl_p (i := 19) (v := ?_) rfl (by rfl) (by kernel_rfl) (by kernel_rfl) (by kernel_rfl) (fun _ _ _ h => h) (by rfl) hHeld ?_ ?_
          rotate_left
          · intro w
            go_simp
            try (with_reducible rfl)
          try simp only [Act.put, List.setIfInBounds_toArray, List.set_cons_zero, List.set_cons_succ]
          refine tl_p (i := 20) (v := ?_) rfl (by rfl) (by kernel_rfl) (by kernel_rfl) (by kernel_rfl) (fun _ _ _ h => h) (by rfl) hHeld ?_ ?_
          rotate_left
          · intro w
            go_simp
            try (with_reducible rfl)
          try simp only [Act.put, List.setIfInBounds_toArray, List.set_cons_zero, List.set_cons_succ]
          refine tl_p (i := 21) (v := ?_) rfl (by rfl) (by kernel_rfl) (by kernel_rfl) (by kernel_rfl) (fun _ _ _ h => h) (by rfl) hHeld ?_ ?_
          rotate_left
          · intro w
            go_simp
            try (with_reducible rfl)
          try simp only [Act.put, List.setIfInBounds_toArray, List.set_cons_zero, List.set_cons_succ]
          refine tl_do (i := 16) rfl (by kernel_rfl) (by rfl) (fun K hK => ?_)
          go_simp
          go_at_call 35
          obtain ⟨C11, hd11, _, _⟩ := T11.left
          refine (hd_get hd11 dok'.out at' (b.length : Int)).mono ?_; rintro e w12 ⟨v13, rfl, hv13, hb12, _⟩
          obtain ⟨A13, c13, rfl, _⟩ := hv13.cells
          have T12 := T11.below hb12
          have hv14 := View.below hv12 hb12
          have hv15 := View.below hv11 hb12
          try go_wp2_with fail
          refine hK.out _ _ (⟨⟨trivial, hv14⟩, hv15⟩) (fun hHeld1 => ?_)
          clear hK K hHeld
          have hHeld := hHeld1
          clear hHeld1
          try simp only [Act.put, List.setIfInBounds_toArray, List.set_cons_zero, List.set_cons_succ]
          refine till_more (fun w' => VB w' (.slice A13 (D'.get at' b.length).length c13) (D'.get at' b.length)) ?_
          replace hHeld := And.intro hHeld hv13
          refine tl_w (i := 17) (v := ?_) rfl (by rfl) (by kernel_rfl) (by kernel_rfl) (by kernel_rfl) (by kernel_rfl) (by kernel_rfl) (fun _ _ _ h => h) (by rfl) hHeld ?_ ?_
          rotate_left
          · intro w hSw
            have hc := conv_any w _ _ hSw.2
            clear hSw
            go_simp
            try (with_reducible rfl)
          try simp only [Act.put, List.setIfInBounds_toArray, List.set_cons_zero, List.set_cons_succ]
          refine tl_do (i := 22) rfl (by kernel_rfl) (by rfl) (fun K hK => ?_)
          go_simp
          go_at_call 38
          obtain ⟨C12, hr12, _, _⟩ := T12.right
          refine (hr_get hr12 rok'.out (by rw [rl'.out.uns]; omega) at' (b.length : Int)).mono ?_; rintro e w13 ⟨v16, rfl, hv16, hb13⟩
          rw [← rel_get rl'.out] at hv16
          obtain ⟨A16, c16, rfl, _⟩ := hv16.cells
          have T13 := T12.below hb13
          try go_wp2_with fail
          refine hK.out _ _ (⟨⟨⟨trivial, View.below hv14 hb13⟩, View.below hv15 hb13⟩, View.below hv13 hb13⟩) (fun hHeld1 => ?_)
          clear hK K hHeld
          have hHeld := hHeld1
          clear hHeld1
          try simp only [Act.put, List.setIfInBounds_toArray, List.set_cons_zero, List.set_cons_succ]
          refine till_more (fun w' => VB w' (.slice A16 (D'.get at' b.length).length c16) (D'.get at' b.length)) ?_
          replace hHeld := And.intro hHeld hv16
          refine tl_w (i := 23) (v := ?_) rfl (by rfl) (by kernel_rfl) (by kernel_rfl) (by kernel_rfl) (by kernel_rfl) (by kernel_rfl) (fun _ _ _ h => h) (by rfl) hHeld ?_ ?_
          rotate_left
          · intro w hSw
            have hc := conv_any w _ _ hSw.2
            clear hSw
            go_simp
            try (with_reducible rfl)
          try simp only [Act.put, List.setIfInBounds_toArray, List.set_cons_zero, List.set_cons_succ]
          refine tl_p (i := 24) (v := ?_) rfl (by rfl) (by kernel_rfl) (by kernel_rfl) (by kernel_rfl) (fun _ _ _ h => h) (by rfl) hHeld ?_ ?_
          rotate_left
          · intro w
            go_simp
            try (with_reducible rfl)
          try simp only [Act.put, List.setIfInBounds_toArray, List.set_cons_zero, List.set_cons_succ]
          refine tl_p (i := 25) (v := ?_) rfl (by rfl) (by kernel_rfl) (by kernel_rfl) (by kernel_rfl) (fun _ _ _ h => h) (by rfl) hHeld ?_ ?_
          rotate_left
          · intro w
            go_simp
            try (with_reducible rfl)
          try simp only [Act.put, List.setIfInBounds_toArray, List.set_cons_zero, List.set_cons_succ]
          refine tl_p (i := 26) (v := ?_) rfl (by rfl) (by kernel_rfl) (by kernel_rfl) (by kernel_rfl) (fun _ _ _ h => h) (by rfl) hHeld ?_ ?_
          rotate_left
          · intro w
            go_simp
            try (with_reducible rfl)
          try simp only [Act.put, List.setIfInBounds_toArray, List.set_cons_zero, List.set_cons_succ]
          refine till_done (by kernel_rfl) ?_ _
          have hacc13 := Lib.hid T13.acc
          clear hHeld
          go_wp2_with fail
          go_ret
          exact ⟨rfl, hacc13.out⟩
    · have hl' : ¬ 0 ≤ left ∨ (0 ≤ left ∧ ¬ left < 40) := by omega
      obtain ⟨hw0a, hw0b⟩ := hwN
      have rl0 := rlN.weak
      have rok0 := rokN
      have dok0 := dokN
      have T0 := TT
      clear TT rlN dokN rokN hl
      rcases hl' with hl' | ⟨hl', hl2⟩
      all_goals
        have T := Lib.hid (T0.below (Below.drew (Below.refl _ _)))
        have yy := Lib.hid (rel_put rl0 rok0 (at' := at') (b := b) (by omega) (by omega))
        have hfew := put_few dok0 at' b
        have hnb : need b.length ≤ 32 := by unfold need; omega
        have hrok := Lib.hid (rputok rok0 at' b)
        have dok := Lib.hid dok0
        have rok := Lib.hid rok0
        have rl := Lib.hid rl0
        clear T0 rl0 rok0 dok0
        go_wp2_with fail
        refine tl_begin (fun (w' : World) => True) [] (by kernel_rfl) (trivial) (fun hHeld => ?_)
        refine tl_p (i := 0) (v := ?_) rfl (by rfl) (by kernel_rfl) (by kernel_rfl) (by kernel_rfl) (fun _ _ _ h => h) (by rfl) hHeld ?_ ?_
        rotate_left
        · intro w
          go_simp
          try (with_reducible rfl)
        try simp only [Act.put, List.setIfInBounds_toArray, List.set_cons_zero, List.set_cons_succ]
        refine tl_p (i := 1) (v := ?_) rfl (by rfl) (by kernel_rfl) (by kernel_rfl) (by kernel_rfl) (fun _ _ _ h => h) (by rfl) hHeld ?_ ?_
        rotate_left
        · intro w
          go_simp
          try (with_reducible rfl)
        try simp only [Act.put, List.setIfInBounds_toArray, List.set_cons_zero, List.set_cons_succ]
        refine tl_p (i := 3) (v := ?_) rfl (by rfl) (by kernel_rfl) (by kernel_rfl) (by kernel_rfl) (fun _ _ _ h => h) (by rfl) hHeld ?_ ?_
        rotate_left
        · intro w
          go_simp
          try (with_reducible rfl)
        try simp only [Act.put, List.setIfInBounds_toArray, List.set_cons_zero, List.set_cons_succ]
        refine tl_p (i := 4) (v := ?_) rfl (by rfl) (by kernel_rfl) (by kernel_rfl) (by kernel_rfl) (fun _ _ _ h => h) (by rfl) hHeld ?_ ?_
        rotate_left
        · intro w
          go_simp
          try (with_reducible rfl)
        try simp only [Act.put, List.setIfInBounds_toArray, List.set_cons_zero, List.set_cons_succ]
        refine tl_do (i := 2) rfl (by kernel_rfl) (by rfl) (fun K hK => ?_)
        go_simp
        go_at_call 36
        refine (kN1.out _).mono ?_; rintro e w9 ⟨rfl, hw9⟩
        have hw9' := hw9.symm
        subst hw9'
        clear hw9
        try go_wp2_with fail
        refine hK.out _ _ (trivial) (fun hHeld1 => ?_)
        clear hK K hHeld
        have hHeld := hHeld1
        clear hHeld1
        try simp only [Act.put, List.setIfInBounds_toArray, List.set_cons_zero, List.set_cons_succ]
        refine tl_do (i := 5) rfl (by kernel_rfl) (by rfl) (fun K hK => ?_)
        go_simp
        go_at_call 33
        refine (kN2.out _).mono ?_; rintro e w9 ⟨rfl, hw9⟩
        have hw9' := hw9.symm
        subst hw9'
        clear hw9
        try go_wp2_with fail
        refine hK.out _ _ (trivial) (fun hHeld1 => ?_)
        clear hK K hHeld
        have hHeld := hHeld1
        clear hHeld1
        try simp only [Act.put, List.setIfInBounds_toArray, List.set_cons_zero, List.set_cons_succ]
        refine tl_p (i := 6) (v := ?_) rfl (by rfl) (by kernel_rfl) (by kernel_rfl) (by kernel_rfl) (fun _ _ _ h => h) (by rfl) hHeld ?_ ?_
        rotate_left
        · intro w
          go_simp
          try (with_reducible rfl)
        try simp only [Act.put, List.setIfInBounds_toArray, List.set_cons_zero, List.set_cons_succ]
        refine tl_p (i := 7) (v := ?_) rfl (by rfl) (by kernel_rfl) (by kernel_rfl) (by kernel_rfl) (fun _ _ _ h => h) (by rfl) hHeld ?_ ?_
        rotate_left
        · intro w
          go_simp
          try (with_reducible rfl)
        try simp only [Act.put, List.setIfInBounds_toArray, List.set_cons_zero, List.set_cons_succ]
        refine tl_p (i := 8) (v := ?_) rfl (by rfl) (by kernel_rfl) (by kernel_rfl) (by kernel_rfl) (fun _ _ _ h => h) (by rfl) hHeld ?_ ?_
        rotate_left
        · intro w
          go_simp
          try (with_reducible rfl)
        try simp only [Act.put, List.setIfInBounds_toArray, List.set_cons_zero, List.set_cons_succ]
        refine tl_p (i := 10) (v := ?_) rfl (by rfl) (by kernel_rfl) (by kernel_rfl) (by kernel_rfl) (fun _ _ _ h => h) (by rfl) hHeld ?_ ?_
        rotate_left
        · intro w
          go_simp
          try (with_reducible rfl)
        try simp only [Act.put, List.setIfInBounds_toArray, List.set_cons_zero, List.set_cons_succ]
        refine tl_do (i := 9) rfl (by kernel_rfl) (by rfl) (fun K hK => ?_)
        go_simp
        go_at_call 36
        refine (kN3.out _).mono ?_; rintro e w9 ⟨rfl, hw9⟩
        have hw9' := hw9.symm
        subst hw9'
        clear hw9
        try go_wp2_with fail
        refine hK.out _ _ (trivial) (fun hHeld1 => ?_)
        clear hK K hHeld
        have hHeld := hHeld1
        clear hHeld1
        try simp only [Act.put, List.setIfInBounds_toArray, List.set_cons_zero, List.set_cons_succ]
        refine tl_do (i := 11) rfl (by kernel_rfl) (by rfl) (fun K hK => ?_)
        go_simp
        go_at_call 33
        refine (kN4.out _).mono ?_; rintro e w9 ⟨rfl, hw9⟩
        have hw9' := hw9.symm
        subst hw9'
        clear hw9
        try go_wp2_with fail
        refine hK.out _ _ (trivial) (fun hHeld1 => ?_)
        clear hK K hHeld
        have hHeld := hHeld1
        clear hHeld1
        try simp only [Act.put, List.setIfInBounds_toArray, List.set_cons_zero, List.set_cons_succ]
        refine tl_p (i := 12) (v := ?_) rfl (by rfl) (by kernel_rfl) (by kernel_rfl) (by kernel_rfl) (fun _ _ _ h => h) (by rfl) hHeld ?_ ?_
        rotate_left
        · intro w
          go_simp
          try (with_reducible rfl)
        try simp only [Act.put, List.setIfInBounds_toArray, List.set_cons_zero, List.set_cons_succ]
        refine tl_p (i := 13) (v := ?_) rfl (by rfl) (by kernel_rfl) (by kernel_rfl) (by kernel_rfl) (fun _ _ _ h => h) (by rfl) hHeld ?_ ?_
        rotate_left
        · intro w
          go_simp
          try (with_reducible rfl)
        try simp only [Act.put, List.setIfInBounds_toArray, List.set_cons_zero, List.set_cons_succ]
        refine tl_p (i := 14) (v := ?_) rfl (by rfl) (by kernel_rfl) (by kernel_rfl) (by kernel_rfl) (fun _ _ _ h => h) (by rfl) hHeld ?_ ?_
        rotate_left
        · intro w
          go_simp
          try (with_reducible rfl)
        try simp only [Act.put, List.setIfInBounds_toArray, List.set_cons_zero, List.set_cons_succ]
        refine tl_p (i := 15) (v := ?_) rfl (by rfl) (by kernel_rfl) (by kernel_rfl) (by kernel_rfl) (fun _ _ _ h => h) (by rfl) hHeld ?_ ?_
        rotate_left
        · intro w
          go_simp
          try (with_reducible rfl)
        try simp only [Act.put, List.setIfInBounds_toArray, List.set_cons_zero, List.set_cons_succ]
        refine tl_p (i := 16) (v := ?_) rfl (by rfl) (by kernel_rfl) (by kernel_rfl) (by kernel_rfl) (fun _ _ _ h => h) (by rfl) hHeld ?_ ?_
        rotate_left
        · intro w
          go_simp
          try (with_reducible rfl)
        try simp only [Act.put, List.setIfInBounds_toArray, List.set_cons_zero, List.set_cons_succ]
        refine tl_p (i := 17) (v := ?_) rfl (by rfl) (by kernel_rfl) (by kernel_rfl) (by kernel_rfl) (fun _ _ _ h => h) (by rfl) hHeld ?_ ?_
        rotate_left
        · intro w
          go_simp
          try (with_reducible rfl)
        try simp only [Act.put, List.setIfInBounds_toArray, List.set_cons_zero, List.set_cons_succ]
        refine tl_p (i := 20) (v := ?_) rfl (by rfl) (by kernel_rfl) (by kernel_rfl) (by kernel_rfl) (fun _ _ _ h => h) (by rfl) hHeld ?_ ?_
        rotate_left
        · intro w
          go_simp
          try (with_reducible rfl)
        try simp only [Act.put, List.setIfInBounds_toArray, List.set_cons_zero, List.set_cons_succ]
        refine tl_p (i := 21) (v := ?_) rfl (by rfl) (by kernel_rfl) (by kernel_rfl) (by kernel_rfl) (fun _ _ _ h => h) (by rfl) hHeld ?_ ?_
        rotate_left
        · intro w
          go_simp
          try (with_reducible rfl)
        try simp only [Act.put, List.setIfInBounds_toArray, List.set_cons_zero, List.set_cons_succ]
        refine tl_p (i := 22) (v := ?_) rfl (by rfl) (by kernel_rfl) (by kernel_rfl) (by kernel_rfl) (fun _ _ _ h => h) (by rfl) hHeld ?_ ?_
        rotate_left
        · intro w
          go_simp
          try (with_reducible rfl)
        try simp only [Act.put, List.setIfInBounds_toArray, List.set_cons_zero, List.set_cons_succ]
        refine tl_do (i := 18) rfl (by kernel_rfl) (by rfl) (fun K hK => ?_)
        refine wp_append_view _ (.const (.slice none 0 0)) (.tmp 69) _ rfl 0 5 j0 (.int .u8 0) 1 1 Try.underlying27 hj0 hy0 hy1 hy2 rfl (by omega) (.slice none 0 0) 0 [] rfl (World.ownsRow_nil _ _ _ _) (.slice Ab b.length cb) b.length (b.map bv) rfl (View.below ha.out T.out.acc) (bv_one b) (by omega) (by simp only [maxLen]; omega) (Nat.zero_le _) ?_
        intro v5 w5 hown5 hg5 hat5
        rw [Nat.zero_add, List.nil_append] at hown5
        obtain ⟨A5, c5, rfl, _, _, _⟩ := own_shape hown5
        have T5 := T.out.client ((Below.refl _ _).grown hg5 (Nat.le_refl _) (by intro k hk; cases hk))
        have hv5 : VB w5 (.slice A5 b.length c5) b := View.of_own hown5
        refine hK.out _ _ (trivial) (fun hHeld1 => ?_)
        clear hK K hHeld
        have hHeld := hHeld1
        clear hHeld1
        try simp only [Act.put, List.setIfInBounds_toArray, List.set_cons_zero, List.set_cons_succ]
        refine tl_do (i := 19) rfl (by kernel_rfl) (by rfl) (fun K hK => ?_)
        go_simp
        go_at_call 34
        obtain ⟨C5, hd5, hc5, hback5⟩ := T5.left
        refine (hd_put hd5 dok.out at' hv5 (by omega) (by omega) (by omega)).mono ?_; rintro e w6 ⟨rfl, h6, k6⟩
        obtain ⟨T6, _⟩ := hback5 _ _ h6 k6
        try go_wp2_with fail
        refine hK.out _ _ (trivial) (fun hHeld1 => ?_)
        clear hK K hHeld
        have hHeld := hHeld1
        clear hHeld1
        try simp only [Act.put, List.setIfInBounds_toArray, List.set_cons_zero, List.set_cons_succ]
        refine tl_do (i := 23) rfl (by kernel_rfl) (by rfl) (fun K hK => ?_)
        go_simp
        go_at_call 37
        obtain ⟨C6, hr6, hc6, hback6⟩ := T6.right
        refine (hr_put hr6 rok.out at' (fun W' hb _ => View.below ha.out hb) (by omega) (by rw [rl.out.count]; omega) (by rw [rl.out.uns]; omega)).mono ?_; rintro e w7 ⟨rfl, h7, k7⟩
        rw [← yy.out.1]
        obtain ⟨T7, _⟩ := hback6 _ _ h7 k7
        replace T7 := T7.mono (C' := fun _ => False) (fun _ t => t.elim)
        have hcnt := T7.count.trans (by rw [yy.out.2.count])
        try go_wp2_with fail
        refine hK.out _ _ (trivial) (fun hHeld1 => ?_)
        clear hK K hHeld
        have hHeld := hHeld1
        clear hHeld1
        try simp only [Act.put, List.setIfInBounds_toArray, List.set_cons_zero, List.set_cons_succ]
        refine till_more (fun w' => w'.cell? ⟨p3, 4, none⟩ = some (.int .i64 (DN.put at' b).1.written)) ?_
        replace hHeld := And.intro hHeld hcnt
        refine tl_p (i := 24) (v := ?_) rfl (by rfl) (by kernel_rfl) (by kernel_rfl) (by kernel_rfl) (fun _ _ _ h => h) (by rfl) hHeld ?_ ?_
        rotate_left
        · intro w
          go_simp
          try (with_reducible rfl)
        try simp only [Act.put, List.setIfInBounds_toArray, List.set_cons_zero, List.set_cons_succ]
        refine tl_p (i := 25) (v := ?_) rfl (by rfl) (by kernel_rfl) (by kernel_rfl) (by kernel_rfl) (fun _ _ _ h => h) (by rfl) hHeld ?_ ?_
        rotate_left
        · intro w
          go_simp
          try (with_reducible rfl)
        try simp only [Act.put, List.setIfInBounds_toArray, List.set_cons_zero, List.set_cons_succ]
        refine tl_p (i := 26) (v := ?_) rfl (by rfl) (by kernel_rfl) (by kernel_rfl) (by kernel_rfl) (fun _ _ _ h => h) (by rfl) hHeld ?_ ?_
        rotate_left
        · intro w
          go_simp
          try (with_reducible rfl)
        try simp only [Act.put, List.setIfInBounds_toArray, List.set_cons_zero, List.set_cons_succ]
        refine tl_p (i := 27) (v := ?_) rfl (by rfl) (by kernel_rfl) (by kernel_rfl) (by kernel_rfl) (fun _ _ _ h => h) (by rfl) hHeld ?_ ?_
        rotate_left
        · intro w
          go_simp
          try (with_reducible rfl)
        try simp only [Act.put, List.setIfInBounds_toArray, List.set_cons_zero, List.set_cons_succ]
        refine tl_p (i := 29) (v := ?_) rfl (by rfl) (by kernel_rfl) (by kernel_rfl) (by kernel_rfl) (fun _ _ _ h => h) (by rfl) hHeld ?_ ?_
        rotate_left
        · intro w
          go_simp
          try (with_reducible rfl)
        try simp only [Act.put, List.setIfInBounds_toArray, List.set_cons_zero, List.set_cons_succ]
        refine tl_p (i := 30) (v := ?_) rfl (by rfl) (by kernel_rfl) (by kernel_rfl) (by kernel_rfl) (fun _ _ _ h => h) (by rfl) hHeld ?_ ?_
        rotate_left
        · intro w
          go_simp
          try (with_reducible rfl)
        try simp only [Act.put, List.setIfInBounds_toArray, List.set_cons_zero, List.set_cons_succ]
        refine tl_p (i := 31) (v := ?_) rfl (by rfl) (by kernel_rfl) (by kernel_rfl) (by kernel_rfl) (fun _ _ _ h => h) (by rfl) hHeld ?_ ?_
        rotate_left
        · intro w
          go_simp
          try (with_reducible rfl)
        try simp only [Act.put, List.setIfInBounds_toArray, List.set_cons_zero, List.set_cons_succ]
        refine tl_w (i := 32) (v := ?_) rfl (by rfl) (by kernel_rfl) (by kernel_rfl) (by kernel_rfl) (by kernel_rfl) (by kernel_rfl) (fun _ _ _ h => h) (by rfl) hHeld ?_ ?_
        rotate_left
        · intro w hSw
          have hc := hSw.2
          clear hSw
          go_simp
          try (with_reducible rfl)
        try simp only [Act.put, List.setIfInBounds_toArray, List.set_cons_zero, List.set_cons_succ]
        refine tl_do (i := 28) rfl (by kernel_rfl) (by rfl) (fun K hK => ?_)
        go_simp
        go_at_call 28
        obtain ⟨C7, hd7, _, _⟩ := T7.left
        refine (hd_writes hd7).mono ?_; rintro e w9 ⟨rfl, hw9⟩
        have hw9' := hw9.symm
        subst hw9'
        clear hw9
        try go_wp2_with fail
        refine hK.out _ _ (⟨trivial, hcnt⟩) (fun hHeld1 => ?_)
        clear hK K hHeld
        have hHeld := hHeld1
        clear hHeld1
        try simp only [Act.put, List.setIfInBounds_toArray, List.set_cons_zero, List.set_cons_succ]
        refine tl_p (i := 33) (v := ?_) rfl (by rfl) (by kernel_rfl) (by kernel_rfl) (by kernel_rfl) (fun _ _ _ h => h) (by rfl) hHeld ?_ ?_
        rotate_left
        · intro w
          go_simp
          try (with_reducible rfl)
        try simp only [Act.put, List.setIfInBounds_toArray, List.set_cons_zero, List.set_cons_succ]
        refine tl_p (i := 34) (v := ?_) rfl (by rfl) (by kernel_rfl) (by kernel_rfl) (by kernel_rfl) (fun _ _ _ h => h) (by rfl) hHeld ?_ ?_
        rotate_left
        · intro w
          go_simp
          try (with_reducible rfl)
        try simp only [Act.put, List.setIfInBounds_toArray, List.set_cons_zero, List.set_cons_succ]
        refine till_done (by kernel_rfl) ?_ _
        have hfw := hfew.1
        have hfu := hfew.2.1
        have dok' := Lib.hid hfew.2.2
        have rl' := Lib.hid yy.out.2
        have rok' := hrok
        generalize (DN.put at' b).1 = D' at *
        generalize (RN.put at' b).1 = R' at *
        generalize (DN.put at' b).2 = pb at *
        replace T7 := Lib.hid T7
        clear hHeld hcnt yy hfew hd7 hback6 hback5 hr6 hd5 h6 k6 h7 k7 T6 T5 hv5 T rl rok dok hrok
        go_upto_region 14 with fail
        go_loopw [16] (fun q wr => ∃ i : Nat, i ≤ n ∧ q = .int .i64 i ∧ Duo w wr p1 p3 D' R' (fun _ => False)) (fun q _ => n - (intOf q).toNat)
        case atStart => exact ⟨0, by omega, rfl, T7.out⟩
        clear T7
        case round =>
          obtain ⟨i, hi, rfl, T⟩ := hrel
          replace T := Lib.hid T
          by_cases hlt : i < n
          · have q2 : (i : Int) < (n : Int) := by omega
            go_wp2_with fail
            refine tl_begin (fun (w' : World) => True) [] (by kernel_rfl) (trivial) (fun hHeld => ?_)
            refine tl_p (i := 0) (v := ?_) rfl (by rfl) (by kernel_rfl) (by kernel_rfl) (by kernel_rfl) (fun _ _ _ h => h) (by rfl) hHeld ?_ ?_
            rotate_left
            · intro w
              go_simp
              try (with_reducible rfl)
            try simp only [Act.put, List.setIfInBounds_toArray, List.set_cons_zero, List.set_cons_succ]
            refine tl_p (i := 1) (v := ?_) rfl (by rfl) (by kernel_rfl) (by kernel_rfl) (by kernel_rfl) (fun _ _ _ h => h) (by rfl) hHeld ?_ ?_
            rotate_left
            · intro w
              go_simp
              try (with_reducible rfl)
            try simp only [Act.put, List.setIfInBounds_toArray, List.set_cons_zero, List.set_cons_succ]
            refine tl_p (i := 4) (v := ?_) rfl (by rfl) (by kernel_rfl) (by kernel_rfl) (by kernel_rfl) (fun _ _ _ h => h) (by rfl) hHeld ?_ ?_
            rotate_left
            · intro w
              go_simp
              try (with_reducible rfl)
            try simp only [Act.put, List.setIfInBounds_toArray, List.set_cons_zero, List.set_cons_succ]
            refine tl_p (i := 5) (v := ?_) rfl (by rfl) (by kernel_rfl) (by kernel_rfl) (by kernel_rfl) (fun _ _ _ h => h) (by rfl) hHeld ?_ ?_
            rotate_left
            · intro w
              go_simp
              try (with_reducible rfl)
            try simp only [Act.put, List.setIfInBounds_toArray, List.set_cons_zero, List.set_cons_succ]
            refine tl_do (i := 2) rfl (by kernel_rfl) (by rfl) (fun K hK => ?_)
            go_simp
            go_at_call 21
            obtain ⟨C9, hd9, _, _⟩ := (T.out.below (Below.drew (Below.refl _ _))).left
            refine (hd_read hd9 dok'.out (i : Int)).mono ?_; rintro e w10 ⟨v10, rfl, ho10, hb10⟩
            have hv10 := ho10.view
            obtain ⟨A10, c10, rfl, _⟩ := own_shape ho10
            have T10 := (T.out.below (Below.drew (Below.refl _ _))).below hb10
            try go_wp2_with fail
            refine hK.out _ _ (trivial) (fun hHeld1 => ?_)
            clear hK K hHeld
            have hHeld := hHeld1
            clear hHeld1
            try simp only [Act.put, List.setIfInBounds_toArray, List.set_cons_zero, List.set_cons_succ]
            refine till_more (fun w' => VB w' (.slice A10 (D'.read (i : Int)).length c10) (D'.read (i : Int))) ?_
            replace hHeld := And.intro hHeld hv10
            refine tl_w (i := 3) (v := ?_) rfl (by rfl) (by kernel_rfl) (by kernel_rfl) (by kernel_rfl) (by kernel_rfl) (by kernel_rfl) (fun _ _ _ h => h) (by rfl) hHeld ?_ ?_
            rotate_left
            · intro w hSw
              have hc := conv_any w _ _ hSw.2
              clear hSw
              go_simp
              try (with_reducible rfl)
            try simp only [Act.put, List.setIfInBounds_toArray, List.set_cons_zero, List.set_cons_succ]
            refine tl_do (i := 6) rfl (by kernel_rfl) (by rfl) (fun K hK => ?_)
            go_simp
            go_at_call 31
            obtain ⟨C10, hr10, _, _⟩ := T10.right
            refine (hr_read hr10 rok'.out (by rw [rl'.out.uns]; omega) (i : Int)).mono ?_; rintro e w11 ⟨v11, rfl, ho11, hb11⟩
            rw [← rel_read rl'.out] at ho11
            have hv11 := ho11.view
            obtain ⟨A11, c11, rfl, _⟩ := own_shape ho11
            have T11 := T10.below hb11
            have hv12 := View.below hv10 hb11
            try go_wp2_with fail
            refine hK.out _ _ (⟨trivial, hv12⟩) (fun hHeld1 => ?_)
            clear hK K hHeld
            have hHeld := hHeld1
            clear hHeld1
            try simp only [Act.put, List.setIfInBounds_toArray, List.set_cons_zero, List.set_cons_succ]
            refine till_more (fun w' => VB w' (.slice A11 (D'.read (i : Int)).length c11) (D'.read (i : Int))) ?_
            replace hHeld := And.intro hHeld hv11
            refine tl_w (i := 7) (v := ?_) rfl (by rfl) (by kernel_rfl) (by kernel_rfl) (by kernel_rfl) (by kernel_rfl) (by kernel_rfl) (fun _ _ _ h => h) (by rfl) hHeld ?_ ?_
            rotate_left
            · intro w hSw
              have hc := conv_any w _ _ hSw.2
              clear hSw
              go_simp
              try (with_reducible rfl)
            try simp only [Act.put, List.setIfInBounds_toArray, List.set_cons_zero, List.set_cons_succ]
            refine tl_p (i := 8) (v := ?_) rfl (by rfl) (by kernel_rfl) (by kernel_rfl) (by kernel_rfl) (fun _ _ _ h => h) (by rfl) hHeld ?_ ?_
            rotate_left
            · intro w
              go_simp
              try (with_reducible rfl)
            try simp only [Act.put, List.setIfInBounds_toArray, List.set_cons_zero, List.set_cons_succ]
            refine till_done (by kernel_rfl) ?_ _
            have T12 := Lib.hid T11
            clear hHeld hv10 hv11 hv12 hb10 hb11 T10 T11 ho10 ho11
            go_wp2_with fail
            go_roundw
            case rel => exact ⟨i + 1, by omega, by go_num, T12.out⟩
            case measure => simp [intOf]; omega
          · have q2 : ¬ (i : Int) < (n : Int) := by omega
            go_wp2_with fail
            refine tl_begin (fun (w' : World) => True) [] (by kernel_rfl) (trivial) (fun hHeld => ?_)
            refine tl_p (i := 0) (v := ?_) rfl (by rfl) (by kernel_rfl) (by kernel_rfl) (by kernel_rfl) (fun _ _ _ h => h) (by rfl) hHeld ?_ ?_
            rotate_left
            · intro w
              go_simp
              try (with_reducible rfl)
            try simp only [Act.put, List.setIfInBounds_toArray, List.set_cons_zero, List.set_cons_succ]
            refine tl_p (i := 1) (v := ?_) rfl (by rfl) (by kernel_rfl) (by kernel_rfl) (by kernel_rfl) (fun _ _ _ h => h) (by rfl) hHeld ?_ ?_
            rotate_left
            · intro w
              go_simp
              try (with_reducible rfl)
            try simp only [Act.put, List.setIfInBounds_toArray, List.set_cons_zero, List.set_cons_succ]
            refine tl_p (i := 2) (v := ?_) rfl (by rfl) (by kernel_rfl) (by kernel_rfl) (by kernel_rfl) (fun _ _ _ h => h) (by rfl) hHeld ?_ ?_
            rotate_left
            · intro w
              go_simp
              try (with_reducible rfl)
            try simp only [Act.put, List.setIfInBounds_toArray, List.set_cons_zero, List.set_cons_succ]
            refine tl_p (i := 5) (v := ?_) rfl (by rfl) (by kernel_rfl) (by kernel_rfl) (by kernel_rfl) (fun _ _ _ h => h) (by rfl) hHeld ?_ ?_
            rotate_left
            · intro w
              go_simp
              try (with_reducible rfl)
            try simp only [Act.put, List.setIfInBounds_toArray, List.set_cons_zero, List.set_cons_succ]
            refine tl_p (i := 6) (v := ?_) rfl (by rfl) (by kernel_rfl) (by kernel_rfl) (by kernel_rfl) (fun _ _ _ h => h) (by rfl) hHeld ?_ ?_
            rotate_left
            · intro w
              go_simp
              try (with_reducible rfl)
            try simp only [Act.put, List.setIfInBounds_toArray, List.set_cons_zero, List.set_cons_succ]
            refine tl_p (i := 7) (v := ?_) rfl (by rfl) (by kernel_rfl) (by kernel_rfl) (by kernel_rfl) (fun _ _ _ h => h) (by rfl) hHeld ?_ ?_
            rotate_left
            · intro w
              go_simp
              try (with_reducible rfl)
            try simp only [Act.put, List.setIfInBounds_toArray, List.set_cons_zero, List.set_cons_succ]
            refine tl_do (i := 3) rfl (by kernel_rfl) (by rfl) (fun K hK => ?_)
            go_simp
            go_at_call 35
            obtain ⟨C9, hd9, _, _⟩ := (T.out.below (Below.drew (Below.refl _ _))).left
            refine (hd_get hd9 dok'.out from' size).mono ?_; rintro e w10 ⟨v10, rfl, hv10, hb10, _⟩
            obtain ⟨A10, c10, rfl, _⟩ := hv10.cells
            have T10 := (T.out.below (Below.drew (Below.refl _ _))).below hb10
            try go_wp2_with fail
            refine hK.out _ _ (trivial) (fun hHeld1 => ?_)
            clear hK K hHeld
            have hHeld := hHeld1
            clear hHeld1
            try simp only [Act.put, List.setIfInBounds_toArray, List.set_cons_zero, List.set_cons_succ]
            refine till_more (fun w' => VB w' (.slice A10 (D'.get from' size).length c10) (D'.get from' size)) ?_
            replace hHeld := And.intro hHeld hv10
            refine tl_w (i := 4) (v := ?_) rfl (by rfl) (by kernel_rfl) (by kernel_rfl) (by kernel_rfl) (by kernel_rfl) (by kernel_rfl) (fun _ _ _ h => h) (by rfl) hHeld ?_ ?_
            rotate_left
            · intro w hSw
              have hc := conv_any w _ _ hSw.2
              clear hSw
              go_simp
              try (with_reducible rfl)
            try simp only [Act.put, List.setIfInBounds_toArray, List.set_cons_zero, List.set_cons_succ]
            refine tl_do (i := 8) rfl (by kernel_rfl) (by rfl) (fun K hK => ?_)
            go_simp
            go_at_call 38
            obtain ⟨C10, hr10, _, _⟩ := T10.right
            refine (hr_get hr10 rok'.out (by rw [rl'.out.uns]; omega) from' size).mono ?_; rintro e w11 ⟨v11, rfl, hv11, hb11⟩
            rw [← rel_get rl'.out] at hv11
            obtain ⟨A11, c11, rfl, _⟩ := hv11.cells
            have T11 := T10.below hb11
            have hv12 := View.below hv10 hb11
            try go_wp2_with fail
            refine hK.out _ _ (⟨trivial, hv12⟩) (fun hHeld1 => ?_)
            clear hK K hHeld
            have hHeld := hHeld1
            clear hHeld1
            try simp only [Act.put, List.setIfInBounds_toArray, List.set_cons_zero, List.set_cons_succ]
            refine till_more (fun w' => VB w' (.slice A11 (D'.get from' size).length c11) (D'.get from' size)) ?_
            replace hHeld := And.intro hHeld hv11
            refine tl_w (i := 9) (v := ?_) rfl (by rfl) (by kernel_rfl) (by kernel_rfl) (by kernel_rfl) (by kernel_rfl) (by kernel_rfl) (fun _ _ _ h => h) (by rfl) hHeld ?_ ?_
            rotate_left
            · intro w hSw
              have hc := conv_any w _ _ hSw.2
              clear hSw
              go_simp
              try (with_reducible rfl)
            try simp only [Act.put, List.setIfInBounds_toArray, List.set_cons_zero, List.set_cons_succ]
            refine tl_p (i := 10) (v := ?_) rfl (by rfl) (by kernel_rfl) (by kernel_rfl) (by kernel_rfl) (fun _ _ _ h => h) (by rfl) hHeld ?_ ?_
            rotate_left
            · intro w
              go_simp
              try (with_reducible rfl)
            try simp only [Act.put, List.setIfInBounds_toArray, List.set_cons_zero, List.set_cons_succ]
            refine tl_p (i := 11) (v := ?_) rfl (by rfl) (by kernel_rfl) (by kernel_rfl) (by kernel_rfl) (fun _ _ _ h => h) (by rfl) hHeld ?_ ?_
            rotate_left
            · intro w
              go_simp
              try (with_reducible rfl)
            try simp only [Act.put, List.setIfInBounds_toArray, List.set_cons_zero, List.set_cons_succ]
            refine tl_p (i := 12) (v := ?_) rfl (by rfl) (by kernel_rfl) (by kernel_rfl) (by kernel_rfl) (fun _ _ _ h => h) (by rfl) hHeld ?_ ?_
            rotate_left
            · intro w
              go_simp
              try (with_reducible rfl)
            try simp only [Act.put, List.setIfInBounds_toArray, List.set_cons_zero, List.set_cons_succ]
            refine tl_p (i := 13) (v := ?_) rfl (by rfl) (by kernel_rfl) (by kernel_rfl) (by kernel_rfl) (fun _ _ _ h => h) (by rfl) hHeld ?_ ?_
            rotate_left
            · intro w
              go_simp
              try (with_reducible rfl)
            try simp only [Act.put, List.setIfInBounds_toArray, List.set_cons_zero, List.set_cons_succ]
            refine tl_p (i := 14) (v := ?_) rfl (by rfl) (by kernel_rfl) (by kernel_rfl) (by kernel_rfl) (fun _ _ _ h => h) (by rfl) hHeld ?_ ?_
            rotate_left
            · intro w
              go_simp
              try (with_reducible rfl)
            try simp only [Act.put, List.setIfInBounds_toArray, List.set_cons_zero, List.set_cons_succ]
            refine tl_p (i := 15) (v := ?_) rfl (by rfl) (by kernel_rfl) (by kernel_rfl) (by kernel_rfl) (fun _ _ _ h => h) (by rfl) hHeld ?_ ?_
            rotate_left
            · intro w
              go_simp
              try (with_reducible rfl)
            try simp only [Act.put, List.setIfInBounds_toArray, List.set_cons_zero, List.set_cons_succ]
            refine tl_p (i := 18) (v := ?_) rfl (by rfl) (by kernel_rfl) (by kernel_rfl) (by kernel_rfl) (fun _ _ _ h => h) (by rfl) hHeld ?_ ?_
            rotate_left
            · intro w
              go_simp
              try (with_reducible rfl)
            try simp only [Act.put, List.setIfInBounds_toArray, List.set_cons_zero, List.set_cons_succ]
            refine tl_p (i := 19) (v := ?_) rfl (by rfl) (by kernel_rfl) (by kernel_rfl) (by kernel_rfl) (fun _ _ _ h => h) (by rfl) hHeld ?_ ?_
            rotate_left
            · intro w
              go_simp
              try (with_reducible rfl)
            try simp only [Act.put, List.setIfInBounds_toArray, List.set_cons_zero, List.set_cons_succ]
            refine tl_p (i := 20) (v := ?_) rfl (by rfl) (by kernel_rfl) (by kernel_rfl) (by kernel_rfl) (fun _ _ _ h => h) (by rfl) hHeld ?_ ?_
            rotate_left
            · intro w
              go_simp
              try (with_reducible rfl)
            try simp only [Act.put, List.setIfInBounds_toArray, List.set_cons_zero, List.set_cons_succ]
            refine tl_p (i := 21) (v := ?_) rfl (by rfl) (by kernel_rfl) (by kernel_rfl) (by kernel_rfl) (fun _ _ _ h => h) (by rfl) hHeld ?_ ?_
            rotate_left
            · intro w
              go_simp
              try (with_reducible rfl)
            try simp only [Act.put, List.setIfInBounds_toArray, List.set_cons_zero, List.set_cons_succ]
            refine tl_do (i := 16) rfl (by kernel_rfl) (by rfl) (fun K hK => ?_)
            go_simp
            go_at_call 35
            obtain ⟨C11, hd11, _, _⟩ := T11.left
            refine (hd_get hd11 dok'.out at' (b.length : Int)).mono ?_; rintro e w12 ⟨v13, rfl, hv13, hb12, _⟩
            obtain ⟨A13, c13, rfl, _⟩ := hv13.cells
            have T12 := T11.below hb12
            have hv14 := View.below hv12 hb12
            have hv15 := View.below hv11 hb12
            try go_wp2_with fail
            refine hK.out _ _ (⟨⟨trivial, hv14⟩, hv15⟩) (fun hHeld1 => ?_)
            clear hK K hHeld
            have hHeld := hHeld1
            clear hHeld1
            try simp only [Act.put, List.setIfInBounds_toArray, List.set_cons_zero, List.set_cons_succ]
            refine till_more (fun w' => VB w' (.slice A13 (D'.get at' b.length).length c13) (D'.get at' b.length)) ?_
            replace hHeld := And.intro hHeld hv13
            refine tl_w (i := 17) (v := ?_) rfl (by rfl) (by kernel_rfl) (by kernel_rfl) (by kernel_rfl) (by kernel_rfl) (by kernel_rfl) (fun _ _ _ h => h) (by rfl) hHeld ?_ ?_
            rotate_left
            · intro w hSw
              have hc := conv_any w _ _ hSw.2
              clear hSw
              go_simp
              try (with_reducible rfl)
            try simp only [Act.put, List.setIfInBounds_toArray, List.set_cons_zero, List.set_cons_succ]
            refine tl_do (i := 22) rfl (by kernel_rfl) (by rfl) (fun K hK => ?_)
            go_simp
            go_at_call 38
            obtain ⟨C12, hr12, _, _⟩ := T12.right
            refine (hr_get hr12 rok'.out (by rw [rl'.out.uns]; omega) at' (b.length : Int)).mono ?_; rintro e w13 ⟨v16, rfl, hv16, hb13⟩
            rw [← rel_get rl'.out] at hv16
            obtain ⟨A16, c16, rfl, _⟩ := hv16.cells
            have T13 := T12.below hb13
            try go_wp2_with fail
            refine hK.out _ _ (⟨⟨⟨trivial, View.below hv14 hb13⟩, View.below hv15 hb13⟩, View.below hv13 hb13⟩) (fun hHeld1 => ?_)
            clear hK K hHeld
            have hHeld := hHeld1
            clear hHeld1
            try simp only [Act.put, List.setIfInBounds_toArray, List.set_cons_zero, List.set_cons_succ]
            refine till_more (fun w' => VB w' (.slice A16 (D'.get at' b.length).length c16) (D'.get at' b.length)) ?_
            replace hHeld := And.intro hHeld hv16
            refine tl_w (i := 23) (v := ?_) rfl (by rfl) (by kernel_rfl) (by kernel_rfl) (by kernel_rfl) (by kernel_rfl) (by kernel_rfl) (fun _ _ _ h => h) (by rfl) hHeld ?_ ?_
            rotate_left
            · intro w hSw
              have hc := conv_any w _ _ hSw.2
              clear hSw
              go_simp
              try (with_reducible rfl)
            try simp only [Act.put, List.setIfInBounds_toArray, List.set_cons_zero, List.set_cons_succ]
            refine tl_p (i := 24) (v := ?_) rfl (by rfl) (by kernel_rfl) (by kernel_rfl) (by kernel_rfl) (fun _ _ _ h => h) (by rfl) hHeld ?_ ?_
            rotate_left
            · intro w
              go_simp
              try (with_reducible rfl)
            try simp only [Act.put, List.setIfInBounds_toArray, List.set_cons_zero, List.set_cons_succ]
            refine tl_p (i := 25) (v := ?_) rfl (by rfl) (by kernel_rfl) (by kernel_rfl) (by kernel_rfl) (fun _ _ _ h => h) (by rfl) hHeld ?_ ?_
            rotate_left
            · intro w
              go_simp
              try (with_reducible rfl)
            try simp only [Act.put, List.setIfInBounds_toArray, List.set_cons_zero, List.set_cons_succ]
            refine tl_p (i := 26) (v := ?_) rfl (by rfl) (by kernel_rfl) (by kernel_rfl) (by kernel_rfl) (fun _ _ _ h => h) (by rfl) hHeld ?_ ?_
            rotate_left
            · intro w
              go_simp
              try (with_reducible rfl)
            try simp only [Act.put, List.setIfInBounds_toArray, List.set_cons_zero, List.set_cons_succ]
            refine till_done (by kernel_rfl) ?_ _
            have hacc13 := Lib.hid T13.acc
            clear hHeld
            go_wp2_with fail
            go_ret
            exact ⟨rfl, hacc13.out⟩

theorem spanPuts_walk (W : World) (n : Int) (_ : (Lit.int .i64 n).wf = true) (a : Int) (_ : (Lit.int .i64 a).wf = true) (A : Option Addr) (k c : Nat) (l : (Kd.sl 5 (.int .u8)).T) (z : Rd Try.prog W (.sl 5 (.int .u8)) [.slice A k c] l) (f : Int) (_ : (Lit.int .i64 f).wf = true) (size : Int) (hs : (Lit.int .i64 size).wf = true) (left : Int) (_ : (Lit.int .i64 left).wf = true) :
    Calls Try.prog 9 #[.int .i64 n, .int .i64 a, .slice A k c, .int .i64 f, .int .i64 size, .int .i64 left] W fun e w' => e = .returned (.bool true) ∧ Below W.heap.size W w' := by
  obtain ⟨rfl, h⟩ := bytes_of_rd z
  refine puts_core W n a A c l h f size left ?_
  simp [Lit.wf, IntKind.max, IntKind.min, IntKind.bits, IntKind.signed] at hs
  exact hs.2
end Go.Proofs.Ytbfcaapompkjhaa
