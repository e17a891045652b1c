/-
  The reference's disk: Len, Broken, Read, Write by their contracts.
-/
import Derived.Test.YtbfcaapompkjhaaEa
import Derived.Test.YtbfcaapompkjhaaTill
set_option linter.unusedVariables false
set_option linter.unusedSimpArgs false
namespace Go.Proofs.Ytbfcaapompkjhaa
open Go.RowKit Go.Proofs.PosteMem
attribute [local go_sem ↓] Go.wp_at_zero Go.wp_at_succ

theorem rlen_any (w : World) (F : Nat → Prop) (p : Nat) (D : Rk) (h : RefAt w F p D) :
    Calls Try.prog 30 #[.pointer (some ⟨p, 0, none⟩)] w fun e w' => e = .returned (.int .i64 D.sure.length) ∧ w' = w := by
  obtain ⟨vs, vu, hs, hu, h⟩ := h
  obtain ⟨A, c, rfl, _⟩ := own_shape h.sure
  have c1 := h.box.cell 0
  clear h
  go_enter Try.func30, Try.ntmps30
  go_wp2_with fail
  go_ret
  exact ⟨rfl, rfl⟩
theorem rbroken_any (w : World) (F : Nat → Prop) (p : Nat) (D : Rk) (h : RefAt w F p D) :
    Calls Try.prog 58 #[.pointer (some ⟨p, 0, none⟩)] w fun e w' => e = .returned (.bool D.broken) ∧ w' = w := by
  obtain ⟨vs, vu, hs, hu, h⟩ := h
  obtain ⟨S, U, left, ends, count⟩ := D
  have c2 := h.box.cell 2
  have c3 := h.box.cell 3
  simp only at c2 c3
  clear h
  unfold Rk.broken
  simp only
  cases ends with
  | false =>
    go_enter Try.func58, Try.ntmps58
    go_wp2_with fail
    go_ret
    exact ⟨rfl, rfl⟩
  | true =>
    go_enter Try.func58, Try.ntmps58
    go_wp2_with fail
    go_ret
    refine ⟨ret_bool ?_, rfl⟩
    rw [Bool.eq_iff_iff]
    simp
set_option maxRecDepth 100000 in
set_option maxHeartbeats 4000000 in
theorem rread_any (w : World) (F : Nat → Prop) (p : Nat) (D : Rk) (i : Int) (h : RefAt w F p D) (hk : D.ok) (hul : D.uns.length ≤ 1000000) :
    Calls Try.prog 31 #[.pointer (some ⟨p, 0, none⟩), .int .i64 i] w fun e w' => ∃ v, e = .returned v ∧ OB w' w.heap.size v (D.read i) ∧ Below w.heap.size w w' := by
  obtain ⟨j0, hj0, hy0, hy1, hy2⟩ := info_parts infoByte
  by_cases h1 : i < 0
  · have e : D.read i = [] := by unfold Rk.read; rw [dif_neg (by omega)]
    rw [e]
    go_enter Try.func31, Try.ntmps31
    go_wp2_with fail
    go_ret
    exact ⟨_, rfl, World.ownsRow_nil _ _ _ _, Below.refl _ _⟩
  obtain ⟨k, rfl⟩ : ∃ k : Nat, i = k := ⟨i.toNat, by omega⟩
  obtain ⟨vs, vu, hs, hu, h⟩ := h
  obtain ⟨As, cs, rfl, _⟩ := own_shape h.sure
  have c0 := h.box.cell 0
  by_cases h2 : D.sure.length ≤ k
  · have e : D.read (k : Int) = [] := by unfold Rk.read; rw [dif_neg (by simp; omega)]
    have h2' : (D.sure.length : Int) ≤ (k : Int) := by omega
    rw [e]
    clear h hk
    go_enter Try.func31, Try.ntmps31
    go_wp2_with fail
    go_ret
    exact ⟨_, rfl, World.ownsRow_nil _ _ _ _, Below.refl _ _⟩
  · have hk2 : k < D.sure.length := by omega
    have e : D.read (k : Int) = lastOf D.uns k D.sure[k] D.uns.length := by unfold Rk.read; rw [dif_pos (by simp; omega)]; simp
    rw [e]
    obtain ⟨g, c, e, _⟩ := own_some h.sure (by omega)
    injection e with e1 e2 e3
    subst e1 e3
    obtain ⟨Au, cu, rfl, _⟩ := own_shape h.uns
    have hkn : k < hs.length := by rw [h.hsure.1]; exact hk2
    have hdt := h.hsure.2 k hkn hk2
    have ck := own_cell h.sure k (by omega)
    have c1 := h.box.cell 1
    have q1 : (k : Int) < (D.sure.length : Int) := by omega
    have q2 : ¬ (D.sure.length : Int) ≤ (k : Int) := by omega
    have hlen := hk.sbytes D.sure[k] (List.getElem_mem _)
    have hub := hk.ubytes
    obtain ⟨S, U, left, ends, count⟩ := D
    simp only at *
    have dt0 := hdt
    obtain ⟨g2, c2, e2, _, _⟩ := hdt
    rw [e2] at ck dt0
    generalize S[k] = b0 at *
    have huns := h.uns
    have hhu := h.huns
    have hul2 : hu.length = U.length := by have := congrArg List.length h.hat; simpa using this
    have hat := h.hat
    clear h e2 h2 hk
    replace huns := Lib.hid huns
    replace hhu := Lib.hid hhu
    replace dt0 := Lib.hid dt0
    replace hat := Lib.hid hat
    replace hub := Lib.hid hub
    replace hlen := Lib.hid hlen
    go_enter Try.func31, Try.ntmps31
    go_upto_region 5 with fail
    clear c0 ck
    go_loopw [5, 6] (fun hd j wr => ∃ m : Nat, m ≤ U.length ∧ j = .int .i64 m ∧ Dt w F hd (lastOf U k b0 m) ∧ (lastOf U k b0 m).length = 64 ∧ wr = w) (fun _ j _ => U.length - (intOf j).toNat)
    case atStart => exact ⟨0, by omega, rfl, dt0.out, hlen.out, rfl⟩
    clear dt0 hlen
    case round =>
      obtain ⟨m, hm, rfl, dt, hl, hwr⟩ := hrel
      obtain rfl : w = wr := hwr.symm
      clear hwr
      by_cases hlt : m < U.length
      · have q3 : (m : Int) < (U.length : Int) := by omega
        have hkh : m < hu.length := by omega
        obtain ⟨gu, off, cap', e, _, _, hgl, fu⟩ := View.elems wc wc_len (n := U.length) (View.of_own huns.out) (by decide) (by omega)
        injection e with e1 e2 e3
        subst e1 e3
        have hdm := hhu.out.2 m (by simpa using hkh) (by simpa using hlt)
        have ha : hu[m].1 = U[m].1 := by
          have h1 : (hu.map (·.1))[m]? = (U.map (·.1))[m]? := by rw [hat.out]
          rw [List.getElem?_map, List.getElem?_map, List.getElem?_eq_getElem hkh, List.getElem?_eq_getElem hlt] at h1
          simpa using h1
        have p0 := fu m hkh 0 _ rfl
        have p1 := fu m hkh 1 _ rfl
        simp only [List.getElem_map] at hdm
        have hbl := hub.out U[m] (List.getElem_mem hlt)
        have hy : (U[m]?.map (·.1)) = some U[m].1 ∧ (U[m]?.map (·.2)).getD [] = U[m].2 := by rw [List.getElem?_eq_getElem hlt]; exact ⟨rfl, rfl⟩
        have hstep : lastOf U k b0 (m + 1) = if U[m].1 = k then U[m].2 else lastOf U k b0 m := by
          rw [lastOf, hy.1, hy.2]
          by_cases e : U[m].1 = k
          · rw [if_pos e, if_pos (by rw [e])]
          · rw [if_neg e, if_neg (fun h => e (by injection h))]
        clear hy
        generalize hu[m] = x at *
        generalize U[m] = y at *
        obtain ⟨a', hd'⟩ := x
        obtain ⟨a, b⟩ := y
        simp only at ha hdm hbl hstep
        subst ha
        have dt1 := Lib.hid hdm
        obtain ⟨g3, c3, rfl, _, _⟩ := hdm
        replace p0 : w.cell? ⟨gu, off + m * 2, none⟩ = some (.int .i64 a') := p0
        replace p1 : w.cell? ⟨gu, off + m * 2 + 1, none⟩ = some (.slice (some ⟨g3, 0, none⟩) b.length c3) := p1
        replace dt := Lib.hid dt
        replace hl := Lib.hid hl
        replace hbl := Lib.hid hbl
        replace hstep := Lib.hid hstep
        clear fu
        by_cases he : a' = k
        · have q4 : ((a' : Int) == (k : Int)) = true := by rw [beq_iff_eq]; omega
          have e5 : lastOf U k b0 (m + 1) = b := by rw [hstep.out, if_pos he]
          replace e5 := Lib.hid e5
          replace he := Lib.hid he
          go_wp2_with fail
          go_roundw
          case rel => exact ⟨m + 1, by omega, by go_num, by rw [e5.out]; exact dt1.out, by rw [e5.out]; exact hbl.out, by trivial⟩
          case measure => simp [intOf]; omega
        · have q4 : ((a' : Int) == (k : Int)) = false := beq_eq_false_iff_ne.2 (by omega)
          have e5 : lastOf U k b0 (m + 1) = lastOf U k b0 m := by rw [hstep.out, if_neg he]
          replace e5 := Lib.hid e5
          replace he := Lib.hid he
          go_wp2_with fail
          go_roundw
          case rel => exact ⟨m + 1, by omega, by go_num, by rw [e5.out]; exact dt.out, by rw [e5.out]; exact hl.out, by trivial⟩
          case measure => simp [intOf]; omega
      · have q3 : ¬ (m : Int) < (U.length : Int) := by omega
        obtain rfl : m = U.length := by omega
        obtain ⟨bl, hbl⟩ : ∃ bl, lastOf U k b0 U.length = bl := ⟨_, rfl⟩
        rw [hbl] at dt hl
        replace hbl := Lib.hid hbl
        obtain ⟨g3, c3, rfl, _, hob⟩ := dt
        have hvb := hob.view
        unfold VB at hvb
        rw [hl] at hvb
        replace hvb := Lib.hid hvb
        rw [hl]
        replace hl := Lib.hid hl
        clear hob
        go_wp2_with (at_builtin; refine wpList_append_view _ rfl (.const (.slice none 0 0)) (.tmp 52) _ rfl w.heap.size 5 j0 (.int .u8 0) 1 1 Try.underlying27 hj0 hy0 hy1 hy2 rfl (by omega) (.slice none 0 0) 0 [] rfl (World.ownsRow_nil _ _ _ _) (.slice (some ⟨g3, 0, none⟩) 64 c3) 64 (bl.map bv) rfl hvb.out (bv_one bl) (by omega) (by simp only [maxLen]; omega) (Nat.le_refl _) ?_; intro v1 w1 hown1 hg1 _; rw [Nat.zero_add, List.nil_append] at hown1; obtain ⟨A1, c1', rfl, _, _, _⟩ := own_shape hown1)
        go_ret
        exact ⟨_, rfl, by rw [hbl.out]; unfold OB; rw [hl.out]; exact hown1, (Below.refl _ _).grown hg1 (Nat.le_refl _) (by intro k hk; cases hk)⟩

theorem rwrite_no {D : Rk} {i : Int} {bs : List Int} (h : i < 0 ∨ (D.sure.length : Int) ≤ i ∨ bs.length ≠ 64 ∨ D.broken = true) : D.write i bs = (D, false) := by
  unfold Rk.write
  rw [if_pos h]
set_option maxRecDepth 100000 in
set_option maxHeartbeats 4000000 in
theorem rwrite_any (w : World) (F : Nat → Prop) (p : Nat) (D : Rk) (i : Int) (v : Value) (bs : List Int) (h : RefAt w F p D) (hk : D.ok) (hv : VB w v bs) (hw : D.count ≤ 1000000000000) (hu : D.uns.length ≤ 1000000) :
    Calls Try.prog 23 #[.pointer (some ⟨p, 0, none⟩), .int .i64 i, v] w fun e w' => e = .returned (.bool (D.write i bs).2) ∧ RPost w F p (D.write i bs).1 w' := by
  obtain ⟨j0, hj0, hy0, hy1, hy2⟩ := info_parts infoByte
  obtain ⟨i0, hi0, hz0, hz1, hz2⟩ := info_parts infoRw
  have kB := Lib.hid (rbroken_any w F p D h)
  have hp0 := Lib.hid (RefAt.fr_self h)
  obtain ⟨A, cv, rfl, _, _⟩ := hv.cells
  by_cases h1 : i < 0
  · rw [rwrite_no (.inl h1)]
    clear h hk hv
    go_enter Try.func23, Try.ntmps23
    go_wp2_with fail
    go_ret
    exact ⟨rfl, hp0.out⟩
  obtain ⟨k, rfl⟩ : ∃ k : Nat, i = k := ⟨i.toNat, by omega⟩
  obtain ⟨vs, vu, hs, hu', h⟩ := h
  obtain ⟨As, cs, rfl, _⟩ := own_shape h.sure
  have c0 := h.box.cell 0
  by_cases h2 : D.sure.length ≤ k
  · rw [rwrite_no (.inr (.inl (by omega)))]
    have h2' : (D.sure.length : Int) ≤ (k : Int) := by omega
    clear h hk hv
    go_enter Try.func23, Try.ntmps23
    go_wp2_with fail
    go_ret
    exact ⟨rfl, hp0.out⟩
  have q2 : ¬ (D.sure.length : Int) ≤ (k : Int) := by omega
  by_cases h3 : bs.length ≠ 64
  · rw [rwrite_no (.inr (.inr (.inl h3)))]
    have q3 : ((bs.length : Int) == 64) = false := beq_eq_false_iff_ne.2 (by omega)
    clear h hk hv
    go_enter Try.func23, Try.ntmps23
    go_wp2_with fail
    go_ret
    exact ⟨rfl, hp0.out⟩
  have q3 : bs.length = 64 := by omega
  cases hbr : D.broken with
  | true =>
    rw [rwrite_no (.inr (.inr (.inr hbr)))]
    rw [hbr] at kB
    clear h hk hv
    rw [q3]
    go_enter Try.func23, Try.ntmps23
    go_wp2_with fail
    refine kB.out.mono ?_; rintro e w1 ⟨rfl, rfl⟩
    go_wp2_with fail
    go_ret
    exact ⟨rfl, hp0.out⟩
  | false =>
    rw [hbr] at kB
    have hlow := hk.low
    have hhigh := hk.high
    obtain ⟨S, U, left, ends, count⟩ := D
    have hW : Rk.write ⟨S, U, left, ends, count⟩ (k : Int) bs = (⟨S, U ++ [(k, bs)], if ends then left - 1 else left, ends, count + 1⟩, true) := by
      unfold Rk.write
      rw [if_neg (by simp only [not_or]; exact ⟨h1, q2, fun e => e q3, by rw [hbr]; decide⟩)]
      simp
    rw [hW]
    simp only at *
    obtain ⟨Au, cu, rfl, _⟩ := own_shape h.uns
    unfold VB at hv
    rw [q3] at hv ⊢
    have hbox := Lib.hid h.box
    have hne := Lib.hid (own_ne_whole h.uns h.box (by decide))
    have huns := Lib.hid h.uns
    replace h := Lib.hid h
    replace hv := Lib.hid hv
    clear hW hp0
    go_enter Try.func23, Try.ntmps23
    go_wp2_with fail
    refine kB.out.mono ?_; rintro e w0 ⟨rfl, hw0⟩
    obtain rfl : w = w0 := hw0.symm
    clear hw0
    go_wp2_with fail
    clear kB c0
    refine tl_begin (fun (w' : World) => w'.cell? ⟨p, 1, none⟩ = some (.slice Au U.length cu)) [13] (by kernel_rfl) (hbox.out.cell 1) (fun hHeld => ?_)
    refine tl_p (i := 0) (v := ?_) rfl (by rfl) (by kernel_rfl) (by kernel_rfl) (by kernel_rfl) (fun _ _ _ h => h) (by rfl) hHeld ?_ ?_
    rotate_left
    · intro w
      go_simp
      try (with_reducible rfl)
    try simp only [Act.put, List.setIfInBounds_toArray, List.set_cons_zero, List.set_cons_succ]
    refine tl_p (i := 1) (v := ?_) rfl (by rfl) (by kernel_rfl) (by kernel_rfl) (by kernel_rfl) (fun _ _ _ h => h) (by rfl) hHeld ?_ ?_
    rotate_left
    · intro w
      go_simp
      try (with_reducible rfl)
    try simp only [Act.put, List.setIfInBounds_toArray, List.set_cons_zero, List.set_cons_succ]
    refine tl_p (i := 2) (v := ?_) rfl (by rfl) (by kernel_rfl) (by kernel_rfl) (by kernel_rfl) (fun _ _ _ h => h) (by rfl) hHeld ?_ ?_
    rotate_left
    · intro w
      go_simp
      try (with_reducible rfl)
    try simp only [Act.put, List.setIfInBounds_toArray, List.set_cons_zero, List.set_cons_succ]
    refine tl_p (i := 3) (v := ?_) rfl (by rfl) (by kernel_rfl) (by kernel_rfl) (by kernel_rfl) (fun _ _ _ h => h) (by rfl) hHeld ?_ ?_
    rotate_left
    · intro w
      go_simp
      try (with_reducible rfl)
    try simp only [Act.put, List.setIfInBounds_toArray, List.set_cons_zero, List.set_cons_succ]
    refine tl_w (i := 4) (v := ?_) rfl (by rfl) (by kernel_rfl) (by kernel_rfl) (by kernel_rfl) (by kernel_rfl) (by kernel_rfl) (fun _ _ _ h => h) (by rfl) hHeld ?_ ?_
    rotate_left
    · intro w hSw
      try dsimp only at hSw
      go_simp
      try (with_reducible rfl)
    try simp only [Act.put, List.setIfInBounds_toArray, List.set_cons_zero, List.set_cons_succ]
    refine tl_p (i := 5) (v := ?_) rfl (by rfl) (by kernel_rfl) (by kernel_rfl) (by kernel_rfl) (fun _ _ _ h => h) (by rfl) hHeld ?_ ?_
    rotate_left
    · intro w
      go_simp
      try (with_reducible rfl)
    try simp only [Act.put, List.setIfInBounds_toArray, List.set_cons_zero, List.set_cons_succ]
    refine tl_p (i := 6) (v := ?_) rfl (by rfl) (by kernel_rfl) (by kernel_rfl) (by kernel_rfl) (fun _ _ _ h => h) (by rfl) hHeld ?_ ?_
    rotate_left
    · intro w
      go_simp
      try (with_reducible rfl)
    try simp only [Act.put, List.setIfInBounds_toArray, List.set_cons_zero, List.set_cons_succ]
    refine tl_do (i := 7) rfl (by kernel_rfl) (by rfl) (fun K hK => ?_)
    refine wp_append_view _ (.const (.slice none 0 0)) (.tmp 33) _ rfl w.heap.size 5 j0 (.int .u8 0) 1 1 Try.underlying27 hj0 hy0 hy1 hy2 rfl (by omega) (.slice none 0 0) 0 [] rfl (World.ownsRow_nil _ _ _ _) (.slice A 64 cv) 64 (bs.map bv) rfl (View.drew hv.out) (bv_one bs) (by omega) (by simp only [maxLen]; omega) (Nat.le_refl _) ?_
    intro v1 w1 hown1 hg1 _
    rw [Nat.zero_add, List.nil_append] at hown1
    obtain ⟨g2, c2, rfl, _, _, _⟩ := own_some hown1 (by decide)
    have x1 := Lib.hid (hbox.out.drew.grown hg1 (fun e => by cases e))
    have hb1 : Below w.heap.size w w1 := (Below.refl w.heap.size w).grown (w' := w1) ⟨hg1.os, hg1.tape, hg1.output, hg1.size, hg1.block⟩ (Nat.le_refl _) (by intro k hk; cases hk)
    refine hK.out _ _ (x1.out.cell 1) (fun hHeld1 => ?_)
    clear hK K hHeld
    have hHeld := hHeld1
    clear hHeld1
    try simp only [Act.put, List.setIfInBounds_toArray, List.set_cons_zero, List.set_cons_succ]
    refine tl_p (i := 8) (v := ?_) rfl (by rfl) (by kernel_rfl) (by kernel_rfl) (by kernel_rfl) (fun _ _ _ h => h) (by rfl) hHeld ?_ ?_
    rotate_left
    · intro w
      go_simp
      try (with_reducible rfl)
    try simp only [Act.put, List.setIfInBounds_toArray, List.set_cons_zero, List.set_cons_succ]
    refine tl_do (i := 9) rfl (by kernel_rfl) (by rfl) (fun K hK => ?_)
    go_simp
    refine hK.out _ _ ((x1.out.alloc _).cell 1) (fun hHeld1 => ?_)
    clear hK K hHeld
    have hHeld := hHeld1
    clear hHeld1
    try simp only [Act.put, List.setIfInBounds_toArray, List.set_cons_zero, List.set_cons_succ]
    refine tl_do (i := 10) rfl (by kernel_rfl) (by rfl) (fun K hK => ?_)
    refine wp_append_view _ (.tmp 31) (.tmp 36) _ rfl 0 82 i0 (.agg #[.int .i64 0, .slice none 0 0]) 2 32 Try.underlying42 hi0 hz0 hz1 hz2 rfl (by omega) (.slice Au U.length cu) U.length (hu'.flatMap wc) rfl ((own_below huns.out hb1).alloc _) (.slice (some ⟨w1.heap.size, 0, none⟩) 1 1) 1 [.int .i64 k, .slice (some ⟨g2, 0, none⟩) 64 c2] rfl (View.boxAt _ _ _ _ rfl rfl) (by intro u hu; simp only [List.mem_cons, List.not_mem_nil, or_false] at hu; rcases hu with rfl | rfl <;> rfl) (by omega) (by simp only [maxLen]; omega) (by omega) ?_
    intro v2 w2 hown2 hg2 hat2
    obtain ⟨A2, c5, rfl, _, _, _⟩ := own_shape hown2
    have x2 := Lib.hid ((x1.out.alloc _).grown hg2 hne.out)
    refine hK.out _ _ (x2.out.cell 1) (fun hHeld1 => ?_)
    clear hK K hHeld
    have hHeld := hHeld1
    clear hHeld1
    try simp only [Act.put, List.setIfInBounds_toArray, List.set_cons_zero, List.set_cons_succ]
    refine tl_p (i := 11) (v := ?_) rfl (by rfl) (by kernel_rfl) (by kernel_rfl) (by kernel_rfl) (fun _ _ _ h => h) (by rfl) hHeld ?_ ?_
    rotate_left
    · intro w
      go_simp
      try (with_reducible rfl)
    try simp only [Act.put, List.setIfInBounds_toArray, List.set_cons_zero, List.set_cons_succ]
    refine tl_p (i := 12) (v := ?_) rfl (by rfl) (by kernel_rfl) (by kernel_rfl) (by kernel_rfl) (fun _ _ _ h => h) (by rfl) hHeld ?_ ?_
    rotate_left
    · intro w
      go_simp
      try (with_reducible rfl)
    try simp only [Act.put, List.setIfInBounds_toArray, List.set_cons_zero, List.set_cons_succ]
    refine tl_late (by kernel_rfl) ?_
    refine any_do (i := 13) rfl (by kernel_rfl) (by rfl) (fun K hK => ?_)
    have d0 := x2.out.cell 1
    have e0 := x2.out.frozen 1
    go_simp
    refine hK.out _ _ ?_
    clear hK K
    try simp only [Act.put, List.setIfInBounds_toArray, List.set_cons_zero, List.set_cons_succ]
    refine wpAny_done (by kernel_rfl) ?_ _
    have st1 := (h.out.open.below hb1).below ((Below.refl w1.heap.size w1).alloc (Nat.le_refl _) (.cells #[.int .i64 k, .slice (some ⟨g2, 0, none⟩) 64 c2] 82))
    have dt1 : Dt (w1.alloc (.cells #[.int .i64 k, .slice (some ⟨g2, 0, none⟩) 64 c2] 82)) (op F w) (.slice (some ⟨g2, 0, none⟩) 64 c2) bs := ⟨g2, c2, by rw [q3], .inr (own_lt hown1 rfl).1, by unfold OB; rw [q3]; exact (own_mono hown1 (Nat.zero_le _)).alloc _⟩
    have st2 := st1.addUns (i := k) hg2 hown2 (fun b e => by
      rcases hat2 with e2 | e2
      · exact st1.fu b (by rw [← e2]; exact e)
      · rw [e2] at e
        injection e with e
        have e3 : w1.heap.size + 1 = b := by simpa using e
        have := hb1.size
        exact .inr (by omega)) dt1
    have acc2 : Upd F w (w2.setCell ⟨p, 1, none⟩ (.slice A2 (U.length + 1) c5)) := (((Upd.of_below hb1).alloc _).trans (T := op F w) (Upd.of_grown hg2 fun b e => st1.fu b e) (fun b hb t => by rcases t with t | t; exact t; exact absurd hb (by omega))).setCell (p := ⟨p, 1, none⟩) (.inr h.out.fp) _
    have hFp := h.out.fp
    clear hown1 hown2 hg1 hg2 hat2 x1 x2 hb1 st1 dt1 h hv hbox hne huns
    generalize w2.setCell ⟨p, 1, none⟩ (.slice A2 (U.length + 1) c5) = W2 at *
    have q6 : IntKind.i64.wrap ((count : Int) + 1) = (count : Int) + 1 := IntWalk.i64_in _ (by omega)
    have st3 := st2.setBox (D' := ⟨S, U ++ [(k, bs)], left, ends, count + 1⟩) 4 (.int .i64 ((count : Int) + 1)) rfl rfl rfl
    have acc3 := acc2.setCell (p := ⟨p, 4, none⟩) (.inr hFp) (.int .i64 ((count : Int) + 1))
    have d2 : W2.cell? ⟨p, 2, none⟩ = some (.int .i64 left) := st2.box.cell 2
    have f2 := st2.box.frozen 2
    have d3 : W2.cell? ⟨p, 3, none⟩ = some (.bool ends) := st2.box.cell 3
    have d4 : W2.cell? ⟨p, 4, none⟩ = some (.int .i64 count) := st2.box.cell 4
    have f4 := st2.box.frozen 4
    cases ends with
    | false =>
      replace st3 := Lib.hid (RPost.close st3 acc3)
      clear st2 acc2 acc3
      go_wp2_with fail
      go_ret
      exact ⟨rfl, st3.out⟩
    | true =>
      have hl0 : left ≠ 0 := by
        intro e
        subst e
        simp [Rk.broken] at hbr
      have q7 : IntKind.i64.wrap (left - 1) = left - 1 := IntWalk.i64_in _ (by omega)
      have st4 := st3.setBox (D' := ⟨S, U ++ [(k, bs)], left - 1, true, count + 1⟩) 2 (.int .i64 (left - 1)) rfl rfl rfl
      have acc4 := acc3.setCell (p := ⟨p, 2, none⟩) (.inr hFp) (.int .i64 (left - 1))
      replace st4 := Lib.hid (RPost.close st4 acc4)
      clear st2 acc2 st3 acc3 acc4 hbr
      go_wp2_with fail
      go_ret
      exact ⟨rfl, st4.out⟩
end Go.Proofs.Ytbfcaapompkjhaa
