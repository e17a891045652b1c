/-
  log.put, where the disk goes on, by its contract.
-/
import Derived.Test.YtbfcaapompkjhaaHd
import Derived.Test.YtbfcaapompkjhaaMk
set_option linter.unusedVariables false
set_option linter.unusedSimpArgs false
namespace Go.Proofs.Ytbfcaapompkjhaa
open Go.RowKit Go.Proofs.PosteMem
attribute [local go_sem ↓] Go.wp_at_zero Go.wp_at_succ

theorem headB_len (e n s : Int) : (headB e n s).length = 64 := by
  unfold headB
  rw [fillB_len]
  simp only [List.length_append, le_len, strL_len]
  rfl
theorem headB_byteL (e n s : Int) : byteL (headB e n s) := by
  unfold headB
  exact ((((byteL.le _ _).app (.str _)).app (.le _ _) |>.app (.le _ _)).app (.le _ _)).fill
theorem sync_free' {D : Dk} (h : Free D) : D.sync.2 = true ∧ Free D.sync.1 ∧ D.sync.1.now.length = D.now.length := by
  have h1 : D.sync = (⟨D.now, D.now, [], D.left, D.broken, D.written⟩, true) := by
    unfold Dk.sync
    rw [if_neg (by rw [h.broken]; decide)]
  have h2 := sync_ok h.ok
  rw [h1] at h2 ⊢
  exact ⟨rfl, ⟨h2, h.broken, h.left⟩, rfl⟩
def zeroD (D1 : Dk) (g : Lg) (b : List Int) : Dk := if g.nx + 1 + needI b.length < g.en then (D1.write (g.nx + 1 + needI b.length) z64).1 else D1
/-- A disk behind a record that was put. -/
def lputD (D : Dk) (g : Lg) (b : List Int) : Dk := ((zeroD (D.put (g.nx + 1) b).1 g b).sync.1.write g.nx (headB g.ep (g.recs.length + 1) b.length)).1.sync.1
theorem sync_few' (D : Dk) : D.sync.1.written = D.written ∧ D.sync.1.uns.length ≤ D.uns.length := by
  unfold Dk.sync; split <;> simp

set_option maxRecDepth 100000 in
set_option maxHeartbeats 8000000 in
theorem lput_free {w W : World} {p q : Nat} {D : Dk} {g : Lg} {K : Nat → Prop} (h : Lo w W p q D g K) (hF : Free D) (hs : Small g) {v : Value} {b : List Int} (hv : VB W v b) (hbl : b.length ≤ 1000000) (hw : D.written ≤ 1000000) (hu : D.uns.length ≤ 10000) (hfit : fitsB g.en g.nx b.length = true) (hen : g.en ≤ D.now.length) :
    Calls Try.prog 68 #[.pointer (some ⟨q, 0, none⟩), v] W fun e w' => e = .returned (.bool true) ∧ Lo w w' p q (lputD D g b) g K ∧ Keeps K W w' ∧ Free (lputD D g b) := by
  obtain ⟨j0, hj0, hy0, hy1, hy2⟩ := info_parts infoByte
  have hm := hF.ok.max
  obtain ⟨f1, f2⟩ := fitsB_iff.1 hfit
  have hnn := needI_nn (n := (b.length : Int))
  have hni := needI_nat b.length
  have hput := free_put hF (at' := g.nx + 1) (b := b) (by have := hs.nx0; omega) (by omega)
  obtain ⟨g1, g2, _⟩ := put_few hF.ok (g.nx + 1) b
  unfold lputD
  obtain ⟨s1, s2, s3, s4, s5⟩ := hs
  obtain ⟨at', en, nx, ep', recs, fl⟩ := g
  simp only at s1 s2 s3 s4 s5 f1 f2 hput g1 g2 hfit hen ⊢
  obtain ⟨v0, hs, M, hL⟩ := h
  obtain ⟨Av, cv, rfl, _, _, _⟩ := own_shape hL.row
  obtain ⟨A, cap, rfl, _, _⟩ := hv.cells
  have c0 : W.cell? ⟨q, 0, none⟩ = some (.pointer (some ⟨p, 0, none⟩)) := hL.box.cell 0
  have c3 : W.cell? ⟨q, 3, none⟩ = some (.int .i64 nx) := hL.box.cell 3
  have hql := hL.box.lt
  have kN := Lib.hid (fun W' => need_any W' b.length (by omega))
  have ew1 : IntKind.i64.wrap (nx + 1) = nx + 1 := by rw [IntKind.wrap_i64]; omega
  have ew2 : IntKind.i64.wrap (nx + 1 + needI b.length) = nx + 1 + needI b.length := by rw [IntKind.wrap_i64]; omega
  have ew3 : IntKind.i64.wrap ((recs.length : Int) + 1) = (recs.length : Int) + 1 := by rw [IntKind.wrap_i64]; omega
  have hLd := hL.below (W' := W.drew.drew) (Below.drew (Below.drew (Below.refl W.heap.size W)))
  have kPut := Lib.hid (hd_put hLd.hd hF.ok (nx + 1) (View.drew (View.drew hv)) hbl (by omega) (by omega))
  generalize D.put (nx + 1) b = DP at *
  obtain ⟨D1, o1⟩ := DP
  simp only at hput g1 g2
  obtain ⟨rfl, hF1, hl1⟩ := hput
  have hput : (true = true) ∧ Free D1 ∧ D1.now.length = D.now.length := ⟨rfl, hF1, hl1⟩
  replace hLd := Lib.hid hLd
  clear hL hv
  have hzd : ∃ D2, zeroD D1 ⟨at', en, nx, ep', recs, fl⟩ b = D2 := ⟨_, rfl⟩
  obtain ⟨D2, hzd⟩ := hzd
  have hz1 : ¬ nx + 1 + needI b.length < en → D2 = D1 := fun hh => by rw [← hzd]; unfold zeroD; rw [if_neg hh]
  have hz2 : nx + 1 + needI b.length < en → D2 = (D1.write (nx + 1 + needI b.length) z64).1 ∧ (D1.write (nx + 1 + needI b.length) z64).2 = true ∧ Free (D1.write (nx + 1 + needI b.length) z64).1 := fun hh => by
    obtain ⟨u1, u2⟩ := free_write hF1 (i := nx + 1 + needI b.length) (bs := z64) (by omega) (by omega) z64_len
    refine ⟨?_, u1, u2⟩
    rw [← hzd]; unfold zeroD; rw [if_pos hh]
  have hD2 : Free D2 ∧ D2.now.length = D.now.length ∧ D2.written ≤ 2000000 ∧ D2.uns.length ≤ 20000 := by
    by_cases hh : nx + 1 + needI b.length < en
    · obtain ⟨u1, u2, u3⟩ := hz2 hh
      have u4 := write_few D1 (nx + 1 + needI b.length) z64
      rw [u1]
      exact ⟨u3, by rw [write_len]; exact hl1, by omega, by omega⟩
    · rw [hz1 hh]
      exact ⟨hF1, hl1, by omega, by omega⟩
  rw [hzd]
  obtain ⟨t1, t2, t3, t4⟩ := hD2
  have hsy := sync_free' t1
  have t5 := sync_few' D2
  generalize hDs : D2.sync = DS at *
  obtain ⟨D3, o3⟩ := DS
  simp only at hsy t5
  obtain ⟨rfl, hF3, hl3⟩ := hsy
  have hsy : (true = true) ∧ Free D3 := ⟨rfl, hF3⟩
  have hwh := free_write hF3 (i := nx) (bs := headB ep' (recs.length + 1) b.length) s3 (by omega) (headB_len _ _ _)
  simp only
  generalize hDw : D3.write nx (headB ep' (recs.length + 1) b.length) = DW at *
  obtain ⟨D4, o4⟩ := DW
  simp only at hwh
  obtain ⟨rfl, hF4⟩ := hwh
  have hwh : (true = true) ∧ Free D4 := ⟨rfl, hF4⟩
  have hs2 := sync_free' hF4
  simp only
  generalize hDt : D4.sync = DT at *
  obtain ⟨D5, o5⟩ := DT
  simp only at hs2
  obtain ⟨rfl, hF5, _⟩ := hs2
  have hs2 : (true = true) := rfl
  simp only at kPut
  have kS1 := Lib.hid (fun W' C' (hd : Hd w W' p D2 C') => (by have := hd_sync hd t1.ok; rw [hDs] at this; exact this : Calls Try.prog 19 #[.pointer (some ⟨p, 0, none⟩)] W' fun e w' => e = .returned (.bool true) ∧ Hd w w' p D3 C' ∧ Keeps C' W' w'))
  have kWh := Lib.hid (fun W' C' v' (hd : Hd w W' p D3 C') (hv' : VB W' v' (headB ep' (recs.length + 1) b.length)) (hC : ∀ x, blockOf v' = some x → C' x) => (by have := hd_write hd hF3.ok nx hv' hC (by omega) (by omega); rw [hDw] at this; exact this : Calls Try.prog 17 #[.pointer (some ⟨p, 0, none⟩), .int .i64 nx, v'] W' fun e w' => e = .returned (.bool true) ∧ Hd w w' p D4 C' ∧ Keeps C' W' w'))
  have kS2 := Lib.hid (fun W' C' (hd : Hd w W' p D4 C') => (by have := hd_sync hd hF4.ok; rw [hDt] at this; exact this : Calls Try.prog 19 #[.pointer (some ⟨p, 0, none⟩)] W' fun e w' => e = .returned (.bool true) ∧ Hd w w' p D5 C' ∧ Keeps C' W' w'))
  replace hF5 := Lib.hid hF5
  clear hDs hDw hDt hsy hwh hs2 hput hzd t1 hF3 hF4 hl3
  have hnd : need b.length ≤ 10000 := by omega
  replace hni := Lib.hid hni
  by_cases hh : nx + 1 + needI b.length < en
  · obtain ⟨u1, u2, u3⟩ := hz2 hh
    have kWz := Lib.hid (fun W' C' v' (hd : Hd w W' p D1 C') (hv' : VB W' v' z64) (hC : ∀ x, blockOf v' = some x → C' x) => (by have := hd_write hd hF1.ok (nx + 1 + needI b.length) hv' hC (by omega) (by omega); rw [u2, ← u1] at this; exact this : Calls Try.prog 17 #[.pointer (some ⟨p, 0, none⟩), .int .i64 (nx + 1 + needI b.length), v'] W' fun e w' => e = .returned (.bool true) ∧ Hd w w' p D2 C' ∧ Keeps C' W' w'))
    clear hz1 hz2 u1 u2 u3
    go_enter Try.func68, Try.ntmps68
    go_upto_region 1 with fail
    refine tl_begin (fun (w' : World) => (w'.cell? ⟨q, 3, none⟩ = some (.int .i64 nx))) [] (by kernel_rfl) (c3) (fun hHeld => ?_)
    refine tl_p (i := 0) (v := ?_) rfl (by rfl) (by kernel_rfl) (by kernel_rfl) (by kernel_rfl) (fun _ _ _ h => h) (by rfl) hHeld ?_ ?_
    rotate_left
    · intro w
      go_simp
      try (with_reducible rfl)
    try simp only [Act.put, List.setIfInBounds_toArray, List.set_cons_zero, List.set_cons_succ]
    refine tl_p (i := 1) (v := ?_) rfl (by rfl) (by kernel_rfl) (by kernel_rfl) (by kernel_rfl) (fun _ _ _ h => h) (by rfl) hHeld ?_ ?_
    rotate_left
    · intro w
      go_simp
      try (with_reducible rfl)
    try simp only [Act.put, List.setIfInBounds_toArray, List.set_cons_zero, List.set_cons_succ]
    refine tl_p (i := 2) (v := ?_) rfl (by rfl) (by kernel_rfl) (by kernel_rfl) (by kernel_rfl) (fun _ _ _ h => h) (by rfl) hHeld ?_ ?_
    rotate_left
    · intro w
      go_simp
      try (with_reducible rfl)
    try simp only [Act.put, List.setIfInBounds_toArray, List.set_cons_zero, List.set_cons_succ]
    refine tl_w (i := 3) (v := ?_) rfl (by rfl) (by kernel_rfl) (by kernel_rfl) (by kernel_rfl) (by kernel_rfl) (by kernel_rfl) (fun _ _ _ h => h) (by rfl) hHeld ?_ ?_
    rotate_left
    · intro w hSw
      try dsimp only at hSw
      go_simp
      try (with_reducible rfl)
    try simp only [Act.put, List.setIfInBounds_toArray, List.set_cons_zero, List.set_cons_succ]
    refine tl_p (i := 4) (v := ?_) rfl (by rfl) (by kernel_rfl) (by kernel_rfl) (by kernel_rfl) (fun _ _ _ h => h) (by rfl) hHeld ?_ ?_
    rotate_left
    · intro w
      go_simp
      try (with_reducible rfl)
    try simp only [Act.put, List.setIfInBounds_toArray, List.set_cons_zero, List.set_cons_succ]
    refine tl_p (i := 5) (v := ?_) rfl (by rfl) (by kernel_rfl) (by kernel_rfl) (by kernel_rfl) (fun _ _ _ h => h) (by rfl) hHeld ?_ ?_
    rotate_left
    · intro w
      go_simp
      try (with_reducible rfl)
    try simp only [Act.put, List.setIfInBounds_toArray, List.set_cons_zero, List.set_cons_succ]
    refine tl_p (i := 6) (v := ?_) rfl (by rfl) (by kernel_rfl) (by kernel_rfl) (by kernel_rfl) (fun _ _ _ h => h) (by rfl) hHeld ?_ ?_
    rotate_left
    · intro w
      go_simp
      try (with_reducible rfl)
    try simp only [Act.put, List.setIfInBounds_toArray, List.set_cons_zero, List.set_cons_succ]
    refine tl_do (i := 7) rfl (by kernel_rfl) (by rfl) (fun K hK => ?_)
    go_simp
    go_at_call 36
    refine (kN.out _).mono ?_; rintro e w1 ⟨rfl, hw1⟩
    have hw2 := hw1.symm
    subst hw2
    clear hw1
    try go_wp2_with fail
    refine hK.out _ _ (hHeld) (fun hHeld1 => ?_)
    clear hK K hHeld
    have hHeld := hHeld1
    clear hHeld1
    try simp only [Act.put, List.setIfInBounds_toArray, List.set_cons_zero, List.set_cons_succ]
    refine tl_p (i := 8) (v := ?_) rfl (by rfl) (by kernel_rfl) (by kernel_rfl) (by kernel_rfl) (fun _ _ _ h => h) (by rfl) hHeld ?_ ?_
    rotate_left
    · intro w
      go_simp
      try (with_reducible rfl)
    try simp only [Act.put, List.setIfInBounds_toArray, List.set_cons_zero, List.set_cons_succ]
    refine tl_p (i := 9) (v := ?_) rfl (by rfl) (by kernel_rfl) (by kernel_rfl) (by kernel_rfl) (fun _ _ _ h => h) (by rfl) hHeld ?_ ?_
    rotate_left
    · intro w
      go_simp
      try (with_reducible rfl)
    try simp only [Act.put, List.setIfInBounds_toArray, List.set_cons_zero, List.set_cons_succ]
    refine till_done (by kernel_rfl) ?_ _
    clear hHeld
    go_upto_region 2 with fail
    refine tl_begin (fun (w' : World) => (w'.cell? ⟨q, 0, none⟩ = some (.pointer (some ⟨p, 0, none⟩)) ∧ w'.cell? ⟨q, 3, none⟩ = some (.int .i64 nx))) [] (by kernel_rfl) (⟨c0, c3⟩) (fun hHeld => ?_)
    refine tl_p (i := 0) (v := ?_) rfl (by rfl) (by kernel_rfl) (by kernel_rfl) (by kernel_rfl) (fun _ _ _ h => h) (by rfl) hHeld ?_ ?_
    rotate_left
    · intro w
      go_simp
      try (with_reducible rfl)
    try simp only [Act.put, List.setIfInBounds_toArray, List.set_cons_zero, List.set_cons_succ]
    refine tl_p (i := 1) (v := ?_) rfl (by rfl) (by kernel_rfl) (by kernel_rfl) (by kernel_rfl) (fun _ _ _ h => h) (by rfl) hHeld ?_ ?_
    rotate_left
    · intro w
      go_simp
      try (with_reducible rfl)
    try simp only [Act.put, List.setIfInBounds_toArray, List.set_cons_zero, List.set_cons_succ]
    refine tl_p (i := 2) (v := ?_) rfl (by rfl) (by kernel_rfl) (by kernel_rfl) (by kernel_rfl) (fun _ _ _ h => h) (by rfl) hHeld ?_ ?_
    rotate_left
    · intro w
      go_simp
      try (with_reducible rfl)
    try simp only [Act.put, List.setIfInBounds_toArray, List.set_cons_zero, List.set_cons_succ]
    refine tl_w (i := 3) (v := ?_) rfl (by rfl) (by kernel_rfl) (by kernel_rfl) (by kernel_rfl) (by kernel_rfl) (by kernel_rfl) (fun _ _ _ h => h) (by rfl) hHeld ?_ ?_
    rotate_left
    · intro w hSw
      try dsimp only at hSw
      go_simp
      try (with_reducible rfl)
    try simp only [Act.put, List.setIfInBounds_toArray, List.set_cons_zero, List.set_cons_succ]
    refine tl_p (i := 4) (v := ?_) rfl (by rfl) (by kernel_rfl) (by kernel_rfl) (by kernel_rfl) (fun _ _ _ h => h) (by rfl) hHeld ?_ ?_
    rotate_left
    · intro w
      go_simp
      try (with_reducible rfl)
    try simp only [Act.put, List.setIfInBounds_toArray, List.set_cons_zero, List.set_cons_succ]
    refine tl_p (i := 5) (v := ?_) rfl (by rfl) (by kernel_rfl) (by kernel_rfl) (by kernel_rfl) (fun _ _ _ h => h) (by rfl) hHeld ?_ ?_
    rotate_left
    · intro w
      go_simp
      try (with_reducible rfl)
    try simp only [Act.put, List.setIfInBounds_toArray, List.set_cons_zero, List.set_cons_succ]
    refine tl_p (i := 6) (v := ?_) rfl (by rfl) (by kernel_rfl) (by kernel_rfl) (by kernel_rfl) (fun _ _ _ h => h) (by rfl) hHeld ?_ ?_
    rotate_left
    · intro w
      go_simp
      try (with_reducible rfl)
    try simp only [Act.put, List.setIfInBounds_toArray, List.set_cons_zero, List.set_cons_succ]
    refine tl_w (i := 7) (v := ?_) rfl (by rfl) (by kernel_rfl) (by kernel_rfl) (by kernel_rfl) (by kernel_rfl) (by kernel_rfl) (fun _ _ _ h => h) (by rfl) hHeld ?_ ?_
    rotate_left
    · intro w hSw
      try dsimp only at hSw
      go_simp
      try (with_reducible rfl)
    try simp only [Act.put, List.setIfInBounds_toArray, List.set_cons_zero, List.set_cons_succ]
    refine tl_p (i := 8) (v := ?_) rfl (by rfl) (by kernel_rfl) (by kernel_rfl) (by kernel_rfl) (fun _ _ _ h => h) (by rfl) hHeld ?_ ?_
    rotate_left
    · intro w
      go_simp
      try (with_reducible rfl)
    try simp only [Act.put, List.setIfInBounds_toArray, List.set_cons_zero, List.set_cons_succ]
    refine tl_p (i := 9) (v := ?_) rfl (by rfl) (by kernel_rfl) (by kernel_rfl) (by kernel_rfl) (fun _ _ _ h => h) (by rfl) hHeld ?_ ?_
    rotate_left
    · intro w
      go_simp
      try (with_reducible rfl)
    try simp only [Act.put, List.setIfInBounds_toArray, List.set_cons_zero, List.set_cons_succ]
    refine tl_do (i := 10) rfl (by kernel_rfl) (by rfl) (fun K hK => ?_)
    go_simp
    go_at_call 34
    refine kPut.out.mono ?_; rintro e w2 ⟨rfl, hd2, kp2⟩
    have hL2 := hLd.out.disk hd2 kp2
    have b0 : w2.cell? ⟨q, 0, none⟩ = some (.pointer (some ⟨p, 0, none⟩)) := hL2.box.cell 0
    have b2 : w2.cell? ⟨q, 2, none⟩ = some (.int .i64 en) := hL2.box.cell 2
    have b3 : w2.cell? ⟨q, 3, none⟩ = some (.int .i64 nx) := hL2.box.cell 3
    have hkp2 := Lib.hid ((Keeps.of_below (Below.drew (Below.drew (Below.refl W.heap.size W)))).trans (keeps_left kp2))
    replace hL2 := Lib.hid hL2
    clear kp2 hd2
    try go_wp2_with fail
    refine hK.out _ _ (⟨b0, b3⟩) (fun hHeld1 => ?_)
    clear hK K hHeld
    have hHeld := hHeld1
    clear hHeld1
    try simp only [Act.put, List.setIfInBounds_toArray, List.set_cons_zero, List.set_cons_succ]
    refine tl_p (i := 11) (v := ?_) rfl (by rfl) (by kernel_rfl) (by kernel_rfl) (by kernel_rfl) (fun _ _ _ h => h) (by rfl) hHeld ?_ ?_
    rotate_left
    · intro w
      go_simp
      try (with_reducible rfl)
    try simp only [Act.put, List.setIfInBounds_toArray, List.set_cons_zero, List.set_cons_succ]
    refine till_done (by kernel_rfl) ?_ _
    clear hHeld
    go_upto_region 4 with fail
    refine tl_begin (fun (w' : World) => (w'.cell? ⟨q, 0, none⟩ = some (.pointer (some ⟨p, 0, none⟩)) ∧ w'.cell? ⟨q, 2, none⟩ = some (.int .i64 en))) [] (by kernel_rfl) (⟨b0, b2⟩) (fun hHeld => ?_)
    refine tl_p (i := 0) (v := ?_) rfl (by rfl) (by kernel_rfl) (by kernel_rfl) (by kernel_rfl) (fun _ _ _ h => h) (by rfl) hHeld ?_ ?_
    rotate_left
    · intro w
      go_simp
      try (with_reducible rfl)
    try simp only [Act.put, List.setIfInBounds_toArray, List.set_cons_zero, List.set_cons_succ]
    refine tl_p (i := 1) (v := ?_) rfl (by rfl) (by kernel_rfl) (by kernel_rfl) (by kernel_rfl) (fun _ _ _ h => h) (by rfl) hHeld ?_ ?_
    rotate_left
    · intro w
      go_simp
      try (with_reducible rfl)
    try simp only [Act.put, List.setIfInBounds_toArray, List.set_cons_zero, List.set_cons_succ]
    refine tl_p (i := 2) (v := ?_) rfl (by rfl) (by kernel_rfl) (by kernel_rfl) (by kernel_rfl) (fun _ _ _ h => h) (by rfl) hHeld ?_ ?_
    rotate_left
    · intro w
      go_simp
      try (with_reducible rfl)
    try simp only [Act.put, List.setIfInBounds_toArray, List.set_cons_zero, List.set_cons_succ]
    refine tl_p (i := 3) (v := ?_) rfl (by rfl) (by kernel_rfl) (by kernel_rfl) (by kernel_rfl) (fun _ _ _ h => h) (by rfl) hHeld ?_ ?_
    rotate_left
    · intro w
      go_simp
      try (with_reducible rfl)
    try simp only [Act.put, List.setIfInBounds_toArray, List.set_cons_zero, List.set_cons_succ]
    refine tl_w (i := 4) (v := ?_) rfl (by rfl) (by kernel_rfl) (by kernel_rfl) (by kernel_rfl) (by kernel_rfl) (by kernel_rfl) (fun _ _ _ h => h) (by rfl) hHeld ?_ ?_
    rotate_left
    · intro w hSw
      try dsimp only at hSw
      go_simp
      try (with_reducible rfl)
    try simp only [Act.put, List.setIfInBounds_toArray, List.set_cons_zero, List.set_cons_succ]
    refine tl_p (i := 5) (v := ?_) rfl (by rfl) (by kernel_rfl) (by kernel_rfl) (by kernel_rfl) (fun _ _ _ h => h) (by rfl) hHeld ?_ ?_
    rotate_left
    · intro w
      go_simp
      try (with_reducible rfl)
    try simp only [Act.put, List.setIfInBounds_toArray, List.set_cons_zero, List.set_cons_succ]
    refine tl_p (i := 6) (v := ?_) rfl (by rfl) (by kernel_rfl) (by kernel_rfl) (by kernel_rfl) (fun _ _ _ h => h) (by rfl) hHeld ?_ ?_
    rotate_left
    · intro w
      go_simp
      try (with_reducible rfl)
    try simp only [Act.put, List.setIfInBounds_toArray, List.set_cons_zero, List.set_cons_succ]
    refine tl_p (i := 7) (v := ?_) rfl (by rfl) (by kernel_rfl) (by kernel_rfl) (by kernel_rfl) (fun _ _ _ h => h) (by rfl) hHeld ?_ ?_
    rotate_left
    · intro w
      go_simp
      try (with_reducible rfl)
    try simp only [Act.put, List.setIfInBounds_toArray, List.set_cons_zero, List.set_cons_succ]
    refine tl_p (i := 8) (v := ?_) rfl (by rfl) (by kernel_rfl) (by kernel_rfl) (by kernel_rfl) (fun _ _ _ h => h) (by rfl) hHeld ?_ ?_
    rotate_left
    · intro w
      go_simp
      try (with_reducible rfl)
    try simp only [Act.put, List.setIfInBounds_toArray, List.set_cons_zero, List.set_cons_succ]
    refine tl_p (i := 9) (v := ?_) rfl (by rfl) (by kernel_rfl) (by kernel_rfl) (by kernel_rfl) (fun _ _ _ h => h) (by rfl) hHeld ?_ ?_
    rotate_left
    · intro w
      go_simp
      try (with_reducible rfl)
    try simp only [Act.put, List.setIfInBounds_toArray, List.set_cons_zero, List.set_cons_succ]
    refine tl_w (i := 10) (v := ?_) rfl (by rfl) (by kernel_rfl) (by kernel_rfl) (by kernel_rfl) (by kernel_rfl) (by kernel_rfl) (fun _ _ _ h => h) (by rfl) hHeld ?_ ?_
    rotate_left
    · intro w hSw
      try dsimp only at hSw
      go_simp
      try (with_reducible rfl)
    try simp only [Act.put, List.setIfInBounds_toArray, List.set_cons_zero, List.set_cons_succ]
    refine tl_p (i := 11) (v := ?_) rfl (by rfl) (by kernel_rfl) (by kernel_rfl) (by kernel_rfl) (fun _ _ _ h => h) (by rfl) hHeld ?_ ?_
    rotate_left
    · intro w
      go_simp
      try (with_reducible rfl)
    try simp only [Act.put, List.setIfInBounds_toArray, List.set_cons_zero, List.set_cons_succ]
    refine tl_do (i := 12) rfl (by kernel_rfl) (by rfl) (fun K hK => ?_)
    refine wp_make_full _ _ _ 27 rfl 0 5 j0 (.int .u8 0) 1 Try.underlying27 hj0 hy0 hy1 .i64 .i64 _ _ 64 rfl rfl rfl rfl (by rw [hy2]; omega) (by unfold maxLen; omega) (Nat.zero_le _) ?_
    intro w3 hown3 hg3
    rw [made_bytes] at hown3
    have hb3 : Below w2.heap.size w2 w3 := (Below.drew (Below.refl w2.heap.size w2)).grown hg3 (Nat.le_refl _) (fun j hj => by cases hj)
    have hL3 := hL2.out.grow hb3
    have d0 : w3.cell? ⟨q, 0, none⟩ = some (.pointer (some ⟨p, 0, none⟩)) := hL3.box.cell 0
    have d2 : w3.cell? ⟨q, 2, none⟩ = some (.int .i64 en) := hL3.box.cell 2
    have hvz : VB w3 (.slice (some ⟨w2.heap.size, 0, none⟩) 64 64) z64 := by
      have := View.of_own hown3
      unfold VB
      rw [z64_len, z64_bytes]
      exact this
    have hgl := (hown3.lt _ rfl).2
    have kWz3 := Lib.hid (kWz.out w3 _ _ hL3.hd hvz (fun x hx => by injection hx with hx; subst hx; exact .inr (.inr ⟨Nat.le_refl _, hgl⟩)))
    have hkp3 := Lib.hid (hkp2.out.trans (Keeps.of_below hb3))
    replace hL3 := Lib.hid hL3
    clear hown3 hg3 hvz hgl hb3
    refine hK.out _ _ (⟨d0, d2⟩) (fun hHeld1 => ?_)
    clear hK K hHeld
    have hHeld := hHeld1
    clear hHeld1
    try simp only [Act.put, List.setIfInBounds_toArray, List.set_cons_zero, List.set_cons_succ]
    refine tl_do (i := 13) rfl (by kernel_rfl) (by rfl) (fun K hK => ?_)
    go_simp
    go_at_call 17
    refine kWz3.out.mono ?_; rintro e w4 ⟨rfl, hd4, kp4⟩
    have hL4 := hL3.out.disk hd4 kp4
    have e0 : w4.cell? ⟨q, 0, none⟩ = some (.pointer (some ⟨p, 0, none⟩)) := hL4.box.cell 0
    have e2 : w4.cell? ⟨q, 2, none⟩ = some (.int .i64 en) := hL4.box.cell 2
    have hkp4 := Lib.hid (hkp3.out.trans (keeps_left kp4))
    replace hL4 := Lib.hid hL4
    clear hd4 kp4
    try go_wp2_with fail
    refine hK.out _ _ (⟨e0, e2⟩) (fun hHeld1 => ?_)
    clear hK K hHeld
    have hHeld := hHeld1
    clear hHeld1
    try simp only [Act.put, List.setIfInBounds_toArray, List.set_cons_zero, List.set_cons_succ]
    refine tl_p (i := 14) (v := ?_) rfl (by rfl) (by kernel_rfl) (by kernel_rfl) (by kernel_rfl) (fun _ _ _ h => h) (by rfl) hHeld ?_ ?_
    rotate_left
    · intro w
      go_simp
      try (with_reducible rfl)
    try simp only [Act.put, List.setIfInBounds_toArray, List.set_cons_zero, List.set_cons_succ]
    refine tl_p (i := 15) (v := ?_) rfl (by rfl) (by kernel_rfl) (by kernel_rfl) (by kernel_rfl) (fun _ _ _ h => h) (by rfl) hHeld ?_ ?_
    rotate_left
    · intro w
      go_simp
      try (with_reducible rfl)
    try simp only [Act.put, List.setIfInBounds_toArray, List.set_cons_zero, List.set_cons_succ]
    refine till_done (by kernel_rfl) ?_ _
    clear hHeld
    go_upto_region 6 with fail
    have hLs0 := hL4.out.below (W' := w4.drew) (Below.drew (Below.refl _ _))
    have r0 : w4.drew.cell? ⟨q, 0, none⟩ = some (.pointer (some ⟨p, 0, none⟩)) := hLs0.box.cell 0
    have r3 : w4.drew.cell? ⟨q, 3, none⟩ = some (.int .i64 nx) := hLs0.box.cell 3
    have r5 : w4.drew.cell? ⟨q, 5, none⟩ = some (.slice Av recs.length cv) := hLs0.box.cell 5
    have hkpS := Lib.hid (hkp4.out.trans (Keeps.of_below (Below.drew (Below.refl w4.heap.size w4))))
    have hLs := Lib.hid hLs0
    clear hLs0
    refine tl_begin (fun (w' : World) => (w'.cell? ⟨q, 0, none⟩ = some (.pointer (some ⟨p, 0, none⟩)) ∧ w'.cell? ⟨q, 3, none⟩ = some (.int .i64 nx) ∧ w'.cell? ⟨q, 5, none⟩ = some (.slice Av recs.length cv))) [] (by kernel_rfl) (⟨r0, r3, r5⟩) (fun hHeld => ?_)
    refine tl_p (i := 0) (v := ?_) rfl (by rfl) (by kernel_rfl) (by kernel_rfl) (by kernel_rfl) (fun _ _ _ h => h) (by rfl) hHeld ?_ ?_
    rotate_left
    · intro w
      go_simp
      try (with_reducible rfl)
    try simp only [Act.put, List.setIfInBounds_toArray, List.set_cons_zero, List.set_cons_succ]
    refine tl_p (i := 1) (v := ?_) rfl (by rfl) (by kernel_rfl) (by kernel_rfl) (by kernel_rfl) (fun _ _ _ h => h) (by rfl) hHeld ?_ ?_
    rotate_left
    · intro w
      go_simp
      try (with_reducible rfl)
    try simp only [Act.put, List.setIfInBounds_toArray, List.set_cons_zero, List.set_cons_succ]
    refine tl_p (i := 2) (v := ?_) rfl (by rfl) (by kernel_rfl) (by kernel_rfl) (by kernel_rfl) (fun _ _ _ h => h) (by rfl) hHeld ?_ ?_
    rotate_left
    · intro w
      go_simp
      try (with_reducible rfl)
    try simp only [Act.put, List.setIfInBounds_toArray, List.set_cons_zero, List.set_cons_succ]
    refine tl_w (i := 3) (v := ?_) rfl (by rfl) (by kernel_rfl) (by kernel_rfl) (by kernel_rfl) (by kernel_rfl) (by kernel_rfl) (fun _ _ _ h => h) (by rfl) hHeld ?_ ?_
    rotate_left
    · intro w hSw
      try dsimp only at hSw
      go_simp
      try (with_reducible rfl)
    try simp only [Act.put, List.setIfInBounds_toArray, List.set_cons_zero, List.set_cons_succ]
    refine tl_do (i := 4) rfl (by kernel_rfl) (by rfl) (fun K hK => ?_)
    go_simp
    go_at_call 19
    refine (kS1.out _ _ hLs.out.hd).mono ?_; rintro e w11 ⟨rfl, hd1, kp1⟩
    have hL11 := hLs.out.disk hd1 kp1
    have b0 : w11.cell? ⟨q, 0, none⟩ = some (.pointer (some ⟨p, 0, none⟩)) := hL11.box.cell 0
    have b3 : w11.cell? ⟨q, 3, none⟩ = some (.int .i64 nx) := hL11.box.cell 3
    have b4 : w11.cell? ⟨q, 4, none⟩ = some (.int .i64 ep') := hL11.box.cell 4
    have b5 : w11.cell? ⟨q, 5, none⟩ = some (.slice Av recs.length cv) := hL11.box.cell 5
    have kH := Lib.hid (headL_any w11 q ep' (recs.length + 1) b.length hL11.box.lt b4)
    have hkp11 := Lib.hid (hkpS.out.trans (keeps_left kp1))
    replace hL11 := Lib.hid hL11
    clear kp1 hd1
    try go_wp2_with fail
    refine hK.out _ _ (⟨b0, b3, b5⟩) (fun hHeld1 => ?_)
    clear hK K hHeld
    have hHeld := hHeld1
    clear hHeld1
    try simp only [Act.put, List.setIfInBounds_toArray, List.set_cons_zero, List.set_cons_succ]
    refine tl_p (i := 5) (v := ?_) rfl (by rfl) (by kernel_rfl) (by kernel_rfl) (by kernel_rfl) (fun _ _ _ h => h) (by rfl) hHeld ?_ ?_
    rotate_left
    · intro w
      go_simp
      try (with_reducible rfl)
    try simp only [Act.put, List.setIfInBounds_toArray, List.set_cons_zero, List.set_cons_succ]
    refine tl_p (i := 6) (v := ?_) rfl (by rfl) (by kernel_rfl) (by kernel_rfl) (by kernel_rfl) (fun _ _ _ h => h) (by rfl) hHeld ?_ ?_
    rotate_left
    · intro w
      go_simp
      try (with_reducible rfl)
    try simp only [Act.put, List.setIfInBounds_toArray, List.set_cons_zero, List.set_cons_succ]
    refine tl_p (i := 7) (v := ?_) rfl (by rfl) (by kernel_rfl) (by kernel_rfl) (by kernel_rfl) (fun _ _ _ h => h) (by rfl) hHeld ?_ ?_
    rotate_left
    · intro w
      go_simp
      try (with_reducible rfl)
    try simp only [Act.put, List.setIfInBounds_toArray, List.set_cons_zero, List.set_cons_succ]
    refine tl_p (i := 8) (v := ?_) rfl (by rfl) (by kernel_rfl) (by kernel_rfl) (by kernel_rfl) (fun _ _ _ h => h) (by rfl) hHeld ?_ ?_
    rotate_left
    · intro w
      go_simp
      try (with_reducible rfl)
    try simp only [Act.put, List.setIfInBounds_toArray, List.set_cons_zero, List.set_cons_succ]
    refine tl_w (i := 9) (v := ?_) rfl (by rfl) (by kernel_rfl) (by kernel_rfl) (by kernel_rfl) (by kernel_rfl) (by kernel_rfl) (fun _ _ _ h => h) (by rfl) hHeld ?_ ?_
    rotate_left
    · intro w hSw
      try dsimp only at hSw
      go_simp
      try (with_reducible rfl)
    try simp only [Act.put, List.setIfInBounds_toArray, List.set_cons_zero, List.set_cons_succ]
    refine tl_p (i := 10) (v := ?_) rfl (by rfl) (by kernel_rfl) (by kernel_rfl) (by kernel_rfl) (fun _ _ _ h => h) (by rfl) hHeld ?_ ?_
    rotate_left
    · intro w
      go_simp
      try (with_reducible rfl)
    try simp only [Act.put, List.setIfInBounds_toArray, List.set_cons_zero, List.set_cons_succ]
    refine tl_p (i := 11) (v := ?_) rfl (by rfl) (by kernel_rfl) (by kernel_rfl) (by kernel_rfl) (fun _ _ _ h => h) (by rfl) hHeld ?_ ?_
    rotate_left
    · intro w
      go_simp
      try (with_reducible rfl)
    try simp only [Act.put, List.setIfInBounds_toArray, List.set_cons_zero, List.set_cons_succ]
    refine tl_p (i := 12) (v := ?_) rfl (by rfl) (by kernel_rfl) (by kernel_rfl) (by kernel_rfl) (fun _ _ _ h => h) (by rfl) hHeld ?_ ?_
    rotate_left
    · intro w
      go_simp
      try (with_reducible rfl)
    try simp only [Act.put, List.setIfInBounds_toArray, List.set_cons_zero, List.set_cons_succ]
    refine tl_w (i := 13) (v := ?_) rfl (by rfl) (by kernel_rfl) (by kernel_rfl) (by kernel_rfl) (by kernel_rfl) (by kernel_rfl) (fun _ _ _ h => h) (by rfl) hHeld ?_ ?_
    rotate_left
    · intro w hSw
      try dsimp only at hSw
      go_simp
      try (with_reducible rfl)
    try simp only [Act.put, List.setIfInBounds_toArray, List.set_cons_zero, List.set_cons_succ]
    refine tl_p (i := 14) (v := ?_) rfl (by rfl) (by kernel_rfl) (by kernel_rfl) (by kernel_rfl) (fun _ _ _ h => h) (by rfl) hHeld ?_ ?_
    rotate_left
    · intro w
      go_simp
      try (with_reducible rfl)
    try simp only [Act.put, List.setIfInBounds_toArray, List.set_cons_zero, List.set_cons_succ]
    refine tl_p (i := 15) (v := ?_) rfl (by rfl) (by kernel_rfl) (by kernel_rfl) (by kernel_rfl) (fun _ _ _ h => h) (by rfl) hHeld ?_ ?_
    rotate_left
    · intro w
      go_simp
      try (with_reducible rfl)
    try simp only [Act.put, List.setIfInBounds_toArray, List.set_cons_zero, List.set_cons_succ]
    refine tl_p (i := 16) (v := ?_) rfl (by rfl) (by kernel_rfl) (by kernel_rfl) (by kernel_rfl) (fun _ _ _ h => h) (by rfl) hHeld ?_ ?_
    rotate_left
    · intro w
      go_simp
      try (with_reducible rfl)
    try simp only [Act.put, List.setIfInBounds_toArray, List.set_cons_zero, List.set_cons_succ]
    refine tl_p (i := 17) (v := ?_) rfl (by rfl) (by kernel_rfl) (by kernel_rfl) (by kernel_rfl) (fun _ _ _ h => h) (by rfl) hHeld ?_ ?_
    rotate_left
    · intro w
      go_simp
      try (with_reducible rfl)
    try simp only [Act.put, List.setIfInBounds_toArray, List.set_cons_zero, List.set_cons_succ]
    refine tl_w (i := 18) (v := ?_) rfl (by rfl) (by kernel_rfl) (by kernel_rfl) (by kernel_rfl) (by kernel_rfl) (by kernel_rfl) (fun _ _ _ h => h) (by rfl) hHeld ?_ ?_
    rotate_left
    · intro w hSw
      try dsimp only at hSw
      go_simp
      try (with_reducible rfl)
    try simp only [Act.put, List.setIfInBounds_toArray, List.set_cons_zero, List.set_cons_succ]
    refine tl_p (i := 19) (v := ?_) rfl (by rfl) (by kernel_rfl) (by kernel_rfl) (by kernel_rfl) (fun _ _ _ h => h) (by rfl) hHeld ?_ ?_
    rotate_left
    · intro w
      go_simp
      try (with_reducible rfl)
    try simp only [Act.put, List.setIfInBounds_toArray, List.set_cons_zero, List.set_cons_succ]
    refine tl_p (i := 20) (v := ?_) rfl (by rfl) (by kernel_rfl) (by kernel_rfl) (by kernel_rfl) (fun _ _ _ h => h) (by rfl) hHeld ?_ ?_
    rotate_left
    · intro w
      go_simp
      try (with_reducible rfl)
    try simp only [Act.put, List.setIfInBounds_toArray, List.set_cons_zero, List.set_cons_succ]
    refine tl_p (i := 21) (v := ?_) rfl (by rfl) (by kernel_rfl) (by kernel_rfl) (by kernel_rfl) (fun _ _ _ h => h) (by rfl) hHeld ?_ ?_
    rotate_left
    · intro w
      go_simp
      try (with_reducible rfl)
    try simp only [Act.put, List.setIfInBounds_toArray, List.set_cons_zero, List.set_cons_succ]
    refine tl_p (i := 22) (v := ?_) rfl (by rfl) (by kernel_rfl) (by kernel_rfl) (by kernel_rfl) (fun _ _ _ h => h) (by rfl) hHeld ?_ ?_
    rotate_left
    · intro w
      go_simp
      try (with_reducible rfl)
    try simp only [Act.put, List.setIfInBounds_toArray, List.set_cons_zero, List.set_cons_succ]
    refine tl_do (i := 23) rfl (by kernel_rfl) (by rfl) (fun K hK => ?_)
    go_simp
    go_at_call 76
    refine kH.out.mono ?_; rintro e w12 ⟨v2, rfl, ho2, hb2⟩
    have hL12 := hL11.out.grow hb2
    have d0 : w12.cell? ⟨q, 0, none⟩ = some (.pointer (some ⟨p, 0, none⟩)) := hL12.box.cell 0
    have d3 : w12.cell? ⟨q, 3, none⟩ = some (.int .i64 nx) := hL12.box.cell 3
    have d5 : w12.cell? ⟨q, 5, none⟩ = some (.slice Av recs.length cv) := hL12.box.cell 5
    have hC2 := fun x (hx : blockOf v2 = some x) => own_lt ho2 ((block_own v2).symm.trans hx)
    have kWh2 := Lib.hid (kWh.out w12 _ v2 hL12.hd ho2.view (fun x hx => .inr (.inr (hC2 x hx))))
    have hkp12 := Lib.hid (hkp11.out.trans (Keeps.of_below hb2))
    obtain ⟨A2, c2', rfl, _, _, _⟩ := own_shape ho2
    replace hL12 := Lib.hid hL12
    clear ho2 hC2 hb2
    try go_wp2_with fail
    refine hK.out _ _ (⟨d0, d3, d5⟩) (fun hHeld1 => ?_)
    clear hK K hHeld
    have hHeld := hHeld1
    clear hHeld1
    try simp only [Act.put, List.setIfInBounds_toArray, List.set_cons_zero, List.set_cons_succ]
    refine tl_do (i := 24) rfl (by kernel_rfl) (by rfl) (fun K hK => ?_)
    go_simp
    go_at_call 17
    refine kWh2.out.mono ?_; rintro e w13 ⟨rfl, hd3, kp3⟩
    have hL13 := hL12.out.disk hd3 kp3
    have e0 : w13.cell? ⟨q, 0, none⟩ = some (.pointer (some ⟨p, 0, none⟩)) := hL13.box.cell 0
    have e3 : w13.cell? ⟨q, 3, none⟩ = some (.int .i64 nx) := hL13.box.cell 3
    have e5 : w13.cell? ⟨q, 5, none⟩ = some (.slice Av recs.length cv) := hL13.box.cell 5
    have kS2' := Lib.hid (kS2.out _ _ hd3)
    have hkp13 := Lib.hid (hkp12.out.trans (keeps_left kp3))
    replace hL13 := Lib.hid hL13
    clear kp3 hd3
    try go_wp2_with fail
    refine hK.out _ _ (⟨e0, e3, e5⟩) (fun hHeld1 => ?_)
    clear hK K hHeld
    have hHeld := hHeld1
    clear hHeld1
    try simp only [Act.put, List.setIfInBounds_toArray, List.set_cons_zero, List.set_cons_succ]
    refine tl_p (i := 25) (v := ?_) rfl (by rfl) (by kernel_rfl) (by kernel_rfl) (by kernel_rfl) (fun _ _ _ h => h) (by rfl) hHeld ?_ ?_
    rotate_left
    · intro w
      go_simp
      try (with_reducible rfl)
    try simp only [Act.put, List.setIfInBounds_toArray, List.set_cons_zero, List.set_cons_succ]
    refine tl_p (i := 26) (v := ?_) rfl (by rfl) (by kernel_rfl) (by kernel_rfl) (by kernel_rfl) (fun _ _ _ h => h) (by rfl) hHeld ?_ ?_
    rotate_left
    · intro w
      go_simp
      try (with_reducible rfl)
    try simp only [Act.put, List.setIfInBounds_toArray, List.set_cons_zero, List.set_cons_succ]
    refine tl_p (i := 27) (v := ?_) rfl (by rfl) (by kernel_rfl) (by kernel_rfl) (by kernel_rfl) (fun _ _ _ h => h) (by rfl) hHeld ?_ ?_
    rotate_left
    · intro w
      go_simp
      try (with_reducible rfl)
    try simp only [Act.put, List.setIfInBounds_toArray, List.set_cons_zero, List.set_cons_succ]
    refine tl_p (i := 28) (v := ?_) rfl (by rfl) (by kernel_rfl) (by kernel_rfl) (by kernel_rfl) (fun _ _ _ h => h) (by rfl) hHeld ?_ ?_
    rotate_left
    · intro w
      go_simp
      try (with_reducible rfl)
    try simp only [Act.put, List.setIfInBounds_toArray, List.set_cons_zero, List.set_cons_succ]
    refine tl_p (i := 29) (v := ?_) rfl (by rfl) (by kernel_rfl) (by kernel_rfl) (by kernel_rfl) (fun _ _ _ h => h) (by rfl) hHeld ?_ ?_
    rotate_left
    · intro w
      go_simp
      try (with_reducible rfl)
    try simp only [Act.put, List.setIfInBounds_toArray, List.set_cons_zero, List.set_cons_succ]
    refine tl_w (i := 30) (v := ?_) rfl (by rfl) (by kernel_rfl) (by kernel_rfl) (by kernel_rfl) (by kernel_rfl) (by kernel_rfl) (fun _ _ _ h => h) (by rfl) hHeld ?_ ?_
    rotate_left
    · intro w hSw
      try dsimp only at hSw
      go_simp
      try (with_reducible rfl)
    try simp only [Act.put, List.setIfInBounds_toArray, List.set_cons_zero, List.set_cons_succ]
    refine tl_do (i := 31) rfl (by kernel_rfl) (by rfl) (fun K hK => ?_)
    go_simp
    go_at_call 19
    refine kS2'.out.mono ?_; rintro e w15 ⟨rfl, hd5, kp5⟩
    have hL15 := hL13.out.disk hd5 kp5
    have g0 : w15.cell? ⟨q, 0, none⟩ = some (.pointer (some ⟨p, 0, none⟩)) := hL15.box.cell 0
    have g3 : w15.cell? ⟨q, 3, none⟩ = some (.int .i64 nx) := hL15.box.cell 3
    have g5 : w15.cell? ⟨q, 5, none⟩ = some (.slice Av recs.length cv) := hL15.box.cell 5
    have hkp15 := Lib.hid (hkp13.out.trans (keeps_left kp5))
    replace hL15 := Lib.hid hL15
    clear kp5 hd5
    try go_wp2_with fail
    refine hK.out _ _ (⟨g0, g3, g5⟩) (fun hHeld1 => ?_)
    clear hK K hHeld
    have hHeld := hHeld1
    clear hHeld1
    try simp only [Act.put, List.setIfInBounds_toArray, List.set_cons_zero, List.set_cons_succ]
    refine tl_p (i := 32) (v := ?_) rfl (by rfl) (by kernel_rfl) (by kernel_rfl) (by kernel_rfl) (fun _ _ _ h => h) (by rfl) hHeld ?_ ?_
    rotate_left
    · intro w
      go_simp
      try (with_reducible rfl)
    try simp only [Act.put, List.setIfInBounds_toArray, List.set_cons_zero, List.set_cons_succ]
    refine tl_p (i := 33) (v := ?_) rfl (by rfl) (by kernel_rfl) (by kernel_rfl) (by kernel_rfl) (fun _ _ _ h => h) (by rfl) hHeld ?_ ?_
    rotate_left
    · intro w
      go_simp
      try (with_reducible rfl)
    try simp only [Act.put, List.setIfInBounds_toArray, List.set_cons_zero, List.set_cons_succ]
    refine till_done (by kernel_rfl) ?_ _
    clear hHeld
    go_wp2_with fail
    go_ret
    exact ⟨rfl, ⟨_, _, _, hL15.out⟩, hkp15.out, hF5⟩
  · have u1 := hz1 hh
    subst u1
    clear hz1 hz2
    have qd : decide (nx + 1 + needI b.length < en) = false := decide_eq_false hh
    go_enter Try.func68, Try.ntmps68
    go_upto_region 1 with fail
    refine tl_begin (fun (w' : World) => (w'.cell? ⟨q, 3, none⟩ = some (.int .i64 nx))) [] (by kernel_rfl) (c3) (fun hHeld => ?_)
    refine tl_p (i := 0) (v := ?_) rfl (by rfl) (by kernel_rfl) (by kernel_rfl) (by kernel_rfl) (fun _ _ _ h => h) (by rfl) hHeld ?_ ?_
    rotate_left
    · intro w
      go_simp
      try (with_reducible rfl)
    try simp only [Act.put, List.setIfInBounds_toArray, List.set_cons_zero, List.set_cons_succ]
    refine tl_p (i := 1) (v := ?_) rfl (by rfl) (by kernel_rfl) (by kernel_rfl) (by kernel_rfl) (fun _ _ _ h => h) (by rfl) hHeld ?_ ?_
    rotate_left
    · intro w
      go_simp
      try (with_reducible rfl)
    try simp only [Act.put, List.setIfInBounds_toArray, List.set_cons_zero, List.set_cons_succ]
    refine tl_p (i := 2) (v := ?_) rfl (by rfl) (by kernel_rfl) (by kernel_rfl) (by kernel_rfl) (fun _ _ _ h => h) (by rfl) hHeld ?_ ?_
    rotate_left
    · intro w
      go_simp
      try (with_reducible rfl)
    try simp only [Act.put, List.setIfInBounds_toArray, List.set_cons_zero, List.set_cons_succ]
    refine tl_w (i := 3) (v := ?_) rfl (by rfl) (by kernel_rfl) (by kernel_rfl) (by kernel_rfl) (by kernel_rfl) (by kernel_rfl) (fun _ _ _ h => h) (by rfl) hHeld ?_ ?_
    rotate_left
    · intro w hSw
      try dsimp only at hSw
      go_simp
      try (with_reducible rfl)
    try simp only [Act.put, List.setIfInBounds_toArray, List.set_cons_zero, List.set_cons_succ]
    refine tl_p (i := 4) (v := ?_) rfl (by rfl) (by kernel_rfl) (by kernel_rfl) (by kernel_rfl) (fun _ _ _ h => h) (by rfl) hHeld ?_ ?_
    rotate_left
    · intro w
      go_simp
      try (with_reducible rfl)
    try simp only [Act.put, List.setIfInBounds_toArray, List.set_cons_zero, List.set_cons_succ]
    refine tl_p (i := 5) (v := ?_) rfl (by rfl) (by kernel_rfl) (by kernel_rfl) (by kernel_rfl) (fun _ _ _ h => h) (by rfl) hHeld ?_ ?_
    rotate_left
    · intro w
      go_simp
      try (with_reducible rfl)
    try simp only [Act.put, List.setIfInBounds_toArray, List.set_cons_zero, List.set_cons_succ]
    refine tl_p (i := 6) (v := ?_) rfl (by rfl) (by kernel_rfl) (by kernel_rfl) (by kernel_rfl) (fun _ _ _ h => h) (by rfl) hHeld ?_ ?_
    rotate_left
    · intro w
      go_simp
      try (with_reducible rfl)
    try simp only [Act.put, List.setIfInBounds_toArray, List.set_cons_zero, List.set_cons_succ]
    refine tl_do (i := 7) rfl (by kernel_rfl) (by rfl) (fun K hK => ?_)
    go_simp
    go_at_call 36
    refine (kN.out _).mono ?_; rintro e w1 ⟨rfl, hw1⟩
    have hw2 := hw1.symm
    subst hw2
    clear hw1
    try go_wp2_with fail
    refine hK.out _ _ (hHeld) (fun hHeld1 => ?_)
    clear hK K hHeld
    have hHeld := hHeld1
    clear hHeld1
    try simp only [Act.put, List.setIfInBounds_toArray, List.set_cons_zero, List.set_cons_succ]
    refine tl_p (i := 8) (v := ?_) rfl (by rfl) (by kernel_rfl) (by kernel_rfl) (by kernel_rfl) (fun _ _ _ h => h) (by rfl) hHeld ?_ ?_
    rotate_left
    · intro w
      go_simp
      try (with_reducible rfl)
    try simp only [Act.put, List.setIfInBounds_toArray, List.set_cons_zero, List.set_cons_succ]
    refine tl_p (i := 9) (v := ?_) rfl (by rfl) (by kernel_rfl) (by kernel_rfl) (by kernel_rfl) (fun _ _ _ h => h) (by rfl) hHeld ?_ ?_
    rotate_left
    · intro w
      go_simp
      try (with_reducible rfl)
    try simp only [Act.put, List.setIfInBounds_toArray, List.set_cons_zero, List.set_cons_succ]
    refine till_done (by kernel_rfl) ?_ _
    clear hHeld
    go_upto_region 2 with fail
    refine tl_begin (fun (w' : World) => (w'.cell? ⟨q, 0, none⟩ = some (.pointer (some ⟨p, 0, none⟩)) ∧ w'.cell? ⟨q, 3, none⟩ = some (.int .i64 nx))) [] (by kernel_rfl) (⟨c0, c3⟩) (fun hHeld => ?_)
    refine tl_p (i := 0) (v := ?_) rfl (by rfl) (by kernel_rfl) (by kernel_rfl) (by kernel_rfl) (fun _ _ _ h => h) (by rfl) hHeld ?_ ?_
    rotate_left
    · intro w
      go_simp
      try (with_reducible rfl)
    try simp only [Act.put, List.setIfInBounds_toArray, List.set_cons_zero, List.set_cons_succ]
    refine tl_p (i := 1) (v := ?_) rfl (by rfl) (by kernel_rfl) (by kernel_rfl) (by kernel_rfl) (fun _ _ _ h => h) (by rfl) hHeld ?_ ?_
    rotate_left
    · intro w
      go_simp
      try (with_reducible rfl)
    try simp only [Act.put, List.setIfInBounds_toArray, List.set_cons_zero, List.set_cons_succ]
    refine tl_p (i := 2) (v := ?_) rfl (by rfl) (by kernel_rfl) (by kernel_rfl) (by kernel_rfl) (fun _ _ _ h => h) (by rfl) hHeld ?_ ?_
    rotate_left
    · intro w
      go_simp
      try (with_reducible rfl)
    try simp only [Act.put, List.setIfInBounds_toArray, List.set_cons_zero, List.set_cons_succ]
    refine tl_w (i := 3) (v := ?_) rfl (by rfl) (by kernel_rfl) (by kernel_rfl) (by kernel_rfl) (by kernel_rfl) (by kernel_rfl) (fun _ _ _ h => h) (by rfl) hHeld ?_ ?_
    rotate_left
    · intro w hSw
      try dsimp only at hSw
      go_simp
      try (with_reducible rfl)
    try simp only [Act.put, List.setIfInBounds_toArray, List.set_cons_zero, List.set_cons_succ]
    refine tl_p (i := 4) (v := ?_) rfl (by rfl) (by kernel_rfl) (by kernel_rfl) (by kernel_rfl) (fun _ _ _ h => h) (by rfl) hHeld ?_ ?_
    rotate_left
    · intro w
      go_simp
      try (with_reducible rfl)
    try simp only [Act.put, List.setIfInBounds_toArray, List.set_cons_zero, List.set_cons_succ]
    refine tl_p (i := 5) (v := ?_) rfl (by rfl) (by kernel_rfl) (by kernel_rfl) (by kernel_rfl) (fun _ _ _ h => h) (by rfl) hHeld ?_ ?_
    rotate_left
    · intro w
      go_simp
      try (with_reducible rfl)
    try simp only [Act.put, List.setIfInBounds_toArray, List.set_cons_zero, List.set_cons_succ]
    refine tl_p (i := 6) (v := ?_) rfl (by rfl) (by kernel_rfl) (by kernel_rfl) (by kernel_rfl) (fun _ _ _ h => h) (by rfl) hHeld ?_ ?_
    rotate_left
    · intro w
      go_simp
      try (with_reducible rfl)
    try simp only [Act.put, List.setIfInBounds_toArray, List.set_cons_zero, List.set_cons_succ]
    refine tl_w (i := 7) (v := ?_) rfl (by rfl) (by kernel_rfl) (by kernel_rfl) (by kernel_rfl) (by kernel_rfl) (by kernel_rfl) (fun _ _ _ h => h) (by rfl) hHeld ?_ ?_
    rotate_left
    · intro w hSw
      try dsimp only at hSw
      go_simp
      try (with_reducible rfl)
    try simp only [Act.put, List.setIfInBounds_toArray, List.set_cons_zero, List.set_cons_succ]
    refine tl_p (i := 8) (v := ?_) rfl (by rfl) (by kernel_rfl) (by kernel_rfl) (by kernel_rfl) (fun _ _ _ h => h) (by rfl) hHeld ?_ ?_
    rotate_left
    · intro w
      go_simp
      try (with_reducible rfl)
    try simp only [Act.put, List.setIfInBounds_toArray, List.set_cons_zero, List.set_cons_succ]
    refine tl_p (i := 9) (v := ?_) rfl (by rfl) (by kernel_rfl) (by kernel_rfl) (by kernel_rfl) (fun _ _ _ h => h) (by rfl) hHeld ?_ ?_
    rotate_left
    · intro w
      go_simp
      try (with_reducible rfl)
    try simp only [Act.put, List.setIfInBounds_toArray, List.set_cons_zero, List.set_cons_succ]
    refine tl_do (i := 10) rfl (by kernel_rfl) (by rfl) (fun K hK => ?_)
    go_simp
    go_at_call 34
    refine kPut.out.mono ?_; rintro e w2 ⟨rfl, hd2, kp2⟩
    have hL2 := hLd.out.disk hd2 kp2
    have b0 : w2.cell? ⟨q, 0, none⟩ = some (.pointer (some ⟨p, 0, none⟩)) := hL2.box.cell 0
    have b2 : w2.cell? ⟨q, 2, none⟩ = some (.int .i64 en) := hL2.box.cell 2
    have b3 : w2.cell? ⟨q, 3, none⟩ = some (.int .i64 nx) := hL2.box.cell 3
    have hkp2 := Lib.hid ((Keeps.of_below (Below.drew (Below.drew (Below.refl W.heap.size W)))).trans (keeps_left kp2))
    replace hL2 := Lib.hid hL2
    clear kp2 hd2
    try go_wp2_with fail
    refine hK.out _ _ (⟨b0, b3⟩) (fun hHeld1 => ?_)
    clear hK K hHeld
    have hHeld := hHeld1
    clear hHeld1
    try simp only [Act.put, List.setIfInBounds_toArray, List.set_cons_zero, List.set_cons_succ]
    refine tl_p (i := 11) (v := ?_) rfl (by rfl) (by kernel_rfl) (by kernel_rfl) (by kernel_rfl) (fun _ _ _ h => h) (by rfl) hHeld ?_ ?_
    rotate_left
    · intro w
      go_simp
      try (with_reducible rfl)
    try simp only [Act.put, List.setIfInBounds_toArray, List.set_cons_zero, List.set_cons_succ]
    refine till_done (by kernel_rfl) ?_ _
    clear hHeld
    go_upto_region 4 with fail
    refine tl_begin (fun (w' : World) => (w'.cell? ⟨q, 0, none⟩ = some (.pointer (some ⟨p, 0, none⟩)) ∧ w'.cell? ⟨q, 2, none⟩ = some (.int .i64 en))) [] (by kernel_rfl) (⟨b0, b2⟩) (fun hHeld => ?_)
    refine tl_p (i := 0) (v := ?_) rfl (by rfl) (by kernel_rfl) (by kernel_rfl) (by kernel_rfl) (fun _ _ _ h => h) (by rfl) hHeld ?_ ?_
    rotate_left
    · intro w
      go_simp
      try (with_reducible rfl)
    try simp only [Act.put, List.setIfInBounds_toArray, List.set_cons_zero, List.set_cons_succ]
    refine tl_p (i := 1) (v := ?_) rfl (by rfl) (by kernel_rfl) (by kernel_rfl) (by kernel_rfl) (fun _ _ _ h => h) (by rfl) hHeld ?_ ?_
    rotate_left
    · intro w
      go_simp
      try (with_reducible rfl)
    try simp only [Act.put, List.setIfInBounds_toArray, List.set_cons_zero, List.set_cons_succ]
    refine tl_p (i := 2) (v := ?_) rfl (by rfl) (by kernel_rfl) (by kernel_rfl) (by kernel_rfl) (fun _ _ _ h => h) (by rfl) hHeld ?_ ?_
    rotate_left
    · intro w
      go_simp
      try (with_reducible rfl)
    try simp only [Act.put, List.setIfInBounds_toArray, List.set_cons_zero, List.set_cons_succ]
    refine tl_p (i := 3) (v := ?_) rfl (by rfl) (by kernel_rfl) (by kernel_rfl) (by kernel_rfl) (fun _ _ _ h => h) (by rfl) hHeld ?_ ?_
    rotate_left
    · intro w
      go_simp
      try (with_reducible rfl)
    try simp only [Act.put, List.setIfInBounds_toArray, List.set_cons_zero, List.set_cons_succ]
    refine tl_w (i := 4) (v := ?_) rfl (by rfl) (by kernel_rfl) (by kernel_rfl) (by kernel_rfl) (by kernel_rfl) (by kernel_rfl) (fun _ _ _ h => h) (by rfl) hHeld ?_ ?_
    rotate_left
    · intro w hSw
      try dsimp only at hSw
      go_simp
      try (with_reducible rfl)
    try simp only [Act.put, List.setIfInBounds_toArray, List.set_cons_zero, List.set_cons_succ]
    refine tl_p (i := 5) (v := ?_) rfl (by rfl) (by kernel_rfl) (by kernel_rfl) (by kernel_rfl) (fun _ _ _ h => h) (by rfl) hHeld ?_ ?_
    rotate_left
    · intro w
      go_simp
      try (with_reducible rfl)
    try simp only [Act.put, List.setIfInBounds_toArray, List.set_cons_zero, List.set_cons_succ]
    refine tl_p (i := 6) (v := ?_) rfl (by rfl) (by kernel_rfl) (by kernel_rfl) (by kernel_rfl) (fun _ _ _ h => h) (by rfl) hHeld ?_ ?_
    rotate_left
    · intro w
      go_simp
      try (with_reducible rfl)
    try simp only [Act.put, List.setIfInBounds_toArray, List.set_cons_zero, List.set_cons_succ]
    refine tl_u (i := 7) rfl (by rfl) (by kernel_rfl) (by kernel_rfl) (by kernel_rfl) (fun _ _ _ h => h) (by rfl) hHeld ?_
    try simp only [Act.put, List.setIfInBounds_toArray, List.set_cons_zero, List.set_cons_succ]
    refine tl_u (i := 8) rfl (by rfl) (by kernel_rfl) (by kernel_rfl) (by kernel_rfl) (fun _ _ _ h => h) (by rfl) hHeld ?_
    try simp only [Act.put, List.setIfInBounds_toArray, List.set_cons_zero, List.set_cons_succ]
    refine tl_u (i := 9) rfl (by rfl) (by kernel_rfl) (by kernel_rfl) (by kernel_rfl) (fun _ _ _ h => h) (by rfl) hHeld ?_
    try simp only [Act.put, List.setIfInBounds_toArray, List.set_cons_zero, List.set_cons_succ]
    refine tl_u (i := 10) rfl (by rfl) (by kernel_rfl) (by kernel_rfl) (by kernel_rfl) (fun _ _ _ h => h) (by rfl) hHeld ?_
    try simp only [Act.put, List.setIfInBounds_toArray, List.set_cons_zero, List.set_cons_succ]
    refine tl_u (i := 11) rfl (by rfl) (by kernel_rfl) (by kernel_rfl) (by kernel_rfl) (fun _ _ _ h => h) (by rfl) hHeld ?_
    try simp only [Act.put, List.setIfInBounds_toArray, List.set_cons_zero, List.set_cons_succ]
    refine tl_u (i := 12) rfl (by rfl) (by kernel_rfl) (by kernel_rfl) (by kernel_rfl) (fun _ _ _ h => h) (by rfl) hHeld ?_
    try simp only [Act.put, List.setIfInBounds_toArray, List.set_cons_zero, List.set_cons_succ]
    refine tl_u (i := 13) rfl (by rfl) (by kernel_rfl) (by kernel_rfl) (by kernel_rfl) (fun _ _ _ h => h) (by rfl) hHeld ?_
    try simp only [Act.put, List.setIfInBounds_toArray, List.set_cons_zero, List.set_cons_succ]
    refine tl_u (i := 14) rfl (by rfl) (by kernel_rfl) (by kernel_rfl) (by kernel_rfl) (fun _ _ _ h => h) (by rfl) hHeld ?_
    try simp only [Act.put, List.setIfInBounds_toArray, List.set_cons_zero, List.set_cons_succ]
    refine tl_p (i := 15) (v := ?_) rfl (by rfl) (by kernel_rfl) (by kernel_rfl) (by kernel_rfl) (fun _ _ _ h => h) (by rfl) hHeld ?_ ?_
    rotate_left
    · intro w
      go_simp
      try (with_reducible rfl)
    try simp only [Act.put, List.setIfInBounds_toArray, List.set_cons_zero, List.set_cons_succ]
    refine till_done (by kernel_rfl) ?_ _
    clear hHeld
    go_upto_region 6 with fail
    have hLs0 := hL2.out.below (W' := w2.drew.drew) (Below.drew (Below.drew (Below.refl _ _)))
    have r0 : w2.drew.drew.cell? ⟨q, 0, none⟩ = some (.pointer (some ⟨p, 0, none⟩)) := hLs0.box.cell 0
    have r3 : w2.drew.drew.cell? ⟨q, 3, none⟩ = some (.int .i64 nx) := hLs0.box.cell 3
    have r5 : w2.drew.drew.cell? ⟨q, 5, none⟩ = some (.slice Av recs.length cv) := hLs0.box.cell 5
    have hkpS := Lib.hid (hkp2.out.trans (Keeps.of_below (Below.drew (Below.drew (Below.refl w2.heap.size w2)))))
    have hLs := Lib.hid hLs0
    clear hLs0
    refine tl_begin (fun (w' : World) => (w'.cell? ⟨q, 0, none⟩ = some (.pointer (some ⟨p, 0, none⟩)) ∧ w'.cell? ⟨q, 3, none⟩ = some (.int .i64 nx) ∧ w'.cell? ⟨q, 5, none⟩ = some (.slice Av recs.length cv))) [] (by kernel_rfl) (⟨r0, r3, r5⟩) (fun hHeld => ?_)
    refine tl_p (i := 0) (v := ?_) rfl (by rfl) (by kernel_rfl) (by kernel_rfl) (by kernel_rfl) (fun _ _ _ h => h) (by rfl) hHeld ?_ ?_
    rotate_left
    · intro w
      go_simp
      try (with_reducible rfl)
    try simp only [Act.put, List.setIfInBounds_toArray, List.set_cons_zero, List.set_cons_succ]
    refine tl_p (i := 1) (v := ?_) rfl (by rfl) (by kernel_rfl) (by kernel_rfl) (by kernel_rfl) (fun _ _ _ h => h) (by rfl) hHeld ?_ ?_
    rotate_left
    · intro w
      go_simp
      try (with_reducible rfl)
    try simp only [Act.put, List.setIfInBounds_toArray, List.set_cons_zero, List.set_cons_succ]
    refine tl_p (i := 2) (v := ?_) rfl (by rfl) (by kernel_rfl) (by kernel_rfl) (by kernel_rfl) (fun _ _ _ h => h) (by rfl) hHeld ?_ ?_
    rotate_left
    · intro w
      go_simp
      try (with_reducible rfl)
    try simp only [Act.put, List.setIfInBounds_toArray, List.set_cons_zero, List.set_cons_succ]
    refine tl_w (i := 3) (v := ?_) rfl (by rfl) (by kernel_rfl) (by kernel_rfl) (by kernel_rfl) (by kernel_rfl) (by kernel_rfl) (fun _ _ _ h => h) (by rfl) hHeld ?_ ?_
    rotate_left
    · intro w hSw
      try dsimp only at hSw
      go_simp
      try (with_reducible rfl)
    try simp only [Act.put, List.setIfInBounds_toArray, List.set_cons_zero, List.set_cons_succ]
    refine tl_do (i := 4) rfl (by kernel_rfl) (by rfl) (fun K hK => ?_)
    go_simp
    go_at_call 19
    refine (kS1.out _ _ hLs.out.hd).mono ?_; rintro e w11 ⟨rfl, hd1, kp1⟩
    have hL11 := hLs.out.disk hd1 kp1
    have b0 : w11.cell? ⟨q, 0, none⟩ = some (.pointer (some ⟨p, 0, none⟩)) := hL11.box.cell 0
    have b3 : w11.cell? ⟨q, 3, none⟩ = some (.int .i64 nx) := hL11.box.cell 3
    have b4 : w11.cell? ⟨q, 4, none⟩ = some (.int .i64 ep') := hL11.box.cell 4
    have b5 : w11.cell? ⟨q, 5, none⟩ = some (.slice Av recs.length cv) := hL11.box.cell 5
    have kH := Lib.hid (headL_any w11 q ep' (recs.length + 1) b.length hL11.box.lt b4)
    have hkp11 := Lib.hid (hkpS.out.trans (keeps_left kp1))
    replace hL11 := Lib.hid hL11
    clear kp1 hd1
    try go_wp2_with fail
    refine hK.out _ _ (⟨b0, b3, b5⟩) (fun hHeld1 => ?_)
    clear hK K hHeld
    have hHeld := hHeld1
    clear hHeld1
    try simp only [Act.put, List.setIfInBounds_toArray, List.set_cons_zero, List.set_cons_succ]
    refine tl_p (i := 5) (v := ?_) rfl (by rfl) (by kernel_rfl) (by kernel_rfl) (by kernel_rfl) (fun _ _ _ h => h) (by rfl) hHeld ?_ ?_
    rotate_left
    · intro w
      go_simp
      try (with_reducible rfl)
    try simp only [Act.put, List.setIfInBounds_toArray, List.set_cons_zero, List.set_cons_succ]
    refine tl_p (i := 6) (v := ?_) rfl (by rfl) (by kernel_rfl) (by kernel_rfl) (by kernel_rfl) (fun _ _ _ h => h) (by rfl) hHeld ?_ ?_
    rotate_left
    · intro w
      go_simp
      try (with_reducible rfl)
    try simp only [Act.put, List.setIfInBounds_toArray, List.set_cons_zero, List.set_cons_succ]
    refine tl_p (i := 7) (v := ?_) rfl (by rfl) (by kernel_rfl) (by kernel_rfl) (by kernel_rfl) (fun _ _ _ h => h) (by rfl) hHeld ?_ ?_
    rotate_left
    · intro w
      go_simp
      try (with_reducible rfl)
    try simp only [Act.put, List.setIfInBounds_toArray, List.set_cons_zero, List.set_cons_succ]
    refine tl_p (i := 8) (v := ?_) rfl (by rfl) (by kernel_rfl) (by kernel_rfl) (by kernel_rfl) (fun _ _ _ h => h) (by rfl) hHeld ?_ ?_
    rotate_left
    · intro w
      go_simp
      try (with_reducible rfl)
    try simp only [Act.put, List.setIfInBounds_toArray, List.set_cons_zero, List.set_cons_succ]
    refine tl_w (i := 9) (v := ?_) rfl (by rfl) (by kernel_rfl) (by kernel_rfl) (by kernel_rfl) (by kernel_rfl) (by kernel_rfl) (fun _ _ _ h => h) (by rfl) hHeld ?_ ?_
    rotate_left
    · intro w hSw
      try dsimp only at hSw
      go_simp
      try (with_reducible rfl)
    try simp only [Act.put, List.setIfInBounds_toArray, List.set_cons_zero, List.set_cons_succ]
    refine tl_p (i := 10) (v := ?_) rfl (by rfl) (by kernel_rfl) (by kernel_rfl) (by kernel_rfl) (fun _ _ _ h => h) (by rfl) hHeld ?_ ?_
    rotate_left
    · intro w
      go_simp
      try (with_reducible rfl)
    try simp only [Act.put, List.setIfInBounds_toArray, List.set_cons_zero, List.set_cons_succ]
    refine tl_p (i := 11) (v := ?_) rfl (by rfl) (by kernel_rfl) (by kernel_rfl) (by kernel_rfl) (fun _ _ _ h => h) (by rfl) hHeld ?_ ?_
    rotate_left
    · intro w
      go_simp
      try (with_reducible rfl)
    try simp only [Act.put, List.setIfInBounds_toArray, List.set_cons_zero, List.set_cons_succ]
    refine tl_p (i := 12) (v := ?_) rfl (by rfl) (by kernel_rfl) (by kernel_rfl) (by kernel_rfl) (fun _ _ _ h => h) (by rfl) hHeld ?_ ?_
    rotate_left
    · intro w
      go_simp
      try (with_reducible rfl)
    try simp only [Act.put, List.setIfInBounds_toArray, List.set_cons_zero, List.set_cons_succ]
    refine tl_w (i := 13) (v := ?_) rfl (by rfl) (by kernel_rfl) (by kernel_rfl) (by kernel_rfl) (by kernel_rfl) (by kernel_rfl) (fun _ _ _ h => h) (by rfl) hHeld ?_ ?_
    rotate_left
    · intro w hSw
      try dsimp only at hSw
      go_simp
      try (with_reducible rfl)
    try simp only [Act.put, List.setIfInBounds_toArray, List.set_cons_zero, List.set_cons_succ]
    refine tl_p (i := 14) (v := ?_) rfl (by rfl) (by kernel_rfl) (by kernel_rfl) (by kernel_rfl) (fun _ _ _ h => h) (by rfl) hHeld ?_ ?_
    rotate_left
    · intro w
      go_simp
      try (with_reducible rfl)
    try simp only [Act.put, List.setIfInBounds_toArray, List.set_cons_zero, List.set_cons_succ]
    refine tl_p (i := 15) (v := ?_) rfl (by rfl) (by kernel_rfl) (by kernel_rfl) (by kernel_rfl) (fun _ _ _ h => h) (by rfl) hHeld ?_ ?_
    rotate_left
    · intro w
      go_simp
      try (with_reducible rfl)
    try simp only [Act.put, List.setIfInBounds_toArray, List.set_cons_zero, List.set_cons_succ]
    refine tl_p (i := 16) (v := ?_) rfl (by rfl) (by kernel_rfl) (by kernel_rfl) (by kernel_rfl) (fun _ _ _ h => h) (by rfl) hHeld ?_ ?_
    rotate_left
    · intro w
      go_simp
      try (with_reducible rfl)
    try simp only [Act.put, List.setIfInBounds_toArray, List.set_cons_zero, List.set_cons_succ]
    refine tl_p (i := 17) (v := ?_) rfl (by rfl) (by kernel_rfl) (by kernel_rfl) (by kernel_rfl) (fun _ _ _ h => h) (by rfl) hHeld ?_ ?_
    rotate_left
    · intro w
      go_simp
      try (with_reducible rfl)
    try simp only [Act.put, List.setIfInBounds_toArray, List.set_cons_zero, List.set_cons_succ]
    refine tl_w (i := 18) (v := ?_) rfl (by rfl) (by kernel_rfl) (by kernel_rfl) (by kernel_rfl) (by kernel_rfl) (by kernel_rfl) (fun _ _ _ h => h) (by rfl) hHeld ?_ ?_
    rotate_left
    · intro w hSw
      try dsimp only at hSw
      go_simp
      try (with_reducible rfl)
    try simp only [Act.put, List.setIfInBounds_toArray, List.set_cons_zero, List.set_cons_succ]
    refine tl_p (i := 19) (v := ?_) rfl (by rfl) (by kernel_rfl) (by kernel_rfl) (by kernel_rfl) (fun _ _ _ h => h) (by rfl) hHeld ?_ ?_
    rotate_left
    · intro w
      go_simp
      try (with_reducible rfl)
    try simp only [Act.put, List.setIfInBounds_toArray, List.set_cons_zero, List.set_cons_succ]
    refine tl_p (i := 20) (v := ?_) rfl (by rfl) (by kernel_rfl) (by kernel_rfl) (by kernel_rfl) (fun _ _ _ h => h) (by rfl) hHeld ?_ ?_
    rotate_left
    · intro w
      go_simp
      try (with_reducible rfl)
    try simp only [Act.put, List.setIfInBounds_toArray, List.set_cons_zero, List.set_cons_succ]
    refine tl_p (i := 21) (v := ?_) rfl (by rfl) (by kernel_rfl) (by kernel_rfl) (by kernel_rfl) (fun _ _ _ h => h) (by rfl) hHeld ?_ ?_
    rotate_left
    · intro w
      go_simp
      try (with_reducible rfl)
    try simp only [Act.put, List.setIfInBounds_toArray, List.set_cons_zero, List.set_cons_succ]
    refine tl_p (i := 22) (v := ?_) rfl (by rfl) (by kernel_rfl) (by kernel_rfl) (by kernel_rfl) (fun _ _ _ h => h) (by rfl) hHeld ?_ ?_
    rotate_left
    · intro w
      go_simp
      try (with_reducible rfl)
    try simp only [Act.put, List.setIfInBounds_toArray, List.set_cons_zero, List.set_cons_succ]
    refine tl_do (i := 23) rfl (by kernel_rfl) (by rfl) (fun K hK => ?_)
    go_simp
    go_at_call 76
    refine kH.out.mono ?_; rintro e w12 ⟨v2, rfl, ho2, hb2⟩
    have hL12 := hL11.out.grow hb2
    have d0 : w12.cell? ⟨q, 0, none⟩ = some (.pointer (some ⟨p, 0, none⟩)) := hL12.box.cell 0
    have d3 : w12.cell? ⟨q, 3, none⟩ = some (.int .i64 nx) := hL12.box.cell 3
    have d5 : w12.cell? ⟨q, 5, none⟩ = some (.slice Av recs.length cv) := hL12.box.cell 5
    have hC2 := fun x (hx : blockOf v2 = some x) => own_lt ho2 ((block_own v2).symm.trans hx)
    have kWh2 := Lib.hid (kWh.out w12 _ v2 hL12.hd ho2.view (fun x hx => .inr (.inr (hC2 x hx))))
    have hkp12 := Lib.hid (hkp11.out.trans (Keeps.of_below hb2))
    obtain ⟨A2, c2', rfl, _, _, _⟩ := own_shape ho2
    replace hL12 := Lib.hid hL12
    clear ho2 hC2 hb2
    try go_wp2_with fail
    refine hK.out _ _ (⟨d0, d3, d5⟩) (fun hHeld1 => ?_)
    clear hK K hHeld
    have hHeld := hHeld1
    clear hHeld1
    try simp only [Act.put, List.setIfInBounds_toArray, List.set_cons_zero, List.set_cons_succ]
    refine tl_do (i := 24) rfl (by kernel_rfl) (by rfl) (fun K hK => ?_)
    go_simp
    go_at_call 17
    refine kWh2.out.mono ?_; rintro e w13 ⟨rfl, hd3, kp3⟩
    have hL13 := hL12.out.disk hd3 kp3
    have e0 : w13.cell? ⟨q, 0, none⟩ = some (.pointer (some ⟨p, 0, none⟩)) := hL13.box.cell 0
    have e3 : w13.cell? ⟨q, 3, none⟩ = some (.int .i64 nx) := hL13.box.cell 3
    have e5 : w13.cell? ⟨q, 5, none⟩ = some (.slice Av recs.length cv) := hL13.box.cell 5
    have kS2' := Lib.hid (kS2.out _ _ hd3)
    have hkp13 := Lib.hid (hkp12.out.trans (keeps_left kp3))
    replace hL13 := Lib.hid hL13
    clear kp3 hd3
    try go_wp2_with fail
    refine hK.out _ _ (⟨e0, e3, e5⟩) (fun hHeld1 => ?_)
    clear hK K hHeld
    have hHeld := hHeld1
    clear hHeld1
    try simp only [Act.put, List.setIfInBounds_toArray, List.set_cons_zero, List.set_cons_succ]
    refine tl_p (i := 25) (v := ?_) rfl (by rfl) (by kernel_rfl) (by kernel_rfl) (by kernel_rfl) (fun _ _ _ h => h) (by rfl) hHeld ?_ ?_
    rotate_left
    · intro w
      go_simp
      try (with_reducible rfl)
    try simp only [Act.put, List.setIfInBounds_toArray, List.set_cons_zero, List.set_cons_succ]
    refine tl_p (i := 26) (v := ?_) rfl (by rfl) (by kernel_rfl) (by kernel_rfl) (by kernel_rfl) (fun _ _ _ h => h) (by rfl) hHeld ?_ ?_
    rotate_left
    · intro w
      go_simp
      try (with_reducible rfl)
    try simp only [Act.put, List.setIfInBounds_toArray, List.set_cons_zero, List.set_cons_succ]
    refine tl_p (i := 27) (v := ?_) rfl (by rfl) (by kernel_rfl) (by kernel_rfl) (by kernel_rfl) (fun _ _ _ h => h) (by rfl) hHeld ?_ ?_
    rotate_left
    · intro w
      go_simp
      try (with_reducible rfl)
    try simp only [Act.put, List.setIfInBounds_toArray, List.set_cons_zero, List.set_cons_succ]
    refine tl_p (i := 28) (v := ?_) rfl (by rfl) (by kernel_rfl) (by kernel_rfl) (by kernel_rfl) (fun _ _ _ h => h) (by rfl) hHeld ?_ ?_
    rotate_left
    · intro w
      go_simp
      try (with_reducible rfl)
    try simp only [Act.put, List.setIfInBounds_toArray, List.set_cons_zero, List.set_cons_succ]
    refine tl_p (i := 29) (v := ?_) rfl (by rfl) (by kernel_rfl) (by kernel_rfl) (by kernel_rfl) (fun _ _ _ h => h) (by rfl) hHeld ?_ ?_
    rotate_left
    · intro w
      go_simp
      try (with_reducible rfl)
    try simp only [Act.put, List.setIfInBounds_toArray, List.set_cons_zero, List.set_cons_succ]
    refine tl_w (i := 30) (v := ?_) rfl (by rfl) (by kernel_rfl) (by kernel_rfl) (by kernel_rfl) (by kernel_rfl) (by kernel_rfl) (fun _ _ _ h => h) (by rfl) hHeld ?_ ?_
    rotate_left
    · intro w hSw
      try dsimp only at hSw
      go_simp
      try (with_reducible rfl)
    try simp only [Act.put, List.setIfInBounds_toArray, List.set_cons_zero, List.set_cons_succ]
    refine tl_do (i := 31) rfl (by kernel_rfl) (by rfl) (fun K hK => ?_)
    go_simp
    go_at_call 19
    refine kS2'.out.mono ?_; rintro e w15 ⟨rfl, hd5, kp5⟩
    have hL15 := hL13.out.disk hd5 kp5
    have g0 : w15.cell? ⟨q, 0, none⟩ = some (.pointer (some ⟨p, 0, none⟩)) := hL15.box.cell 0
    have g3 : w15.cell? ⟨q, 3, none⟩ = some (.int .i64 nx) := hL15.box.cell 3
    have g5 : w15.cell? ⟨q, 5, none⟩ = some (.slice Av recs.length cv) := hL15.box.cell 5
    have hkp15 := Lib.hid (hkp13.out.trans (keeps_left kp5))
    replace hL15 := Lib.hid hL15
    clear kp5 hd5
    try go_wp2_with fail
    refine hK.out _ _ (⟨g0, g3, g5⟩) (fun hHeld1 => ?_)
    clear hK K hHeld
    have hHeld := hHeld1
    clear hHeld1
    try simp only [Act.put, List.setIfInBounds_toArray, List.set_cons_zero, List.set_cons_succ]
    refine tl_p (i := 32) (v := ?_) rfl (by rfl) (by kernel_rfl) (by kernel_rfl) (by kernel_rfl) (fun _ _ _ h => h) (by rfl) hHeld ?_ ?_
    rotate_left
    · intro w
      go_simp
      try (with_reducible rfl)
    try simp only [Act.put, List.setIfInBounds_toArray, List.set_cons_zero, List.set_cons_succ]
    refine tl_p (i := 33) (v := ?_) rfl (by rfl) (by kernel_rfl) (by kernel_rfl) (by kernel_rfl) (fun _ _ _ h => h) (by rfl) hHeld ?_ ?_
    rotate_left
    · intro w
      go_simp
      try (with_reducible rfl)
    try simp only [Act.put, List.setIfInBounds_toArray, List.set_cons_zero, List.set_cons_succ]
    refine till_done (by kernel_rfl) ?_ _
    clear hHeld
    go_wp2_with fail
    go_ret
    exact ⟨rfl, ⟨_, _, _, hL15.out⟩, hkp15.out, hF5⟩
end Go.Proofs.Ytbfcaapompkjhaa
