/-
  log.Append, where the disk goes on, by its contract.
-/
import Derived.Test.YtbfcaapompkjhaaHe
set_option linter.unusedVariables false
set_option linter.unusedSimpArgs false
namespace Go.Proofs.Ytbfcaapompkjhaa
open Go.RowKit Go.Proofs.PosteMem
attribute [local go_sem ↓] Go.wp_at_zero Go.wp_at_succ

set_option maxRecDepth 100000 in
set_option maxHeartbeats 8000000 in
theorem lappend_no {w W : World} {p q : Nat} {D : Dk} {g : Lg} {K : Nat → Prop} (h : Lo w W p q D g K) (hs : Small g) (hfl : g.failed = false) {v : Value} {b : List Int} (hv : VB W v b) (hbl : b.length ≤ 1000000) (hfit : fitsB g.en g.nx b.length = false) :
    Calls Try.prog 50 #[.pointer (some ⟨q, 0, none⟩), v] W fun e w' => e = .returned (.int .i64 6) ∧ Lo w w' p q D g K ∧ Keeps K W w' := by
  have h' := Lib.hid h
  obtain ⟨v0, hs', M, hL⟩ := h
  have c0 : W.cell? ⟨q, 0, none⟩ = some (.pointer (some ⟨p, 0, none⟩)) := hL.box.cell 0
  have c2 : W.cell? ⟨q, 2, none⟩ = some (.int .i64 g.en) := hL.box.cell 2
  have c3 : W.cell? ⟨q, 3, none⟩ = some (.int .i64 g.nx) := hL.box.cell 3
  have c6 : W.cell? ⟨q, 6, none⟩ = some (.bool false) := by rw [← hfl]; exact hL.box.cell 6
  have kF := Lib.hid (fits_any W q g.en g.nx b.length c2 c3 hs.en0 (by have := hs.en1; omega) hs.nx0 (by have := hs.nx1; omega) (by omega))
  rw [hfit] at kF
  obtain ⟨A, cap, rfl, _, _⟩ := hv.cells
  clear hL hv c2 c3 hfl hfit
  go_enter Try.func50, Try.ntmps50
  go_wp2_with fail
  refine kF.out.mono ?_; rintro e w1 ⟨rfl, hb1⟩
  go_wp2_with fail
  go_ret
  exact ⟨rfl, h'.out.below hb1, Keeps.of_below hb1⟩

set_option maxRecDepth 100000 in
set_option maxHeartbeats 8000000 in
theorem lappend_free {w W : World} {p q : Nat} {D : Dk} {g : Lg} {K : Nat → Prop} (h : Lo w W p q D g K) (hF : Free D) (hs : Small g) (hfl : g.failed = false) {v : Value} {b : List Int} (hv : VB W v b) (hvK : ∀ x, blockOf v = some x → K x) (hbl : b.length ≤ 1000000) (hw : D.written ≤ 1000000) (hu : D.uns.length ≤ 10000) (hfit : fitsB g.en g.nx b.length = true) (hen : g.en ≤ D.now.length) :
    Calls Try.prog 50 #[.pointer (some ⟨q, 0, none⟩), v] W fun e w' => e = .returned (.int .i64 0) ∧ Lo w w' p q (lputD D g b) (g.with b b.length) K ∧ Keeps K W w' ∧ Free (lputD D g b) := by
  obtain ⟨i0, hi0, hz0, hz1, hz2⟩ := info_parts infoBs
  obtain ⟨f1, f2⟩ := fitsB_iff.1 hfit
  have hnn := needI_nn (n := (b.length : Int))
  have h' := Lib.hid h
  obtain ⟨v0, hs', M, hL⟩ := h
  have c0 : W.cell? ⟨q, 0, none⟩ = some (.pointer (some ⟨p, 0, none⟩)) := hL.box.cell 0
  have c2 : W.cell? ⟨q, 2, none⟩ = some (.int .i64 g.en) := hL.box.cell 2
  have c3 : W.cell? ⟨q, 3, none⟩ = some (.int .i64 g.nx) := hL.box.cell 3
  have c6 : W.cell? ⟨q, 6, none⟩ = some (.bool false) := by rw [← hfl]; exact hL.box.cell 6
  have kF := Lib.hid (fits_any W q g.en g.nx b.length c2 c3 hs.en0 (by have := hs.en1; omega) hs.nx0 (by have := hs.nx1; omega) (by omega))
  rw [hfit] at kF
  have kP := Lib.hid (fun W' (hW : Below W.heap.size W W') => lput_free (h'.out.below hW) hF hs (View.below hv hW) hbl hw hu hfit hen)
  have kN := Lib.hid (fun W' => need_any W' b.length (by omega))
  generalize lputD D g b = D' at *
  obtain ⟨s1, s2, s3, s4, s5⟩ := hs
  unfold Lg.with
  obtain ⟨at', en, nx, ep', recs, fl⟩ := g
  simp only at s1 s2 s3 s4 s5 f1 f2 hfl hfit hen ⊢
  subst hfl
  have ew2 : IntKind.i64.wrap (1 + needI b.length) = 1 + needI b.length := by rw [IntKind.wrap_i64]; omega
  have ew3 : IntKind.i64.wrap (nx + (1 + needI b.length)) = nx + (1 + needI b.length) := by rw [IntKind.wrap_i64]; omega
  obtain ⟨A, cap, rfl, _, _⟩ := hv.cells
  replace hv := Lib.hid hv
  clear hL c2 c3 hfit
  go_enter Try.func50, Try.ntmps50
  go_wp2_with fail
  refine kF.out.mono ?_; rintro e w1 ⟨rfl, hb1⟩
  have hB1 := Lib.hid hb1
  clear hb1
  go_wp2_with fail
  refine (kP.out _ hB1.out).mono ?_; rintro e w8' ⟨rfl, hLo, hkp, hF'⟩
  obtain ⟨v1, hs, M1, hL⟩ := hLo
  have hv8 := (Keeps.of_below hB1.out).trans hkp |>.view hv.out hvK
  have hkp8 := Lib.hid ((Keeps.of_below hB1.out).trans hkp)
  obtain ⟨Av, cv, rfl, _, _, _⟩ := own_shape hL.row
  have z3 : w8'.cell? ⟨q, 3, none⟩ = some (.int .i64 nx) := hL.box.cell 3
  have z5 : w8'.cell? ⟨q, 5, none⟩ = some (.slice Av recs.length cv) := hL.box.cell 5
  have hLd := Lib.hid (hL.below (W' := w8'.drew) (Below.drew (Below.refl w8'.heap.size w8')))
  have kC := Lib.hid (cloneB w8'.drew _ b (View.drew hv8) hbl)
  replace hF' := Lib.hid hF'
  clear hkp hv8 kP kF hL c0 c6
  go_upto_region 8 with fail
  refine tl_begin (fun (w' : World) => (w'.cell? ⟨q, 3, none⟩ = some (.int .i64 nx) ∧ w'.cell? ⟨q, 5, none⟩ = some (.slice Av recs.length cv))) [11] (by kernel_rfl) (⟨z3, z5⟩) (fun hHeld => ?_)
  refine tl_p (i := 0) (v := ?_) rfl (by rfl) (by kernel_rfl) (by kernel_rfl) (by kernel_rfl) (fun _ _ _ h => h) (by rfl) hHeld ?_ ?_
  rotate_left
  · intro w
    go_simp
    try (with_reducible rfl)
  try simp only [Act.put, List.setIfInBounds_toArray, List.set_cons_zero, List.set_cons_succ]
  refine tl_p (i := 1) (v := ?_) rfl (by rfl) (by kernel_rfl) (by kernel_rfl) (by kernel_rfl) (fun _ _ _ h => h) (by rfl) hHeld ?_ ?_
  rotate_left
  · intro w
    go_simp
    try (with_reducible rfl)
  try simp only [Act.put, List.setIfInBounds_toArray, List.set_cons_zero, List.set_cons_succ]
  refine tl_p (i := 2) (v := ?_) rfl (by rfl) (by kernel_rfl) (by kernel_rfl) (by kernel_rfl) (fun _ _ _ h => h) (by rfl) hHeld ?_ ?_
  rotate_left
  · intro w
    go_simp
    try (with_reducible rfl)
  try simp only [Act.put, List.setIfInBounds_toArray, List.set_cons_zero, List.set_cons_succ]
  refine tl_p (i := 3) (v := ?_) rfl (by rfl) (by kernel_rfl) (by kernel_rfl) (by kernel_rfl) (fun _ _ _ h => h) (by rfl) hHeld ?_ ?_
  rotate_left
  · intro w
    go_simp
    try (with_reducible rfl)
  try simp only [Act.put, List.setIfInBounds_toArray, List.set_cons_zero, List.set_cons_succ]
  refine tl_w (i := 4) (v := ?_) rfl (by rfl) (by kernel_rfl) (by kernel_rfl) (by kernel_rfl) (by kernel_rfl) (by kernel_rfl) (fun _ _ _ h => h) (by rfl) hHeld ?_ ?_
  rotate_left
  · intro w hSw
    try dsimp only at hSw
    go_simp
    try (with_reducible rfl)
  try simp only [Act.put, List.setIfInBounds_toArray, List.set_cons_zero, List.set_cons_succ]
  refine tl_p (i := 5) (v := ?_) rfl (by rfl) (by kernel_rfl) (by kernel_rfl) (by kernel_rfl) (fun _ _ _ h => h) (by rfl) hHeld ?_ ?_
  rotate_left
  · intro w
    go_simp
    try (with_reducible rfl)
  try simp only [Act.put, List.setIfInBounds_toArray, List.set_cons_zero, List.set_cons_succ]
  refine tl_do (i := 6) rfl (by kernel_rfl) (by rfl) (fun K hK => ?_)
  go_simp
  go_at_call 56
  refine kC.out.mono ?_; rintro e w9 ⟨v9, rfl, ho9, hb9⟩
  have hx9 := Lib.hid (fun x (hx : blockOf v9 = some x) => own_lt ho9 ((block_own v9).symm.trans hx))
  have hv9' := ho9.view
  obtain ⟨A9, c9, rfl, _, _, _⟩ := own_shape ho9
  have hv9 := Lib.hid (show VB w9 (.slice A9 b.length c9) b from hv9')
  have hL9 := hLd.out.grow hb9
  have y3 : w9.cell? ⟨q, 3, none⟩ = some (.int .i64 nx) := hL9.box.cell 3
  have y5 : w9.cell? ⟨q, 5, none⟩ = some (.slice Av recs.length cv) := hL9.box.cell 5
  replace hL9 := Lib.hid hL9
  clear ho9 hv9'
  try go_wp2_with fail
  refine hK.out _ _ (⟨y3, y5⟩) (fun hHeld1 => ?_)
  clear hK K hHeld
  have hHeld := hHeld1
  clear hHeld1
  try simp only [Act.put, List.setIfInBounds_toArray, List.set_cons_zero, List.set_cons_succ]
  refine tl_do (i := 7) rfl (by kernel_rfl) (by rfl) (fun K hK => ?_)
  go_simp
  refine hK.out _ _ (⟨(hL9.out.box.alloc _).cell 3, (hL9.out.box.alloc _).cell 5⟩) (fun hHeld1 => ?_)
  clear hK K hHeld
  have hHeld := hHeld1
  clear hHeld1
  try simp only [Act.put, List.setIfInBounds_toArray, List.set_cons_zero, List.set_cons_succ]
  refine tl_do (i := 8) rfl (by kernel_rfl) (by rfl) (fun K hK => ?_)
  have hLa := hL9.out.below ((Below.refl w9.heap.size w9).alloc (Nat.le_refl _) (.cells #[.slice A9 b.length c9] 27))
  have hva := View.alloc hv9.out (.cells #[.slice A9 b.length c9] 27)
  refine wp_append_view _ (.tmp 38) (.tmp 41) _ rfl w.heap.size 27 i0 (.slice none 0 0) 1 24 Try.underlying41 hi0 hz0 hz1 hz2 rfl (by omega) (.slice Av recs.length cv) recs.length hs rfl hLa.row (.slice (some ⟨w9.heap.size, 0, none⟩) 1 1) 1 [.slice A9 b.length c9] rfl (View.boxAt _ _ _ _ rfl rfl) (by intro u hu; simp only [List.mem_cons, List.not_mem_nil, or_false] at hu; rcases hu with rfl; rfl) (by omega) (by simp only [maxLen]; omega) hLa.acc.size ?_
  intro v2 w2 hown2 hg2 hat2
  have hsz9 := hb9.size
  have hadd := hLa.add (v' := v2) (hd' := .slice A9 b.length c9) (b := b) hg2 hown2 hat2 (View.upd hva (Upd.of_grown (S := fun b => (Value.slice Av recs.length cv).ownBlock = some b) hg2 (fun _ e => e)) (fun x hx e => by have h1 := hx9.out x hx; have h2 := hd_in hLd.out.hd (b := x) (.inr (hLd.out.mv x e)); omega)) (fun x hx => by
    have h1 := hx9.out x hx
    have h2 := hd_in hLd.out.hd (b := q) (.inr hLd.out.mq)
    exact ⟨fun e => by omega, fun e => by have h3 := hd_in hLd.out.hd (b := x) (.inr (hLd.out.mv x e)); omega, .inr h1⟩)
  have x2 := Lib.hid (show Whole w2 q 88 (Lg.cells ⟨at', en, nx, ep', recs, false⟩ p (.slice Av recs.length cv)) from hLa.box.grown hg2 hLa.mq_ne)
  have kp2 := Lib.hid hadd.2
  replace hadd := Lib.hid hadd.1
  obtain ⟨A2, c2', rfl, _, _, _⟩ := own_shape hown2
  clear hg2 hown2 hLa hva
  refine hK.out _ _ (⟨x2.out.cell 3, x2.out.cell 5⟩) (fun hHeld1 => ?_)
  clear hK K hHeld
  have hHeld := hHeld1
  clear hHeld1
  try simp only [Act.put, List.setIfInBounds_toArray, List.set_cons_zero, List.set_cons_succ]
  refine tl_p (i := 9) (v := ?_) rfl (by rfl) (by kernel_rfl) (by kernel_rfl) (by kernel_rfl) (fun _ _ _ h => h) (by rfl) hHeld ?_ ?_
  rotate_left
  · intro w
    go_simp
    try (with_reducible rfl)
  try simp only [Act.put, List.setIfInBounds_toArray, List.set_cons_zero, List.set_cons_succ]
  refine tl_p (i := 10) (v := ?_) rfl (by rfl) (by kernel_rfl) (by kernel_rfl) (by kernel_rfl) (fun _ _ _ h => h) (by rfl) hHeld ?_ ?_
  rotate_left
  · intro w
    go_simp
    try (with_reducible rfl)
  try simp only [Act.put, List.setIfInBounds_toArray, List.set_cons_zero, List.set_cons_succ]
  refine tl_late (by kernel_rfl) ?_
  refine any_do (i := 11) rfl (by kernel_rfl) (by rfl) (fun K hK => ?_)
  have d0 : w2.cell? ⟨q, 5, none⟩ = some (.slice Av recs.length cv) := x2.out.cell 5
  have e0 := x2.out.frozen 5
  have dq := x2.out.lt
  go_simp
  refine hK.out _ _ ?_
  clear hK K
  try simp only [Act.put, List.setIfInBounds_toArray, List.set_cons_zero, List.set_cons_succ]
  refine wpAny_done (by kernel_rfl) ?_ _
  clear hHeld
  have hLa : LoAt w (w2.setCell ⟨q, 5, none⟩ (.slice A2 (recs.length + 1) c2')) p q D' ⟨at', en, nx, ep', recs ++ [b], false⟩ K (.slice A2 (recs.length + 1) c2') (hs ++ [.slice A9 b.length c9]) _ := hadd.out
  have hkp9 : Keeps K W (w2.setCell ⟨q, 5, none⟩ (.slice A2 (recs.length + 1) c2')) := (hkp8.out.trans (Keeps.of_below ((below_then (Below.drew (Below.refl _ _)) hb9).alloc (by have := hb9.size; simpa using this) _))).trans kp2.out
  generalize w2.setCell ⟨q, 5, none⟩ (.slice A2 (recs.length + 1) c2') = W10 at *
  have t3 : W10.cell? ⟨q, 3, none⟩ = some (.int .i64 nx) := hLa.box.cell 3
  have tf3 := hLa.box.frozen 3
  have tql := hLa.box.lt
  have hst := hLa.store (g' := ⟨at', en, nx + (1 + needI b.length), ep', recs ++ [b], false⟩) 3 (.int .i64 (nx + (1 + needI b.length))) rfl rfl
  replace hst := Lib.hid hst
  replace hkp9 := Lib.hid hkp9
  clear hadd kp2 x2 d0 e0 dq hL9 z3 z5 y3 y5 hb9 hv9 hx9 hLa hsz9
  go_upto_region 9 with fail
  refine tl_begin (fun (w' : World) => w'.cell? ⟨q, 3, none⟩ = some (.int .i64 nx)) [11] (by kernel_rfl) (t3) (fun hHeld => ?_)
  refine tl_p (i := 0) (v := ?_) rfl (by rfl) (by kernel_rfl) (by kernel_rfl) (by kernel_rfl) (fun _ _ _ h => h) (by rfl) hHeld ?_ ?_
  rotate_left
  · intro w
    go_simp
    try (with_reducible rfl)
  try simp only [Act.put, List.setIfInBounds_toArray, List.set_cons_zero, List.set_cons_succ]
  refine tl_p (i := 1) (v := ?_) rfl (by rfl) (by kernel_rfl) (by kernel_rfl) (by kernel_rfl) (fun _ _ _ h => h) (by rfl) hHeld ?_ ?_
  rotate_left
  · intro w
    go_simp
    try (with_reducible rfl)
  try simp only [Act.put, List.setIfInBounds_toArray, List.set_cons_zero, List.set_cons_succ]
  refine tl_p (i := 2) (v := ?_) rfl (by rfl) (by kernel_rfl) (by kernel_rfl) (by kernel_rfl) (fun _ _ _ h => h) (by rfl) hHeld ?_ ?_
  rotate_left
  · intro w
    go_simp
    try (with_reducible rfl)
  try simp only [Act.put, List.setIfInBounds_toArray, List.set_cons_zero, List.set_cons_succ]
  refine tl_w (i := 3) (v := ?_) rfl (by rfl) (by kernel_rfl) (by kernel_rfl) (by kernel_rfl) (by kernel_rfl) (by kernel_rfl) (fun _ _ _ h => h) (by rfl) hHeld ?_ ?_
  rotate_left
  · intro w hSw
    try dsimp only at hSw
    go_simp
    try (with_reducible rfl)
  try simp only [Act.put, List.setIfInBounds_toArray, List.set_cons_zero, List.set_cons_succ]
  refine tl_p (i := 4) (v := ?_) rfl (by rfl) (by kernel_rfl) (by kernel_rfl) (by kernel_rfl) (fun _ _ _ h => h) (by rfl) hHeld ?_ ?_
  rotate_left
  · intro w
    go_simp
    try (with_reducible rfl)
  try simp only [Act.put, List.setIfInBounds_toArray, List.set_cons_zero, List.set_cons_succ]
  refine tl_p (i := 5) (v := ?_) rfl (by rfl) (by kernel_rfl) (by kernel_rfl) (by kernel_rfl) (fun _ _ _ h => h) (by rfl) hHeld ?_ ?_
  rotate_left
  · intro w
    go_simp
    try (with_reducible rfl)
  try simp only [Act.put, List.setIfInBounds_toArray, List.set_cons_zero, List.set_cons_succ]
  refine tl_do (i := 6) rfl (by kernel_rfl) (by rfl) (fun K hK => ?_)
  go_simp
  go_at_call 36
  refine (kN.out _).mono ?_; rintro e w19 ⟨rfl, hw1⟩
  have hw2 := hw1.symm
  subst hw2
  clear hw1
  try go_wp2_with fail
  refine hK.out _ _ (hHeld) (fun hHeld1 => ?_)
  clear hK K hHeld
  have hHeld := hHeld1
  clear hHeld1
  try simp only [Act.put, List.setIfInBounds_toArray, List.set_cons_zero, List.set_cons_succ]
  refine tl_p (i := 7) (v := ?_) rfl (by rfl) (by kernel_rfl) (by kernel_rfl) (by kernel_rfl) (fun _ _ _ h => h) (by rfl) hHeld ?_ ?_
  rotate_left
  · intro w
    go_simp
    try (with_reducible rfl)
  try simp only [Act.put, List.setIfInBounds_toArray, List.set_cons_zero, List.set_cons_succ]
  refine tl_p (i := 8) (v := ?_) rfl (by rfl) (by kernel_rfl) (by kernel_rfl) (by kernel_rfl) (fun _ _ _ h => h) (by rfl) hHeld ?_ ?_
  rotate_left
  · intro w
    go_simp
    try (with_reducible rfl)
  try simp only [Act.put, List.setIfInBounds_toArray, List.set_cons_zero, List.set_cons_succ]
  refine tl_p (i := 9) (v := ?_) rfl (by rfl) (by kernel_rfl) (by kernel_rfl) (by kernel_rfl) (fun _ _ _ h => h) (by rfl) hHeld ?_ ?_
  rotate_left
  · intro w
    go_simp
    try (with_reducible rfl)
  try simp only [Act.put, List.setIfInBounds_toArray, List.set_cons_zero, List.set_cons_succ]
  refine tl_p (i := 10) (v := ?_) rfl (by rfl) (by kernel_rfl) (by kernel_rfl) (by kernel_rfl) (fun _ _ _ h => h) (by rfl) hHeld ?_ ?_
  rotate_left
  · intro w
    go_simp
    try (with_reducible rfl)
  try simp only [Act.put, List.setIfInBounds_toArray, List.set_cons_zero, List.set_cons_succ]
  refine tl_late (by kernel_rfl) ?_
  refine any_do (i := 11) rfl (by kernel_rfl) (by rfl) (fun K hK => ?_)
  go_simp
  refine hK.out _ _ ?_
  clear hK K
  try simp only [Act.put, List.setIfInBounds_toArray, List.set_cons_zero, List.set_cons_succ]
  refine wpAny_done (by kernel_rfl) ?_ _
  clear hHeld
  go_wp2_with fail
  go_ret
  exact ⟨rfl, ⟨_, _, _, hst.out.1.below (Below.drew (Below.refl _ _))⟩, (hkp9.out.trans hst.out.2).trans (Keeps.of_below (Below.drew (Below.refl _ _))), hF'.out⟩
end Go.Proofs.Ytbfcaapompkjhaa
