/-
  log.read by its contract.
-/
import Derived.Test.YtbfcaapompkjhaaHa
import Derived.Test.YtbfcaapompkjhaaHb
set_option linter.unusedVariables false
set_option linter.unusedSimpArgs false
namespace Go.Proofs.Ytbfcaapompkjhaa
open Go.RowKit Go.Proofs.PosteMem
attribute [local go_sem ↓] Go.wp_at_zero Go.wp_at_succ

/-- The size that a head spells. -/
def lsz (b : List Int) : Int := wrap64 (rnum (rtake (rtake (rtext (some b)) 8).2 8).2 8)
def nextOk (D : Dk) (g : Lg) : Prop := 0 ≤ lsz (D.read g.nx) ∧ fitsB g.en g.nx (lsz (D.read g.nx)) = true ∧ D.read g.nx = headB g.ep (g.recs.length + 1) (lsz (D.read g.nx))
def Lg.with (g : Lg) (b : List Int) (n : Int) : Lg := ⟨g.at', g.en, g.nx + (1 + needI n), g.ep, g.recs ++ [b], g.failed⟩
open Classical in
/-- A log behind the record that comes next, if there is one. -/
noncomputable def lnext (D : Dk) (g : Lg) : Option Lg := if nextOk D g then some (g.with (D.get (g.nx + 1) (lsz (D.read g.nx))) (lsz (D.read g.nx))) else none
structure Small (g : Lg) : Prop where
  en0 : 0 ≤ g.en
  en1 : g.en ≤ 10000
  nx0 : 0 ≤ g.nx
  nx1 : g.nx ≤ 10000
  few : g.recs.length ≤ 10000

set_option maxRecDepth 100000 in
set_option maxHeartbeats 8000000 in
theorem lread_any {w W : World} {p q : Nat} {D : Dk} {g : Lg} {K : Nat → Prop} (h : Lo w W p q D g K) (hk : D.ok) (hf : Fit D) (hs : Small g) :
    Calls Try.prog 67 #[.pointer (some ⟨q, 0, none⟩)] W fun e w' => e = .returned (.bool (lnext D g).isSome) ∧ Lo w w' p q D ((lnext D g).getD g) K ∧ Keeps K W w' := by
  obtain ⟨i0, hi0, hz0, hz1, hz2⟩ := info_parts infoBs
  obtain ⟨r, hr1⟩ : ∃ r, r = lnext D g := ⟨_, rfl⟩
  rw [← hr1]
  have hr2 : nextOk D g → r = some (g.with (D.get (g.nx + 1) (lsz (D.read g.nx))) (lsz (D.read g.nx))) := fun hh => by rw [hr1]; unfold lnext; rw [if_pos hh]
  have hr3 : ¬ nextOk D g → r = none := fun hh => by rw [hr1]; unfold lnext; rw [if_neg hh]
  clear hr1
  unfold nextOk at hr2 hr3
  unfold Lg.with at hr2
  obtain ⟨s1, s2, s3, s4, s5⟩ := hs
  obtain ⟨at', en, nx, ep', recs, fl⟩ := g
  simp only at s1 s2 s3 s4 s5 hr2 hr3
  obtain ⟨v, hs, M, hL⟩ := h
  obtain ⟨Av, cv, rfl, _, _, _⟩ := own_shape hL.row
  have c0 : W.cell? ⟨q, 0, none⟩ = some (.pointer (some ⟨p, 0, none⟩)) := hL.box.cell 0
  have c2 : W.cell? ⟨q, 2, none⟩ = some (.int .i64 en) := hL.box.cell 2
  have c3 : W.cell? ⟨q, 3, none⟩ = some (.int .i64 nx) := hL.box.cell 3
  have c4 : W.cell? ⟨q, 4, none⟩ = some (.int .i64 ep') := hL.box.cell 4
  have c5 : W.cell? ⟨q, 5, none⟩ = some (.slice Av recs.length cv) := hL.box.cell 5
  have hql := hL.box.lt
  have k1 := Lib.hid (fun W' (hW : Below W.heap.size W W') => hd_read (hL.hd.below hW) hk nx)
  have hbl : byteL (D.read nx) := hf.read _
  have hlen : (D.read nx).length ≤ 64 := by
    unfold Dk.read
    split
    · rw [hk.bytes _ (List.getElem_mem _)]; omega
    · simp
  have hr := rnum_range hbl
  have hps : wrap64 (rnum (rtake (rtake (rtext (some (D.read nx))) 8).2 8).2 8) = lsz (D.read nx) := rfl
  have hs2 := wrap64_range (rnum (rtake (rtake (rtext (some (D.read nx))) 8).2 8).2 8)
  rw [hps] at hs2
  have kG := Lib.hid (fun W' M' (hL' : LoAt w W' p q D ⟨at', en, nx, ep', recs, fl⟩ K (.slice Av recs.length cv) hs M') => hd_get hL'.hd hk (nx + 1) (lsz (D.read nx)))
  generalize D.read nx = b at *
  generalize lsz b = S at *
  generalize D.get (nx + 1) S = img at *
  have hneed := needI_le (n := S) (by omega)
  have kN := Lib.hid (fun W' => need_any W' S (by omega))
  replace hL := Lib.hid hL
  replace hr2 := Lib.hid hr2
  replace hr3 := Lib.hid hr3
  go_enter Try.func67, Try.ntmps67
  go_upto_region 1 with fail
  refine tl_begin (fun (w' : World) => (w'.cell? ⟨q, 0, none⟩ = some (.pointer (some ⟨p, 0, none⟩)) ∧ w'.cell? ⟨q, 3, none⟩ = some (.int .i64 nx))) [] (by kernel_rfl) (⟨c0, c3⟩) (fun hHeld => ?_)
  refine tl_p (i := 0) (v := ?_) rfl (by rfl) (by kernel_rfl) (by kernel_rfl) (by kernel_rfl) (fun _ _ _ h => h) (by rfl) hHeld ?_ ?_
  rotate_left
  · intro w
    go_simp
    try (with_reducible rfl)
  try simp only [Act.put, List.setIfInBounds_toArray, List.set_cons_zero, List.set_cons_succ]
  refine tl_p (i := 1) (v := ?_) rfl (by rfl) (by kernel_rfl) (by kernel_rfl) (by kernel_rfl) (fun _ _ _ h => h) (by rfl) hHeld ?_ ?_
  rotate_left
  · intro w
    go_simp
    try (with_reducible rfl)
  try simp only [Act.put, List.setIfInBounds_toArray, List.set_cons_zero, List.set_cons_succ]
  refine tl_p (i := 2) (v := ?_) rfl (by rfl) (by kernel_rfl) (by kernel_rfl) (by kernel_rfl) (fun _ _ _ h => h) (by rfl) hHeld ?_ ?_
  rotate_left
  · intro w
    go_simp
    try (with_reducible rfl)
  try simp only [Act.put, List.setIfInBounds_toArray, List.set_cons_zero, List.set_cons_succ]
  refine tl_w (i := 3) (v := ?_) rfl (by rfl) (by kernel_rfl) (by kernel_rfl) (by kernel_rfl) (by kernel_rfl) (by kernel_rfl) (fun _ _ _ h => h) (by rfl) hHeld ?_ ?_
  rotate_left
  · intro w hSw
    try dsimp only at hSw
    go_simp
    try (with_reducible rfl)
  try simp only [Act.put, List.setIfInBounds_toArray, List.set_cons_zero, List.set_cons_succ]
  refine tl_p (i := 4) (v := ?_) rfl (by rfl) (by kernel_rfl) (by kernel_rfl) (by kernel_rfl) (fun _ _ _ h => h) (by rfl) hHeld ?_ ?_
  rotate_left
  · intro w
    go_simp
    try (with_reducible rfl)
  try simp only [Act.put, List.setIfInBounds_toArray, List.set_cons_zero, List.set_cons_succ]
  refine tl_p (i := 5) (v := ?_) rfl (by rfl) (by kernel_rfl) (by kernel_rfl) (by kernel_rfl) (fun _ _ _ h => h) (by rfl) hHeld ?_ ?_
  rotate_left
  · intro w
    go_simp
    try (with_reducible rfl)
  try simp only [Act.put, List.setIfInBounds_toArray, List.set_cons_zero, List.set_cons_succ]
  refine tl_p (i := 6) (v := ?_) rfl (by rfl) (by kernel_rfl) (by kernel_rfl) (by kernel_rfl) (fun _ _ _ h => h) (by rfl) hHeld ?_ ?_
  rotate_left
  · intro w
    go_simp
    try (with_reducible rfl)
  try simp only [Act.put, List.setIfInBounds_toArray, List.set_cons_zero, List.set_cons_succ]
  refine tl_w (i := 7) (v := ?_) rfl (by rfl) (by kernel_rfl) (by kernel_rfl) (by kernel_rfl) (by kernel_rfl) (by kernel_rfl) (fun _ _ _ h => h) (by rfl) hHeld ?_ ?_
  rotate_left
  · intro w hSw
    try dsimp only at hSw
    go_simp
    try (with_reducible rfl)
  try simp only [Act.put, List.setIfInBounds_toArray, List.set_cons_zero, List.set_cons_succ]
  refine tl_do (i := 8) rfl (by kernel_rfl) (by rfl) (fun K hK => ?_)
  go_simp
  go_at_call 21
  refine (k1.out _ (Below.drew (Below.refl _ _))).mono ?_; rintro e w1 ⟨v1, rfl, ho1, hb1⟩
  have hv1 : VB w1 v1 b := ho1.view
  have hbk := fun x (hx : blockOf v1 = some x) => own_lt ho1 ((block_own v1).symm.trans hx)
  obtain ⟨A1, c1, rfl, _, _, _⟩ := own_shape ho1
  have hB1 := below_then (Below.drew (Below.refl W.heap.size W)) hb1
  try go_wp2_with fail
  refine hK.out _ _ (⟨(hB1.cell (p := ⟨q, 0, none⟩) hql).trans c0, (hB1.cell (p := ⟨q, 3, none⟩) hql).trans c3⟩) (fun hHeld1 => ?_)
  clear hK K hHeld
  have hHeld := hHeld1
  clear hHeld1
  try simp only [Act.put, List.setIfInBounds_toArray, List.set_cons_zero, List.set_cons_succ]
  refine tl_p (i := 9) (v := ?_) rfl (by rfl) (by kernel_rfl) (by kernel_rfl) (by kernel_rfl) (fun _ _ _ h => h) (by rfl) hHeld ?_ ?_
  rotate_left
  · intro w
    go_simp
    try (with_reducible rfl)
  try simp only [Act.put, List.setIfInBounds_toArray, List.set_cons_zero, List.set_cons_succ]
  refine till_done (by kernel_rfl) ?_ _
  clear hHeld hb1
  have k2 := Lib.hid (reader_any w1 _ b hv1 (by omega))
  clear k1 ho1
  go_wp2_with fail
  refine k2.out.mono ?_; rintro e w2 ⟨q2, rfl, hq, hr2', hb2⟩
  have hB2 := below_then hB1 hb2
  have hv2 := View.below hv1 hb2
  have k3 := Lib.hid (rtext_any w2 q2 _ hr2' hr.1 hr.2)
  clear k2 hr2' hv1 hr
  go_wp2_with fail
  refine k3.out.mono ?_; rintro e w3 ⟨⟨s3', rfl⟩, hr3', hu3⟩
  have k4 := Lib.hid (rint_any w3 q2 _ hr3')
  clear k3 hr3'
  go_wp2_with fail
  refine k4.out.mono ?_; rintro e w4 ⟨rfl, hr4, hu4⟩
  have k5 := Lib.hid (rint_any w4 q2 _ hr4)
  clear k4 hr4
  go_wp2_with fail
  refine k5.out.mono ?_; rintro e w5 ⟨rfl, hr5, hu5⟩
  have k6 := Lib.hid (rint_any w5 q2 _ hr5)
  clear k5 hr5
  go_wp2_with fail
  refine k6.out.mono ?_; rintro e w6 ⟨rfl, hr6, hu6⟩
  rw [hps]
  have hu := ((hu3.trans hu4 (fun _ _ h => h)).trans hu5 (fun _ _ h => h)).trans hu6 (fun _ _ h => h)
  have hB6 := hB2.trans (hu.below hB2.size (fun b' e => by rw [e]; have := hB1.size; omega))
  have hv6 := Lib.hid (View.upd hv2 hu (fun b' e1 e2 => by have := (hbk b' e1).2; omega))
  have hL6 := hL.out.below hB6
  have d2 : w6.cell? ⟨q, 2, none⟩ = some (.int .i64 en) := hL6.box.cell 2
  have d3 : w6.cell? ⟨q, 3, none⟩ = some (.int .i64 nx) := hL6.box.cell 3
  have d4 : w6.cell? ⟨q, 4, none⟩ = some (.int .i64 ep') := hL6.box.cell 4
  have d5 : w6.cell? ⟨q, 5, none⟩ = some (.slice Av recs.length cv) := hL6.box.cell 5
  have hql6 := hL6.box.lt
  replace hB6 := Lib.hid hB6
  clear k6 hr6 hu3 hu4 hu5 hu6 hu hv2 hB2 hB1 hb2 hbk hps hq c0 c2 c3 c4 c5 hL6
  have kF := Lib.hid (fits_any w6 q en nx S d2 d3 s1 (by omega) s3 (by omega) (by omega))
  have kH := Lib.hid (headL_any w6 q ep' (recs.length + 1) S hql6 d4)
  have hLb := fun W' (hW : Below W.heap.size W W') => hL.out.below hW
  have hcase : S < 0 ∨ (0 ≤ S ∧ fitsB en nx S = false) ∨ (0 ≤ S ∧ fitsB en nx S = true) := by
    cases fitsB en nx S
    · by_cases h : S < 0
      · exact .inl h
      · exact .inr (.inl ⟨by omega, rfl⟩)
    · by_cases h : S < 0
      · exact .inl h
      · exact .inr (.inr ⟨by omega, rfl⟩)
  rcases hcase with g1 | ⟨g1, g2⟩ | ⟨g1, g2⟩
  · obtain rfl := hr3.out (fun hh => by omega)
    clear hr2 hr3
    go_wp2_with fail
    go_ret
    exact ⟨rfl, ⟨_, _, _, hLb _ hB6.out⟩, Keeps.of_below hB6.out⟩
  · obtain rfl := hr3.out (fun hh => by rw [g2] at hh; cases hh.2.1)
    clear hr2 hr3
    rw [g2] at kF
    have q1 : ¬ S < 0 := by omega
    go_wp2_with fail
    refine kF.out.mono ?_; rintro e w7 ⟨rfl, hb7⟩
    have hB7 := Lib.hid (below_then hB6.out hb7)
    clear hb7
    go_wp2_with fail
    go_ret
    exact ⟨rfl, ⟨_, _, _, hLb _ hB7.out⟩, Keeps.of_below hB7.out⟩
  have q1 : ¬ S < 0 := by omega
  rw [g2] at kF
  have g3 : 1 ≤ en - nx ∧ needI S ≤ en - nx - 1 := by unfold fitsB at g2; exact of_decide_eq_true g2
  go_wp2_with fail
  refine kF.out.mono ?_; rintro e w7 ⟨rfl, hb7⟩
  have hB7 := Lib.hid (below_then hB6.out hb7)
  have y4 := (hb7.cell (p := ⟨q, 4, none⟩) hql6).trans d4
  have y5 := (hb7.cell (p := ⟨q, 5, none⟩) hql6).trans d5
  have hql7 : q < w7.heap.size := by have := hb7.size; omega
  have hv7 := Lib.hid (View.below hv6.out hb7)
  have kH7 := Lib.hid (headL_any w7 q ep' (recs.length + 1) S hql7 y4)
  clear kF kH hb7 hv6
  go_wp2_with fail
  refine kH7.out.mono ?_; rintro e w8 ⟨v8, rfl, ho8, hb8⟩
  have kE := Lib.hid (equalB w8 _ v8 b _ (View.below hv7.out hb8) ho8.view (by omega))
  have hB8 := Lib.hid (below_then hB7.out hb8)
  obtain ⟨A8, c8, rfl, _, _, _⟩ := own_shape ho8
  clear kH7 ho8 hb8 hv7
  by_cases hbe : b = headB ep' (recs.length + 1) S
  · rw [decide_eq_true hbe] at kE
    obtain rfl := hr2.out ⟨g1, g2, hbe⟩
    clear hr2 hr3
    replace hbe := Lib.hid hbe
    have hnd : needI S ≤ 10000 := by omega
    have ew1 : IntKind.i64.wrap (nx + 1) = nx + 1 := by rw [IntKind.wrap_i64]; omega
    have ew2 : IntKind.i64.wrap (1 + needI S) = 1 + needI S := by rw [IntKind.wrap_i64]; omega
    have ew3 : IntKind.i64.wrap (nx + (1 + needI S)) = nx + (1 + needI S) := by rw [IntKind.wrap_i64]; omega
    go_wp2_with fail
    refine kE.out.mono ?_; rintro e w8' ⟨rfl, hb8'⟩
    have hB9 := below_then hB8.out hb8'
    have hLo := hLb _ hB9
    clear kE hb8' hB8 hB7 hB6 hL hLb d2 d3 d4 d5 y4 y5 hql6 hql7
    have hL := hLo
    have z0 : w8'.cell? ⟨q, 0, none⟩ = some (.pointer (some ⟨p, 0, none⟩)) := hLo.box.cell 0
    have z3 : w8'.cell? ⟨q, 3, none⟩ = some (.int .i64 nx) := hLo.box.cell 3
    have z5 : w8'.cell? ⟨q, 5, none⟩ = some (.slice Av recs.length cv) := hLo.box.cell 5
    have hLd := hL.below (W' := w8'.drew) (Below.drew (Below.refl w8'.heap.size w8'))
    have kG9 := Lib.hid (kG.out w8'.drew M hLd)
    replace hLd := Lib.hid hLd
    replace hL := Lib.hid hL
    clear hLo kG
    replace hB9 := Lib.hid hB9
    go_upto_region 9 with fail
    refine tl_begin (fun (w' : World) => (w'.cell? ⟨q, 0, none⟩ = some (.pointer (some ⟨p, 0, none⟩)) ∧ w'.cell? ⟨q, 3, none⟩ = some (.int .i64 nx) ∧ w'.cell? ⟨q, 5, none⟩ = some (.slice Av recs.length cv))) [20] (by kernel_rfl) (⟨z0, z3, z5⟩) (fun hHeld => ?_)
    refine tl_p (i := 0) (v := ?_) rfl (by rfl) (by kernel_rfl) (by kernel_rfl) (by kernel_rfl) (fun _ _ _ h => h) (by rfl) hHeld ?_ ?_
    rotate_left
    · intro w
      go_simp
      try (with_reducible rfl)
    try simp only [Act.put, List.setIfInBounds_toArray, List.set_cons_zero, List.set_cons_succ]
    refine tl_p (i := 1) (v := ?_) rfl (by rfl) (by kernel_rfl) (by kernel_rfl) (by kernel_rfl) (fun _ _ _ h => h) (by rfl) hHeld ?_ ?_
    rotate_left
    · intro w
      go_simp
      try (with_reducible rfl)
    try simp only [Act.put, List.setIfInBounds_toArray, List.set_cons_zero, List.set_cons_succ]
    refine tl_p (i := 2) (v := ?_) rfl (by rfl) (by kernel_rfl) (by kernel_rfl) (by kernel_rfl) (fun _ _ _ h => h) (by rfl) hHeld ?_ ?_
    rotate_left
    · intro w
      go_simp
      try (with_reducible rfl)
    try simp only [Act.put, List.setIfInBounds_toArray, List.set_cons_zero, List.set_cons_succ]
    refine tl_p (i := 3) (v := ?_) rfl (by rfl) (by kernel_rfl) (by kernel_rfl) (by kernel_rfl) (fun _ _ _ h => h) (by rfl) hHeld ?_ ?_
    rotate_left
    · intro w
      go_simp
      try (with_reducible rfl)
    try simp only [Act.put, List.setIfInBounds_toArray, List.set_cons_zero, List.set_cons_succ]
    refine tl_w (i := 4) (v := ?_) rfl (by rfl) (by kernel_rfl) (by kernel_rfl) (by kernel_rfl) (by kernel_rfl) (by kernel_rfl) (fun _ _ _ h => h) (by rfl) hHeld ?_ ?_
    rotate_left
    · intro w hSw
      try dsimp only at hSw
      go_simp
      try (with_reducible rfl)
    try simp only [Act.put, List.setIfInBounds_toArray, List.set_cons_zero, List.set_cons_succ]
    refine tl_p (i := 5) (v := ?_) rfl (by rfl) (by kernel_rfl) (by kernel_rfl) (by kernel_rfl) (fun _ _ _ h => h) (by rfl) hHeld ?_ ?_
    rotate_left
    · intro w
      go_simp
      try (with_reducible rfl)
    try simp only [Act.put, List.setIfInBounds_toArray, List.set_cons_zero, List.set_cons_succ]
    refine tl_p (i := 6) (v := ?_) rfl (by rfl) (by kernel_rfl) (by kernel_rfl) (by kernel_rfl) (fun _ _ _ h => h) (by rfl) hHeld ?_ ?_
    rotate_left
    · intro w
      go_simp
      try (with_reducible rfl)
    try simp only [Act.put, List.setIfInBounds_toArray, List.set_cons_zero, List.set_cons_succ]
    refine tl_p (i := 7) (v := ?_) rfl (by rfl) (by kernel_rfl) (by kernel_rfl) (by kernel_rfl) (fun _ _ _ h => h) (by rfl) hHeld ?_ ?_
    rotate_left
    · intro w
      go_simp
      try (with_reducible rfl)
    try simp only [Act.put, List.setIfInBounds_toArray, List.set_cons_zero, List.set_cons_succ]
    refine tl_w (i := 8) (v := ?_) rfl (by rfl) (by kernel_rfl) (by kernel_rfl) (by kernel_rfl) (by kernel_rfl) (by kernel_rfl) (fun _ _ _ h => h) (by rfl) hHeld ?_ ?_
    rotate_left
    · intro w hSw
      try dsimp only at hSw
      go_simp
      try (with_reducible rfl)
    try simp only [Act.put, List.setIfInBounds_toArray, List.set_cons_zero, List.set_cons_succ]
    refine tl_p (i := 9) (v := ?_) rfl (by rfl) (by kernel_rfl) (by kernel_rfl) (by kernel_rfl) (fun _ _ _ h => h) (by rfl) hHeld ?_ ?_
    rotate_left
    · intro w
      go_simp
      try (with_reducible rfl)
    try simp only [Act.put, List.setIfInBounds_toArray, List.set_cons_zero, List.set_cons_succ]
    refine tl_p (i := 10) (v := ?_) rfl (by rfl) (by kernel_rfl) (by kernel_rfl) (by kernel_rfl) (fun _ _ _ h => h) (by rfl) hHeld ?_ ?_
    rotate_left
    · intro w
      go_simp
      try (with_reducible rfl)
    try simp only [Act.put, List.setIfInBounds_toArray, List.set_cons_zero, List.set_cons_succ]
    refine tl_p (i := 11) (v := ?_) rfl (by rfl) (by kernel_rfl) (by kernel_rfl) (by kernel_rfl) (fun _ _ _ h => h) (by rfl) hHeld ?_ ?_
    rotate_left
    · intro w
      go_simp
      try (with_reducible rfl)
    try simp only [Act.put, List.setIfInBounds_toArray, List.set_cons_zero, List.set_cons_succ]
    refine tl_w (i := 12) (v := ?_) rfl (by rfl) (by kernel_rfl) (by kernel_rfl) (by kernel_rfl) (by kernel_rfl) (by kernel_rfl) (fun _ _ _ h => h) (by rfl) hHeld ?_ ?_
    rotate_left
    · intro w hSw
      try dsimp only at hSw
      go_simp
      try (with_reducible rfl)
    try simp only [Act.put, List.setIfInBounds_toArray, List.set_cons_zero, List.set_cons_succ]
    refine tl_p (i := 13) (v := ?_) rfl (by rfl) (by kernel_rfl) (by kernel_rfl) (by kernel_rfl) (fun _ _ _ h => h) (by rfl) hHeld ?_ ?_
    rotate_left
    · intro w
      go_simp
      try (with_reducible rfl)
    try simp only [Act.put, List.setIfInBounds_toArray, List.set_cons_zero, List.set_cons_succ]
    refine tl_p (i := 14) (v := ?_) rfl (by rfl) (by kernel_rfl) (by kernel_rfl) (by kernel_rfl) (fun _ _ _ h => h) (by rfl) hHeld ?_ ?_
    rotate_left
    · intro w
      go_simp
      try (with_reducible rfl)
    try simp only [Act.put, List.setIfInBounds_toArray, List.set_cons_zero, List.set_cons_succ]
    refine tl_do (i := 15) rfl (by kernel_rfl) (by rfl) (fun K hK => ?_)
    go_simp
    go_at_call 35
    refine kG9.out.mono ?_; rintro e w9 ⟨v9, rfl, hv9, hb9, hx9'⟩
    have hx9 := Lib.hid hx9'
    clear hx9'
    obtain ⟨A9, c9, rfl, _⟩ := hv9.cells
    replace hv9 := Lib.hid (show VB w9 (.slice A9 img.length c9) img from hv9)
    have hL9 := hLd.out.grow hb9
    have y0 : w9.cell? ⟨q, 0, none⟩ = some (.pointer (some ⟨p, 0, none⟩)) := hL9.box.cell 0
    have y3 : w9.cell? ⟨q, 3, none⟩ = some (.int .i64 nx) := hL9.box.cell 3
    have y5 : w9.cell? ⟨q, 5, none⟩ = some (.slice Av recs.length cv) := hL9.box.cell 5
    replace hL9 := Lib.hid hL9
    try go_wp2_with fail
    refine hK.out _ _ (⟨y0, y3, y5⟩) (fun hHeld1 => ?_)
    clear hK K hHeld
    have hHeld := hHeld1
    clear hHeld1
    try simp only [Act.put, List.setIfInBounds_toArray, List.set_cons_zero, List.set_cons_succ]
    refine tl_do (i := 16) rfl (by kernel_rfl) (by rfl) (fun K hK => ?_)
    go_simp
    refine hK.out _ _ (⟨(hL9.out.box.alloc _).cell 0, (hL9.out.box.alloc _).cell 3, (hL9.out.box.alloc _).cell 5⟩) (fun hHeld1 => ?_)
    clear hK K hHeld
    have hHeld := hHeld1
    clear hHeld1
    try simp only [Act.put, List.setIfInBounds_toArray, List.set_cons_zero, List.set_cons_succ]
    refine tl_do (i := 17) rfl (by kernel_rfl) (by rfl) (fun K hK => ?_)
    have hLa := hL9.out.below ((Below.refl w9.heap.size w9).alloc (Nat.le_refl _) (.cells #[.slice A9 img.length c9] 27))
    have hva := View.alloc hv9.out (.cells #[.slice A9 img.length c9] 27)
    refine wp_append_view _ (.tmp 51) (.tmp 63) _ rfl w.heap.size 27 i0 (.slice none 0 0) 1 24 Try.underlying41 hi0 hz0 hz1 hz2 rfl (by omega) (.slice Av recs.length cv) recs.length hs rfl hLa.row (.slice (some ⟨w9.heap.size, 0, none⟩) 1 1) 1 [.slice A9 img.length c9] rfl (View.boxAt _ _ _ _ rfl rfl) (by intro u hu; simp only [List.mem_cons, List.not_mem_nil, or_false] at hu; rcases hu with rfl; rfl) (by omega) (by simp only [maxLen]; omega) hLa.acc.size ?_
    intro v2 w2 hown2 hg2 hat2
    have hsz9 := hb9.size
    have hadd := hLa.add (v' := v2) (hd' := .slice A9 img.length c9) (b := img) hg2 hown2 hat2 (View.upd hva (Upd.of_grown (S := fun b => (Value.slice Av recs.length cv).ownBlock = some b) hg2 (fun _ e => e)) (fun b hb e => by have h1 := hx9.out b hb; have h2 := hd_in hL.out.hd (b := b) (.inr (hL.out.mv b e)); simp at h1; omega)) (fun x hx => by
      have h1 := hx9.out x hx
      have h1' : w8'.heap.size ≤ x := h1.1
      have h2 := hd_in hL.out.hd (b := q) (.inr hL.out.mq)
      exact ⟨fun e => by omega, fun e => by have h3 := hd_in hL.out.hd (b := x) (.inr (hL.out.mv x e)); omega, .inr h1⟩)
    have x2 := Lib.hid (show Whole w2 q 88 (Lg.cells ⟨at', en, nx, ep', recs, fl⟩ p (.slice Av recs.length cv)) from hLa.box.grown hg2 hLa.mq_ne)
    have kp2 := Lib.hid hadd.2
    replace hadd := Lib.hid hadd.1
    obtain ⟨A2, c2', rfl, _, _, _⟩ := own_shape hown2
    clear hg2 hown2 hLa hva
    refine hK.out _ _ (⟨x2.out.cell 0, x2.out.cell 3, x2.out.cell 5⟩) (fun hHeld1 => ?_)
    clear hK K hHeld
    have hHeld := hHeld1
    clear hHeld1
    try simp only [Act.put, List.setIfInBounds_toArray, List.set_cons_zero, List.set_cons_succ]
    refine tl_p (i := 18) (v := ?_) rfl (by rfl) (by kernel_rfl) (by kernel_rfl) (by kernel_rfl) (fun _ _ _ h => h) (by rfl) hHeld ?_ ?_
    rotate_left
    · intro w
      go_simp
      try (with_reducible rfl)
    try simp only [Act.put, List.setIfInBounds_toArray, List.set_cons_zero, List.set_cons_succ]
    refine tl_p (i := 19) (v := ?_) rfl (by rfl) (by kernel_rfl) (by kernel_rfl) (by kernel_rfl) (fun _ _ _ h => h) (by rfl) hHeld ?_ ?_
    rotate_left
    · intro w
      go_simp
      try (with_reducible rfl)
    try simp only [Act.put, List.setIfInBounds_toArray, List.set_cons_zero, List.set_cons_succ]
    refine tl_late (by kernel_rfl) ?_
    refine any_do (i := 20) rfl (by kernel_rfl) (by rfl) (fun K hK => ?_)
    have d0 : w2.cell? ⟨q, 5, none⟩ = some (.slice Av recs.length cv) := x2.out.cell 5
    have e0 := x2.out.frozen 5
    have dq := x2.out.lt
    go_simp
    refine hK.out _ _ ?_
    clear hK K
    try simp only [Act.put, List.setIfInBounds_toArray, List.set_cons_zero, List.set_cons_succ]
    refine wpAny_done (by kernel_rfl) ?_ _
    clear hHeld
    have hLa : LoAt w (w2.setCell ⟨q, 5, none⟩ (.slice A2 (recs.length + 1) c2')) p q D ⟨at', en, nx, ep', recs ++ [img], fl⟩ K (.slice A2 (recs.length + 1) c2') (hs ++ [.slice A9 img.length c9]) _ := hadd.out
    have hkp : Keeps K W (w2.setCell ⟨q, 5, none⟩ (.slice A2 (recs.length + 1) c2')) := ((Keeps.of_below hB9.out).trans (Keeps.of_below ((below_then (Below.drew (Below.refl _ _)) hb9).alloc (by have := hb9.size; simpa using this) _))).trans kp2.out
    generalize w2.setCell ⟨q, 5, none⟩ (.slice A2 (recs.length + 1) c2') = W10 at *
    have t3 : W10.cell? ⟨q, 3, none⟩ = some (.int .i64 nx) := hLa.box.cell 3
    have tf3 := hLa.box.frozen 3
    have tql := hLa.box.lt
    have hst := hLa.store (g' := ⟨at', en, nx + (1 + needI S), ep', recs ++ [img], fl⟩) 3 (.int .i64 (nx + (1 + needI S))) rfl rfl
    replace hst := Lib.hid hst
    replace hkp := Lib.hid hkp
    clear hadd kp2 x2 d0 e0 dq hL9 hL z0 z3 z5 y0 y3 y5 hb9 hv9 hx9 hB9 hLa hsz9
    go_upto_region 10 with fail
    refine tl_begin (fun (w' : World) => w'.cell? ⟨q, 3, none⟩ = some (.int .i64 nx)) [10] (by kernel_rfl) (t3) (fun hHeld => ?_)
    refine tl_p (i := 0) (v := ?_) rfl (by rfl) (by kernel_rfl) (by kernel_rfl) (by kernel_rfl) (fun _ _ _ h => h) (by rfl) hHeld ?_ ?_
    rotate_left
    · intro w
      go_simp
      try (with_reducible rfl)
    try simp only [Act.put, List.setIfInBounds_toArray, List.set_cons_zero, List.set_cons_succ]
    refine tl_p (i := 1) (v := ?_) rfl (by rfl) (by kernel_rfl) (by kernel_rfl) (by kernel_rfl) (fun _ _ _ h => h) (by rfl) hHeld ?_ ?_
    rotate_left
    · intro w
      go_simp
      try (with_reducible rfl)
    try simp only [Act.put, List.setIfInBounds_toArray, List.set_cons_zero, List.set_cons_succ]
    refine tl_p (i := 2) (v := ?_) rfl (by rfl) (by kernel_rfl) (by kernel_rfl) (by kernel_rfl) (fun _ _ _ h => h) (by rfl) hHeld ?_ ?_
    rotate_left
    · intro w
      go_simp
      try (with_reducible rfl)
    try simp only [Act.put, List.setIfInBounds_toArray, List.set_cons_zero, List.set_cons_succ]
    refine tl_w (i := 3) (v := ?_) rfl (by rfl) (by kernel_rfl) (by kernel_rfl) (by kernel_rfl) (by kernel_rfl) (by kernel_rfl) (fun _ _ _ h => h) (by rfl) hHeld ?_ ?_
    rotate_left
    · intro w hSw
      try dsimp only at hSw
      go_simp
      try (with_reducible rfl)
    try simp only [Act.put, List.setIfInBounds_toArray, List.set_cons_zero, List.set_cons_succ]
    refine tl_p (i := 4) (v := ?_) rfl (by rfl) (by kernel_rfl) (by kernel_rfl) (by kernel_rfl) (fun _ _ _ h => h) (by rfl) hHeld ?_ ?_
    rotate_left
    · intro w
      go_simp
      try (with_reducible rfl)
    try simp only [Act.put, List.setIfInBounds_toArray, List.set_cons_zero, List.set_cons_succ]
    refine tl_do (i := 5) rfl (by kernel_rfl) (by rfl) (fun K hK => ?_)
    go_simp
    go_at_call 36
    refine (kN.out _).mono ?_; rintro e w19 ⟨rfl, hw1⟩
    have hw2 := hw1.symm
    subst hw2
    clear hw1
    try go_wp2_with fail
    refine hK.out _ _ (hHeld) (fun hHeld1 => ?_)
    clear hK K hHeld
    have hHeld := hHeld1
    clear hHeld1
    try simp only [Act.put, List.setIfInBounds_toArray, List.set_cons_zero, List.set_cons_succ]
    refine tl_p (i := 6) (v := ?_) rfl (by rfl) (by kernel_rfl) (by kernel_rfl) (by kernel_rfl) (fun _ _ _ h => h) (by rfl) hHeld ?_ ?_
    rotate_left
    · intro w
      go_simp
      try (with_reducible rfl)
    try simp only [Act.put, List.setIfInBounds_toArray, List.set_cons_zero, List.set_cons_succ]
    refine tl_p (i := 7) (v := ?_) rfl (by rfl) (by kernel_rfl) (by kernel_rfl) (by kernel_rfl) (fun _ _ _ h => h) (by rfl) hHeld ?_ ?_
    rotate_left
    · intro w
      go_simp
      try (with_reducible rfl)
    try simp only [Act.put, List.setIfInBounds_toArray, List.set_cons_zero, List.set_cons_succ]
    refine tl_p (i := 8) (v := ?_) rfl (by rfl) (by kernel_rfl) (by kernel_rfl) (by kernel_rfl) (fun _ _ _ h => h) (by rfl) hHeld ?_ ?_
    rotate_left
    · intro w
      go_simp
      try (with_reducible rfl)
    try simp only [Act.put, List.setIfInBounds_toArray, List.set_cons_zero, List.set_cons_succ]
    refine tl_p (i := 9) (v := ?_) rfl (by rfl) (by kernel_rfl) (by kernel_rfl) (by kernel_rfl) (fun _ _ _ h => h) (by rfl) hHeld ?_ ?_
    rotate_left
    · intro w
      go_simp
      try (with_reducible rfl)
    try simp only [Act.put, List.setIfInBounds_toArray, List.set_cons_zero, List.set_cons_succ]
    refine tl_late (by kernel_rfl) ?_
    refine any_do (i := 10) rfl (by kernel_rfl) (by rfl) (fun K hK => ?_)
    go_simp
    refine hK.out _ _ ?_
    clear hK K
    try simp only [Act.put, List.setIfInBounds_toArray, List.set_cons_zero, List.set_cons_succ]
    refine wpAny_done (by kernel_rfl) ?_ _
    clear hHeld
    go_wp2_with fail
    go_ret
    exact ⟨rfl, ⟨_, _, _, hst.out.1.below (Below.drew (Below.refl _ _))⟩, (hkp.out.trans hst.out.2).trans (Keeps.of_below (Below.drew (Below.refl _ _)))⟩
  · rw [decide_eq_false hbe] at kE
    obtain rfl := hr3.out (fun hh => hbe hh.2.2)
    clear hr2 hr3
    go_wp2_with fail
    refine kE.out.mono ?_; rintro e w9 ⟨rfl, hb9⟩
    have hB9 := Lib.hid (below_then hB8.out hb9)
    clear hb9
    go_wp2_with fail
    go_ret
    exact ⟨rfl, ⟨_, _, _, hLb _ hB9.out⟩, Keeps.of_below hB9.out⟩
end Go.Proofs.Ytbfcaapompkjhaa
