/-
  cursor.Cursor: New, Seek and Next by their contracts, over a tree that stays.
-/
import Derived.Test.YtegomkgfmaclkaaTp
set_option linter.unusedVariables false
set_option linter.unusedSimpArgs false
namespace Go.Proofs.Ytegomkgfmaclkaa
open Go.RowKit Go.Proofs.PosteOrd Go.Proofs.PosteMem

theorem next_any (k : ByteArray) (w : World) (hk : k.size ≤ 140737488351232) : Calls Try.prog 78 #[.string k] w fun e w' => e = .returned (.string (k ++ ⟨#[0]⟩)) ∧ w = w' := by
  have h1 : ¬ (9223372036854775807 < (k ++ (⟨#[0]⟩ : ByteArray)).size) := by
    have e1 : (⟨#[0]⟩ : ByteArray).size = 1 := rfl
    rw [ByteArray.size_append, e1]
    omega
  go_enter Try.func78, Try.ntmps78
  go_wp2
  go_ret
  exact ⟨rfl, rfl⟩
theorem next_toList (a : ByteArray) : (a ++ (⟨#[0]⟩ : ByteArray)).toList = a.toList ++ [0] := by
  rw [ByteArray.toList_eq, ByteArray.toList_eq]
  simp
/-- A tree whose parts all lie below c. -/
def Frz (W : World) (c g : Nat) (L : List Row) : Prop := ∃ h, ∃ t : T h, ∃ q, Whole W g 111 #[.pointer (pa h q), .pointer (pb h q), .int .i64 ((h : Int) + 1)] ∧ PAt W (fun b => b < c ∧ b ≠ g) h q t ∧ Top h t ∧ rowsT h t = L ∧ g < c
theorem Frz.tr {W : World} {c g : Nat} {L : List Row} (H : Frz W c g L) : Tr W g L := by
  obtain ⟨h, t, q, h1, h2, h3, h4, _⟩ := H
  exact ⟨h, t, ⟨q, h1, PAt.mono (fun b hb => hb.2) h q t h2, h3⟩, h4⟩
theorem Tr.frz {W : World} {g : Nat} {L : List Row} (H : Tr W g L) : Frz W W.heap.size g L := by
  obtain ⟨h, t, ⟨q, h1, h2, h3⟩, h4⟩ := H
  exact ⟨h, t, q, h1, PAt.mono (fun b hb => ⟨hb.2, hb.1⟩) h q t (PAt.lt h q t h2), h3, h4, h1.lt⟩
theorem Frz.keep {W W' : World} {c g : Nat} {L : List Row} (H : Frz W c g L) (k : Keeps (fun b => b < c) W W') : Frz W' c g L := by
  obtain ⟨h, t, q, h1, h2, h3, h4, h5⟩ := H
  exact ⟨h, t, q, k.whole h1 h5, PAt.keep (k.mono fun b hb => hb.1) h q t h2, h3, h4, h5⟩
theorem Frz.below {W W' : World} {c g : Nat} {L : List Row} (H : Frz W c g L) (k : Below W.heap.size W W') : Frz W' c g L := H.keep (Keeps.of_below k)
theorem Frz.upd {W W' : World} {c g : Nat} {L : List Row} (H : Frz W c g L) (k : Upd (fun b => b = c) W W') : Frz W' c g L := H.keep ⟨_, k, fun b hb e => by omega⟩
/-- A cursor in box c, over a tree. -/
def Cu (W : World) (c g : Nat) (at' : ByteArray) (L : List Row) : Prop := Whole W c 113 #[ptr g, .string at'] ∧ Frz W c g L
theorem Cu.below {W W' : World} {c g : Nat} {at' : ByteArray} {L : List Row} (H : Cu W c g at' L) (k : Below W.heap.size W W') : Cu W' c g at' L := ⟨H.1.below k, H.2.below k⟩
theorem new_of {B : Nat} {w0 w : World} (_ : Below B w0 w) (t : TypeId) (cs : Array Value) : Whole (w.alloc (.cells cs t)) w.heap.size t cs := Whole.new w t cs
theorem cnew_any {w : World} {g : Nat} {L : List Row} (H : Tr w g L) : Calls Try.prog 41 #[ptr g] w fun e w' => e = .returned (ptr w.heap.size) ∧ Cu w' w.heap.size g ⟨#[]⟩ L ∧ Below w.heap.size w w' := by
  have hF := H.frz
  have hb := (Below.refl w.heap.size w).alloc (Nat.le_refl _) (.cells #[ptr g, .string ⟨#[]⟩] 113)
  have hx := Whole.new w 113 #[ptr g, .string ⟨#[]⟩]
  have hF2 := hF.below hb
  clear H hF
  go_enter Try.func41, Try.ntmps41
  go_wp2_with fail
  go_ret
  exact ⟨rfl, ⟨hx, hF2⟩, hb⟩
theorem cseek_any {w : World} {c g : Nat} {at' key : ByteArray} {L : List Row} (H : Cu w c g at' L) : Calls Try.prog 42 #[ptr c, .string key] w fun e w' => e = .returned (.tuple #[]) ∧ Cu w' c g key L ∧ Upd (fun b => b = c) w w' := by
  obtain ⟨hx, hF⟩ := H
  have c1 : w.cell? ⟨c, 1, none⟩ = some (.string at') := hx.cell 1
  have f1 := hx.frozen 1
  have hl := hx.lt
  have hx2 := hx.set 1 (.string key)
  have hu : Upd (fun b => b = c) w (w.setCell ⟨c, 1, none⟩ (.string key)) := (Upd.refl (fun b => b = c) w).setCell (p := ⟨c, 1, none⟩) (.inr rfl) _
  have hF2 := hF.upd hu
  clear hx hF
  go_enter Try.func42, Try.ntmps42
  go_wp2_with fail
  go_end0
  exact ⟨rfl, ⟨hx2, hF2⟩, hu⟩
def nxt (L : List Row) (at' : ByteArray) : ByteArray := match L[pos L at']? with
  | some r => r.key ++ ⟨#[0]⟩
  | none => at'
theorem set2_cell {w : World} {g i j b o : Nat} {u u' x : Value} (hne : b ≠ g) (h : w.cell? ⟨b, o, none⟩ = some x) : ((w.setCell ⟨g, i, none⟩ u).setCell ⟨g, j, none⟩ u').cell? ⟨b, o, none⟩ = some x :=
  ((upd_set2 (w := w) (g := g) i j u u').cell (p := ⟨b, o, none⟩) (World.block_lt_of_cell? w _ h) hne).trans h
set_option maxRecDepth 100000 in
set_option maxHeartbeats 8000000 in
theorem cnext_any {w : World} {c g : Nat} {at' : ByteArray} {L : List Row} (H : Cu w c g at' L) (hok : RowsOk L) : Calls Try.prog 44 #[ptr c] w fun e w' => e = .returned (resC L[pos L at']?) ∧ Cu w' c g (nxt L at') L ∧ Upd (fun b => b = c) w w' ∧ (L[pos L at']? = none → Below w.heap.size w w') := by
  obtain ⟨hx, hF⟩ := H
  have hb := (Below.refl w.heap.size w).alloc (Nat.le_refl _) (.cells #[.string ⟨#[]⟩, .string ⟨#[]⟩] 31)
  have hr := Whole.new w 31 #[.string ⟨#[]⟩, .string ⟨#[]⟩]
  have hcl := hx.lt
  have d0 : (w.alloc (.cells #[.string ⟨#[]⟩, .string ⟨#[]⟩] 31)).cell? ⟨c, 0, none⟩ = some (ptr g) := kc hb (hx.cell 0)
  have d1 : (w.alloc (.cells #[.string ⟨#[]⟩, .string ⟨#[]⟩] 31)).cell? ⟨c, 1, none⟩ = some (.string at') := kc hb (hx.cell 1)
  have hx1 := hx.below hb
  have hF1 := hF.below hb
  have hnx : nxt L at' = match L[pos L at']? with
    | some r => r.key ++ ⟨#[0]⟩
    | none => at' := rfl
  have hrk : ∀ r, L[pos L at']? = some r → r.key.size ≤ 140737488351232 := fun r hr => hok r (List.mem_of_getElem? hr)
  have kC := fun (W : World) (hW : Below (w.alloc (.cells #[.string ⟨#[]⟩, .string ⟨#[]⟩] 31)).drew.heap.size (w.alloc (.cells #[.string ⟨#[]⟩, .string ⟨#[]⟩] 31)).drew W) => tceil_tr (key := at') ((hF1.below (Below.drew (Below.refl _ _))).below hW).tr
  have hcur := Lib.hid (Below.refl (w.alloc (.cells #[.string ⟨#[]⟩, .string ⟨#[]⟩] 31)).drew.heap.size (w.alloc (.cells #[.string ⟨#[]⟩, .string ⟨#[]⟩] 31)).drew)
  have hsz : (w.alloc (.cells #[.string ⟨#[]⟩, .string ⟨#[]⟩] 31)).heap.size = w.heap.size + 1 := by simp
  generalize L[pos L at']? = res at *
  generalize nxt L at' = nx at *
  have hcne : c ≠ (w.alloc (.cells #[.string ⟨#[]⟩, .string ⟨#[]⟩] 31)).heap.size := by omega
  replace hcne := Lib.hid hcne
  replace kC := Lib.hid kC
  replace hb := Lib.hid hb
  replace hr := Lib.hid hr
  replace hx1 := Lib.hid hx1
  replace hF1 := Lib.hid hF1
  replace hsz := Lib.hid hsz
  clear hx hF
  generalize hw2 : w.alloc (.cells #[.string ⟨#[]⟩, .string ⟨#[]⟩] 31) = w2 at *
  go_enter Try.func44, Try.ntmps44
  go_upto_region 1 with fail
  replace hw2 := Lib.hid hw2
  have c0 : w2.drew.cell? ⟨c, 0, none⟩ = some (ptr g) := d0
  have c1 : w2.drew.cell? ⟨c, 1, none⟩ = some (.string at') := d1
  clear d0 d1
  cases res with
  | none =>
    replace hnx := Lib.hid hnx
    refine tl_begin (fun (w' : World) => w'.cell? ⟨c, 0, none⟩ = some (ptr g) ∧ w'.cell? ⟨c, 1, none⟩ = some (.string at')) [] (by kernel_rfl) (⟨c0, c1⟩) (fun hHeld => ?_)
    refine tl_p (i := 0) (v := ?_) rfl (by rfl) (by kernel_rfl) (by kernel_rfl) (by kernel_rfl) (fun _ _ _ h => h) (by rfl) hHeld ?_ ?_
    rotate_left
    · intro w
      go_simp
      try (with_reducible rfl)
    try simp only [Act.put, List.setIfInBounds_toArray, List.set_cons_zero, List.set_cons_succ]
    refine tl_p (i := 1) (v := ?_) rfl (by rfl) (by kernel_rfl) (by kernel_rfl) (by kernel_rfl) (fun _ _ _ h => h) (by rfl) hHeld ?_ ?_
    rotate_left
    · intro w
      go_simp
      try (with_reducible rfl)
    try simp only [Act.put, List.setIfInBounds_toArray, List.set_cons_zero, List.set_cons_succ]
    refine tl_p (i := 2) (v := ?_) rfl (by rfl) (by kernel_rfl) (by kernel_rfl) (by kernel_rfl) (fun _ _ _ h => h) (by rfl) hHeld ?_ ?_
    rotate_left
    · intro w
      go_simp
      try (with_reducible rfl)
    try simp only [Act.put, List.setIfInBounds_toArray, List.set_cons_zero, List.set_cons_succ]
    refine tl_w (i := 3) (v := ?_) rfl (by rfl) (by kernel_rfl) (by kernel_rfl) (by kernel_rfl) (by kernel_rfl) (by kernel_rfl) (fun _ _ _ h => h) (by rfl) hHeld ?_ ?_
    rotate_left
    · intro w hSw
      try dsimp only at hSw
      go_simp
      try (with_reducible rfl)
    try simp only [Act.put, List.setIfInBounds_toArray, List.set_cons_zero, List.set_cons_succ]
    refine tl_p (i := 4) (v := ?_) rfl (by rfl) (by kernel_rfl) (by kernel_rfl) (by kernel_rfl) (fun _ _ _ h => h) (by rfl) hHeld ?_ ?_
    rotate_left
    · intro w
      go_simp
      try (with_reducible rfl)
    try simp only [Act.put, List.setIfInBounds_toArray, List.set_cons_zero, List.set_cons_succ]
    refine tl_p (i := 5) (v := ?_) rfl (by rfl) (by kernel_rfl) (by kernel_rfl) (by kernel_rfl) (fun _ _ _ h => h) (by rfl) hHeld ?_ ?_
    rotate_left
    · intro w
      go_simp
      try (with_reducible rfl)
    try simp only [Act.put, List.setIfInBounds_toArray, List.set_cons_zero, List.set_cons_succ]
    refine tl_p (i := 6) (v := ?_) rfl (by rfl) (by kernel_rfl) (by kernel_rfl) (by kernel_rfl) (fun _ _ _ h => h) (by rfl) hHeld ?_ ?_
    rotate_left
    · intro w
      go_simp
      try (with_reducible rfl)
    try simp only [Act.put, List.setIfInBounds_toArray, List.set_cons_zero, List.set_cons_succ]
    refine tl_w (i := 7) (v := ?_) rfl (by rfl) (by kernel_rfl) (by kernel_rfl) (by kernel_rfl) (by kernel_rfl) (by kernel_rfl) (fun _ _ _ h => h) (by rfl) hHeld ?_ ?_
    rotate_left
    · intro w hSw
      try dsimp only at hSw
      go_simp
      try (with_reducible rfl)
    try simp only [Act.put, List.setIfInBounds_toArray, List.set_cons_zero, List.set_cons_succ]
    refine tl_two (i := 8) (j := 12) rfl rfl (by kernel_rfl) (by rfl) (by rfl) (fun K hK => ?_) (fun K hK => ?_)
    · go_simp
      go_at_call 77
      refine (kC.out _ hcur.out).mono ?_; rintro e w4 ⟨rfl, hb4⟩
      have hcN := And.intro (kc hb4 hHeld.1) (kc hb4 hHeld.2)
      first | (replace hn := Lib.hid (hn.out.below hb4); have hB0 := True.intro) | have hA0 := True.intro
      replace hcur := Lib.hid (hcur.out.trans (hb4.mono hcur.out.size))
      clear hb4
      simp only [resC]
      try go_wp2_with fail
      refine hK.out _ _ (hcN) (fun hHeld1 => ?_)
      clear hK K hHeld
      have hHeld := hHeld1
      clear hHeld1
      try simp only [Act.put, List.setIfInBounds_toArray, List.set_cons_zero, List.set_cons_succ]
      refine tl_p (i := 9) (v := ?_) rfl (by rfl) (by kernel_rfl) (by kernel_rfl) (by kernel_rfl) (fun _ _ _ h => h) (by rfl) hHeld ?_ ?_
      rotate_left
      · intro w
        go_simp
        try (with_reducible rfl)
      try simp only [Act.put, List.setIfInBounds_toArray, List.set_cons_zero, List.set_cons_succ]
      refine tl_p (i := 10) (v := ?_) rfl (by rfl) (by kernel_rfl) (by kernel_rfl) (by kernel_rfl) (fun _ _ _ h => h) (by rfl) hHeld ?_ ?_
      rotate_left
      · intro w
        go_simp
        try (with_reducible rfl)
      try simp only [Act.put, List.setIfInBounds_toArray, List.set_cons_zero, List.set_cons_succ]
      refine tl_p (i := 11) (v := ?_) rfl (by rfl) (by kernel_rfl) (by kernel_rfl) (by kernel_rfl) (fun _ _ _ h => h) (by rfl) hHeld ?_ ?_
      rotate_left
      · intro w
        go_simp
        try (with_reducible rfl)
      try simp only [Act.put, List.setIfInBounds_toArray, List.set_cons_zero, List.set_cons_succ]
      refine tl_do (i := 12) rfl (by kernel_rfl) (by rfl) (fun K hK => ?_)
      go_simp
      have hn := Lib.hid (new_of hcur.out 31 #[.string ⟨#[]⟩, .string ⟨#[]⟩])
      have hHp := hHeld
      have hcurp := hcur
      have hcur2 := Lib.hid (hcur.out.alloc hcur.out.size (.cells #[.string ⟨#[]⟩, .string ⟨#[]⟩] 31))
      clear hcur
      have hcur := hcur2
      clear hcur2
      refine hK.out _ _ (⟨cell_alloc _ hHeld.1, cell_alloc _ hHeld.2⟩) (fun hHeld1 => ?_)
      clear hK K hHeld
      have hHeld := hHeld1
      clear hHeld1
      try simp only [Act.put, List.setIfInBounds_toArray, List.set_cons_zero, List.set_cons_succ]
      refine tl_do (i := 13) rfl (by kernel_rfl) (by rfl) (fun K hK => ?_)
      have n0 := hn.out.cell 0
      have n1 := hn.out.cell 1
      have m0 := hn.out.frozen 0
      have m1 := hn.out.frozen 1
      have nl := hn.out.lt
      try simp only [show w2.drew.heap.size = w2.heap.size from rfl] at n0 n1 m0 m1 nl
      go_simp
      refine hK.out _ _ (by first | exact ⟨cell_alloc _ hHp.1, cell_alloc _ hHp.2⟩ | exact ⟨set2_cell hcne.out hHeld.1, set2_cell hcne.out hHeld.2⟩) (fun hHeld1 => ?_)
      clear hK K hHeld
      have hHeld := hHeld1
      clear hHeld1
      try simp only [Act.put, List.setIfInBounds_toArray, List.set_cons_zero, List.set_cons_succ]
      clear n0 n1 m0 m1 nl
      first | (have hA := hA0; have hcurF := Lib.hid (hcurp.out.alloc hcurp.out.size (.cells #[(.string ⟨#[]⟩), (.string ⟨#[]⟩)] 31)); have hnF := Lib.hid (new_of hcurp.out 31 #[(.string ⟨#[]⟩), (.string ⟨#[]⟩)]); clear hcur hcurp hn hHp; generalize w4.heap.size = n0 at *; generalize w4.alloc (.cells #[(.string ⟨#[]⟩), (.string ⟨#[]⟩)] 31) = wF at *) | (have hcurF := Lib.hid ((hcur.out.setCell (p := ⟨w2.heap.size, 0, none⟩) (Nat.le_refl _) (.string ⟨#[]⟩)).setCell (p := ⟨w2.heap.size, 1, none⟩) (Nat.le_refl _) (.string ⟨#[]⟩)); have hnF : Hid (Whole ((w4.setCell ⟨w2.heap.size, 0, none⟩ (.string ⟨#[]⟩)).setCell ⟨w2.heap.size, 1, none⟩ (.string ⟨#[]⟩)) w2.heap.size 31 #[(.string ⟨#[]⟩), (.string ⟨#[]⟩)]) := Lib.hid ((hn.out.set 0 (.string ⟨#[]⟩)).set 1 (.string ⟨#[]⟩)); clear hcur hcurp hn hHp; generalize (w4.setCell ⟨w2.heap.size, 0, none⟩ (.string ⟨#[]⟩)).setCell ⟨w2.heap.size, 1, none⟩ (.string ⟨#[]⟩) = wF at *; obtain ⟨n0, hn0⟩ : ∃ n0, w2.heap.size = n0 := ⟨_, rfl⟩; replace hn0 := Lib.hid hn0; rw [hn0.out] at hnF ⊢)
      refine tl_p (i := 14) (v := ?_) rfl (by rfl) (by kernel_rfl) (by kernel_rfl) (by kernel_rfl) (fun _ _ _ h => h) (by rfl) hHeld ?_ ?_
      rotate_left
      · intro w
        go_simp
        try (with_reducible rfl)
      try simp only [Act.put, List.setIfInBounds_toArray, List.set_cons_zero, List.set_cons_succ]
      refine till_done (by kernel_rfl) ?_ _
      clear hHeld
      have hrF := (Whole.drew hr.out).below hcurF.out
      have hxF := (Whole.drew hx1.out).below hcurF.out
      have hFF := (hF1.out.below (Below.drew (Below.refl _ _))).below hcurF.out
      have hBF := hb.out.trans ((Below.drew (Below.refl w2.heap.size w2)).mono hb.out.size |>.trans (hcurF.out.mono hb.out.size))
      have y0 := hnF.out.cell 0
      have y1 := hnF.out.cell 1
      have r0 := hrF.cell 0
      have r1 := hrF.cell 1
      have s0 := hrF.frozen 0
      have s1 := hrF.frozen 1
      have rl := hrF.lt
      have hrG := Lib.hid ((hrF.set 0 (.string ⟨#[]⟩)).set 1 (.string ⟨#[]⟩))
      have hxG := Lib.hid ((hxF.other (p := ⟨w.heap.size, 0, none⟩) (by simp only; omega) (.string ⟨#[]⟩)).other (p := ⟨w.heap.size, 1, none⟩) (by simp only; omega) (.string ⟨#[]⟩))
      have hFG := Lib.hid (hFF.keep (keeps_set (C := fun b => b < c) (g := w.heap.size) (by omega) 0 1 (.string ⟨#[]⟩) (.string ⟨#[]⟩)))
      have hUG := Lib.hid ((hBF.setCell (p := ⟨w.heap.size, 0, none⟩) (Nat.le_refl _) (.string ⟨#[]⟩)).setCell (p := ⟨w.heap.size, 1, none⟩) (Nat.le_refl _) (.string ⟨#[]⟩))
      clear hrF hxF hFF hBF kC
      go_wp2_with fail
      refine bodyPost_ret (results_cell_tmp_row rfl _ _ w.heap.size _ _ _ _ rfl hrG.out Try.underlying31 rfl (by kernel_rfl) _ rfl) rfl ?_
      exact ⟨rfl, ⟨by rw [hnx.out]; exact hxG.out, hFG.out⟩, Upd.of_below (S := fun b => b = c) hUG.out, by first | exact hUG.out | exact fun _ => hUG.out⟩
    · go_simp
      have hn := Lib.hid (new_of hcur.out 31 #[.string ⟨#[]⟩, .string ⟨#[]⟩])
      have hHp := hHeld
      have hcurp := hcur
      have hcur2 := Lib.hid (hcur.out.alloc hcur.out.size (.cells #[.string ⟨#[]⟩, .string ⟨#[]⟩] 31))
      clear hcur
      have hcur := hcur2
      clear hcur2
      refine hK.out _ _ (⟨cell_alloc _ hHeld.1, cell_alloc _ hHeld.2⟩) (fun hHeld1 => ?_)
      clear hK K hHeld
      have hHeld := hHeld1
      clear hHeld1
      try simp only [Act.put, List.setIfInBounds_toArray, List.set_cons_zero, List.set_cons_succ]
      refine tl_do (i := 8) rfl (by kernel_rfl) (by rfl) (fun K hK => ?_)
      go_simp
      go_at_call 77
      refine (kC.out _ hcur.out).mono ?_; rintro e w4 ⟨rfl, hb4⟩
      have hcN := And.intro (kc hb4 hHeld.1) (kc hb4 hHeld.2)
      first | (replace hn := Lib.hid (hn.out.below hb4); have hB0 := True.intro) | have hA0 := True.intro
      replace hcur := Lib.hid (hcur.out.trans (hb4.mono hcur.out.size))
      clear hb4
      simp only [resC]
      try go_wp2_with fail
      refine hK.out _ _ (hcN) (fun hHeld1 => ?_)
      clear hK K hHeld
      have hHeld := hHeld1
      clear hHeld1
      try simp only [Act.put, List.setIfInBounds_toArray, List.set_cons_zero, List.set_cons_succ]
      refine tl_p (i := 9) (v := ?_) rfl (by rfl) (by kernel_rfl) (by kernel_rfl) (by kernel_rfl) (fun _ _ _ h => h) (by rfl) hHeld ?_ ?_
      rotate_left
      · intro w
        go_simp
        try (with_reducible rfl)
      try simp only [Act.put, List.setIfInBounds_toArray, List.set_cons_zero, List.set_cons_succ]
      refine tl_p (i := 10) (v := ?_) rfl (by rfl) (by kernel_rfl) (by kernel_rfl) (by kernel_rfl) (fun _ _ _ h => h) (by rfl) hHeld ?_ ?_
      rotate_left
      · intro w
        go_simp
        try (with_reducible rfl)
      try simp only [Act.put, List.setIfInBounds_toArray, List.set_cons_zero, List.set_cons_succ]
      refine tl_p (i := 11) (v := ?_) rfl (by rfl) (by kernel_rfl) (by kernel_rfl) (by kernel_rfl) (fun _ _ _ h => h) (by rfl) hHeld ?_ ?_
      rotate_left
      · intro w
        go_simp
        try (with_reducible rfl)
      try simp only [Act.put, List.setIfInBounds_toArray, List.set_cons_zero, List.set_cons_succ]
      refine tl_do (i := 13) rfl (by kernel_rfl) (by rfl) (fun K hK => ?_)
      have n0 := hn.out.cell 0
      have n1 := hn.out.cell 1
      have m0 := hn.out.frozen 0
      have m1 := hn.out.frozen 1
      have nl := hn.out.lt
      try simp only [show w2.drew.heap.size = w2.heap.size from rfl] at n0 n1 m0 m1 nl
      go_simp
      refine hK.out _ _ (by first | exact ⟨cell_alloc _ hHp.1, cell_alloc _ hHp.2⟩ | exact ⟨set2_cell hcne.out hHeld.1, set2_cell hcne.out hHeld.2⟩) (fun hHeld1 => ?_)
      clear hK K hHeld
      have hHeld := hHeld1
      clear hHeld1
      try simp only [Act.put, List.setIfInBounds_toArray, List.set_cons_zero, List.set_cons_succ]
      clear n0 n1 m0 m1 nl
      first | (have hA := hA0; have hcurF := Lib.hid (hcurp.out.alloc hcurp.out.size (.cells #[(.string ⟨#[]⟩), (.string ⟨#[]⟩)] 31)); have hnF := Lib.hid (new_of hcurp.out 31 #[(.string ⟨#[]⟩), (.string ⟨#[]⟩)]); clear hcur hcurp hn hHp; generalize w4.heap.size = n0 at *; generalize w4.alloc (.cells #[(.string ⟨#[]⟩), (.string ⟨#[]⟩)] 31) = wF at *) | (have hcurF := Lib.hid ((hcur.out.setCell (p := ⟨w2.heap.size, 0, none⟩) (Nat.le_refl _) (.string ⟨#[]⟩)).setCell (p := ⟨w2.heap.size, 1, none⟩) (Nat.le_refl _) (.string ⟨#[]⟩)); have hnF : Hid (Whole ((w4.setCell ⟨w2.heap.size, 0, none⟩ (.string ⟨#[]⟩)).setCell ⟨w2.heap.size, 1, none⟩ (.string ⟨#[]⟩)) w2.heap.size 31 #[(.string ⟨#[]⟩), (.string ⟨#[]⟩)]) := Lib.hid ((hn.out.set 0 (.string ⟨#[]⟩)).set 1 (.string ⟨#[]⟩)); clear hcur hcurp hn hHp; generalize (w4.setCell ⟨w2.heap.size, 0, none⟩ (.string ⟨#[]⟩)).setCell ⟨w2.heap.size, 1, none⟩ (.string ⟨#[]⟩) = wF at *; obtain ⟨n0, hn0⟩ : ∃ n0, w2.heap.size = n0 := ⟨_, rfl⟩; replace hn0 := Lib.hid hn0; rw [hn0.out] at hnF ⊢)
      refine tl_p (i := 14) (v := ?_) rfl (by rfl) (by kernel_rfl) (by kernel_rfl) (by kernel_rfl) (fun _ _ _ h => h) (by rfl) hHeld ?_ ?_
      rotate_left
      · intro w
        go_simp
        try (with_reducible rfl)
      try simp only [Act.put, List.setIfInBounds_toArray, List.set_cons_zero, List.set_cons_succ]
      refine till_done (by kernel_rfl) ?_ _
      clear hHeld
      have hrF := (Whole.drew hr.out).below hcurF.out
      have hxF := (Whole.drew hx1.out).below hcurF.out
      have hFF := (hF1.out.below (Below.drew (Below.refl _ _))).below hcurF.out
      have hBF := hb.out.trans ((Below.drew (Below.refl w2.heap.size w2)).mono hb.out.size |>.trans (hcurF.out.mono hb.out.size))
      have y0 := hnF.out.cell 0
      have y1 := hnF.out.cell 1
      have r0 := hrF.cell 0
      have r1 := hrF.cell 1
      have s0 := hrF.frozen 0
      have s1 := hrF.frozen 1
      have rl := hrF.lt
      have hrG := Lib.hid ((hrF.set 0 (.string ⟨#[]⟩)).set 1 (.string ⟨#[]⟩))
      have hxG := Lib.hid ((hxF.other (p := ⟨w.heap.size, 0, none⟩) (by simp only; omega) (.string ⟨#[]⟩)).other (p := ⟨w.heap.size, 1, none⟩) (by simp only; omega) (.string ⟨#[]⟩))
      have hFG := Lib.hid (hFF.keep (keeps_set (C := fun b => b < c) (g := w.heap.size) (by omega) 0 1 (.string ⟨#[]⟩) (.string ⟨#[]⟩)))
      have hUG := Lib.hid ((hBF.setCell (p := ⟨w.heap.size, 0, none⟩) (Nat.le_refl _) (.string ⟨#[]⟩)).setCell (p := ⟨w.heap.size, 1, none⟩) (Nat.le_refl _) (.string ⟨#[]⟩))
      clear hrF hxF hFF hBF kC
      go_wp2_with fail
      refine bodyPost_ret (results_cell_tmp_row rfl _ _ w.heap.size _ _ _ _ rfl hrG.out Try.underlying31 rfl (by kernel_rfl) _ rfl) rfl ?_
      exact ⟨rfl, ⟨by rw [hnx.out]; exact hxG.out, hFG.out⟩, Upd.of_below (S := fun b => b = c) hUG.out, by first | exact hUG.out | exact fun _ => hUG.out⟩
  | some r =>
    obtain ⟨rk, rv⟩ := r
    have hks := hrk _ rfl
    replace hnx := Lib.hid hnx
    refine tl_begin (fun (w' : World) => w'.cell? ⟨c, 0, none⟩ = some (ptr g) ∧ w'.cell? ⟨c, 1, none⟩ = some (.string at')) [] (by kernel_rfl) (⟨c0, c1⟩) (fun hHeld => ?_)
    refine tl_p (i := 0) (v := ?_) rfl (by rfl) (by kernel_rfl) (by kernel_rfl) (by kernel_rfl) (fun _ _ _ h => h) (by rfl) hHeld ?_ ?_
    rotate_left
    · intro w
      go_simp
      try (with_reducible rfl)
    try simp only [Act.put, List.setIfInBounds_toArray, List.set_cons_zero, List.set_cons_succ]
    refine tl_p (i := 1) (v := ?_) rfl (by rfl) (by kernel_rfl) (by kernel_rfl) (by kernel_rfl) (fun _ _ _ h => h) (by rfl) hHeld ?_ ?_
    rotate_left
    · intro w
      go_simp
      try (with_reducible rfl)
    try simp only [Act.put, List.setIfInBounds_toArray, List.set_cons_zero, List.set_cons_succ]
    refine tl_p (i := 2) (v := ?_) rfl (by rfl) (by kernel_rfl) (by kernel_rfl) (by kernel_rfl) (fun _ _ _ h => h) (by rfl) hHeld ?_ ?_
    rotate_left
    · intro w
      go_simp
      try (with_reducible rfl)
    try simp only [Act.put, List.setIfInBounds_toArray, List.set_cons_zero, List.set_cons_succ]
    refine tl_w (i := 3) (v := ?_) rfl (by rfl) (by kernel_rfl) (by kernel_rfl) (by kernel_rfl) (by kernel_rfl) (by kernel_rfl) (fun _ _ _ h => h) (by rfl) hHeld ?_ ?_
    rotate_left
    · intro w hSw
      try dsimp only at hSw
      go_simp
      try (with_reducible rfl)
    try simp only [Act.put, List.setIfInBounds_toArray, List.set_cons_zero, List.set_cons_succ]
    refine tl_p (i := 4) (v := ?_) rfl (by rfl) (by kernel_rfl) (by kernel_rfl) (by kernel_rfl) (fun _ _ _ h => h) (by rfl) hHeld ?_ ?_
    rotate_left
    · intro w
      go_simp
      try (with_reducible rfl)
    try simp only [Act.put, List.setIfInBounds_toArray, List.set_cons_zero, List.set_cons_succ]
    refine tl_p (i := 5) (v := ?_) rfl (by rfl) (by kernel_rfl) (by kernel_rfl) (by kernel_rfl) (fun _ _ _ h => h) (by rfl) hHeld ?_ ?_
    rotate_left
    · intro w
      go_simp
      try (with_reducible rfl)
    try simp only [Act.put, List.setIfInBounds_toArray, List.set_cons_zero, List.set_cons_succ]
    refine tl_p (i := 6) (v := ?_) rfl (by rfl) (by kernel_rfl) (by kernel_rfl) (by kernel_rfl) (fun _ _ _ h => h) (by rfl) hHeld ?_ ?_
    rotate_left
    · intro w
      go_simp
      try (with_reducible rfl)
    try simp only [Act.put, List.setIfInBounds_toArray, List.set_cons_zero, List.set_cons_succ]
    refine tl_w (i := 7) (v := ?_) rfl (by rfl) (by kernel_rfl) (by kernel_rfl) (by kernel_rfl) (by kernel_rfl) (by kernel_rfl) (fun _ _ _ h => h) (by rfl) hHeld ?_ ?_
    rotate_left
    · intro w hSw
      try dsimp only at hSw
      go_simp
      try (with_reducible rfl)
    try simp only [Act.put, List.setIfInBounds_toArray, List.set_cons_zero, List.set_cons_succ]
    refine tl_two (i := 8) (j := 12) rfl rfl (by kernel_rfl) (by rfl) (by rfl) (fun K hK => ?_) (fun K hK => ?_)
    · go_simp
      go_at_call 77
      refine (kC.out _ hcur.out).mono ?_; rintro e w4 ⟨rfl, hb4⟩
      have hcN := And.intro (kc hb4 hHeld.1) (kc hb4 hHeld.2)
      first | (replace hn := Lib.hid (hn.out.below hb4); have hB0 := True.intro) | have hA0 := True.intro
      replace hcur := Lib.hid (hcur.out.trans (hb4.mono hcur.out.size))
      clear hb4
      simp only [resC]
      try go_wp2_with fail
      refine hK.out _ _ (hcN) (fun hHeld1 => ?_)
      clear hK K hHeld
      have hHeld := hHeld1
      clear hHeld1
      try simp only [Act.put, List.setIfInBounds_toArray, List.set_cons_zero, List.set_cons_succ]
      refine tl_p (i := 9) (v := ?_) rfl (by rfl) (by kernel_rfl) (by kernel_rfl) (by kernel_rfl) (fun _ _ _ h => h) (by rfl) hHeld ?_ ?_
      rotate_left
      · intro w
        go_simp
        try (with_reducible rfl)
      try simp only [Act.put, List.setIfInBounds_toArray, List.set_cons_zero, List.set_cons_succ]
      refine tl_p (i := 10) (v := ?_) rfl (by rfl) (by kernel_rfl) (by kernel_rfl) (by kernel_rfl) (fun _ _ _ h => h) (by rfl) hHeld ?_ ?_
      rotate_left
      · intro w
        go_simp
        try (with_reducible rfl)
      try simp only [Act.put, List.setIfInBounds_toArray, List.set_cons_zero, List.set_cons_succ]
      refine tl_p (i := 11) (v := ?_) rfl (by rfl) (by kernel_rfl) (by kernel_rfl) (by kernel_rfl) (fun _ _ _ h => h) (by rfl) hHeld ?_ ?_
      rotate_left
      · intro w
        go_simp
        try (with_reducible rfl)
      try simp only [Act.put, List.setIfInBounds_toArray, List.set_cons_zero, List.set_cons_succ]
      refine tl_do (i := 12) rfl (by kernel_rfl) (by rfl) (fun K hK => ?_)
      go_simp
      have hn := Lib.hid (new_of hcur.out 31 #[.string ⟨#[]⟩, .string ⟨#[]⟩])
      have hHp := hHeld
      have hcurp := hcur
      have hcur2 := Lib.hid (hcur.out.alloc hcur.out.size (.cells #[.string ⟨#[]⟩, .string ⟨#[]⟩] 31))
      clear hcur
      have hcur := hcur2
      clear hcur2
      refine hK.out _ _ (⟨cell_alloc _ hHeld.1, cell_alloc _ hHeld.2⟩) (fun hHeld1 => ?_)
      clear hK K hHeld
      have hHeld := hHeld1
      clear hHeld1
      try simp only [Act.put, List.setIfInBounds_toArray, List.set_cons_zero, List.set_cons_succ]
      refine tl_do (i := 13) rfl (by kernel_rfl) (by rfl) (fun K hK => ?_)
      have n0 := hn.out.cell 0
      have n1 := hn.out.cell 1
      have m0 := hn.out.frozen 0
      have m1 := hn.out.frozen 1
      have nl := hn.out.lt
      try simp only [show w2.drew.heap.size = w2.heap.size from rfl] at n0 n1 m0 m1 nl
      go_simp
      refine hK.out _ _ (by first | exact ⟨cell_alloc _ hHp.1, cell_alloc _ hHp.2⟩ | exact ⟨set2_cell hcne.out hHeld.1, set2_cell hcne.out hHeld.2⟩) (fun hHeld1 => ?_)
      clear hK K hHeld
      have hHeld := hHeld1
      clear hHeld1
      try simp only [Act.put, List.setIfInBounds_toArray, List.set_cons_zero, List.set_cons_succ]
      clear n0 n1 m0 m1 nl
      first | (have hA := hA0; have hcurF := Lib.hid (hcurp.out.alloc hcurp.out.size (.cells #[(.string rk), (.string rv)] 31)); have hnF := Lib.hid (new_of hcurp.out 31 #[(.string rk), (.string rv)]); clear hcur hcurp hn hHp; generalize w4.heap.size = n0 at *; generalize w4.alloc (.cells #[(.string rk), (.string rv)] 31) = wF at *) | (have hcurF := Lib.hid ((hcur.out.setCell (p := ⟨w2.heap.size, 0, none⟩) (Nat.le_refl _) (.string rk)).setCell (p := ⟨w2.heap.size, 1, none⟩) (Nat.le_refl _) (.string rv)); have hnF : Hid (Whole ((w4.setCell ⟨w2.heap.size, 0, none⟩ (.string rk)).setCell ⟨w2.heap.size, 1, none⟩ (.string rv)) w2.heap.size 31 #[(.string rk), (.string rv)]) := Lib.hid ((hn.out.set 0 (.string rk)).set 1 (.string rv)); clear hcur hcurp hn hHp; generalize (w4.setCell ⟨w2.heap.size, 0, none⟩ (.string rk)).setCell ⟨w2.heap.size, 1, none⟩ (.string rv) = wF at *; obtain ⟨n0, hn0⟩ : ∃ n0, w2.heap.size = n0 := ⟨_, rfl⟩; replace hn0 := Lib.hid hn0; rw [hn0.out] at hnF ⊢)
      refine tl_p (i := 14) (v := ?_) rfl (by rfl) (by kernel_rfl) (by kernel_rfl) (by kernel_rfl) (fun _ _ _ h => h) (by rfl) hHeld ?_ ?_
      rotate_left
      · intro w
        go_simp
        try (with_reducible rfl)
      try simp only [Act.put, List.setIfInBounds_toArray, List.set_cons_zero, List.set_cons_succ]
      refine till_done (by kernel_rfl) ?_ _
      clear hHeld
      have hrF := (Whole.drew hr.out).below hcurF.out
      have hxF := (Whole.drew hx1.out).below hcurF.out
      have hFF := (hF1.out.below (Below.drew (Below.refl _ _))).below hcurF.out
      have hBF := hb.out.trans ((Below.drew (Below.refl w2.heap.size w2)).mono hb.out.size |>.trans (hcurF.out.mono hb.out.size))
      have y0 := hnF.out.cell 0
      have z1 : wF.cell? ⟨c, 1, none⟩ = some (.string at') := hxF.cell 1
      have zf := hxF.frozen 1
      have zl := hxF.lt
      have hcn0 : c ≠ n0 := Whole.ne hxF hnF.out (by decide)
      have hnG := hnF.out.other (p := ⟨c, 1, none⟩) (by simp only; omega) (.string (rk ++ ⟨#[0]⟩))
      have hxG := hxF.set 1 (.string (rk ++ ⟨#[0]⟩))
      have hrG := hrF.other (p := ⟨c, 1, none⟩) (by simp only; omega) (.string (rk ++ ⟨#[0]⟩))
      have huG : Upd (fun b => b = c) wF (wF.setCell ⟨c, 1, none⟩ (.string (rk ++ ⟨#[0]⟩))) := (Upd.refl (fun b => b = c) wF).setCell (p := ⟨c, 1, none⟩) (.inr rfl) _
      have hFG := hFF.upd huG
      have hUG := (Upd.of_below (S := fun b => b = c) hBF).trans huG (fun _ _ e => e)
      replace hnG := Lib.hid hnG
      replace hxG := Lib.hid hxG
      replace hrG := Lib.hid hrG
      replace hFG := Lib.hid hFG
      replace hUG := Lib.hid hUG
      have kN := Lib.hid (next_any rk wF hks)
      clear hrF hxF hFF hBF kC huG
      go_wp2_with fail
      refine kN.out.mono ?_; rintro e w9 ⟨rfl, rfl⟩
      clear kN
      go_upto_region 4 with fail
      generalize rk ++ (⟨#[0]⟩ : ByteArray) = nk at *
      generalize wF.setCell ⟨c, 1, none⟩ (.string nk) = wG at *
      clear y0 z1 zf zl
      have y0 := hnG.out.cell 0
      have y1 := hnG.out.cell 1
      have r0 := hrG.out.cell 0
      have r1 := hrG.out.cell 1
      have s0 := hrG.out.frozen 0
      have s1 := hrG.out.frozen 1
      have rl := hrG.out.lt
      have hrH := Lib.hid ((hrG.out.set 0 (.string rk)).set 1 (.string rv))
      have hxH := Lib.hid ((hxG.out.other (p := ⟨w.heap.size, 0, none⟩) (by simp only; omega) (.string rk)).other (p := ⟨w.heap.size, 1, none⟩) (by simp only; omega) (.string rv))
      have hFH := Lib.hid (hFG.out.keep (keeps_set (C := fun b => b < c) (g := w.heap.size) (by omega) 0 1 (.string rk) (.string rv)))
      have hUH := Lib.hid ((hUG.out.setCell (p := ⟨w.heap.size, 0, none⟩) (.inl (Nat.le_refl _)) (.string rk)).setCell (p := ⟨w.heap.size, 1, none⟩) (.inl (Nat.le_refl _)) (.string rv))
      go_wp2_with fail
      refine bodyPost_ret (results_cell_tmp_row rfl _ _ w.heap.size _ _ _ _ rfl hrH.out Try.underlying31 rfl (by kernel_rfl) _ rfl) rfl ?_
      exact ⟨rfl, ⟨by rw [hnx.out]; exact hxH.out, hFH.out⟩, hUH.out, fun h => by cases h⟩
    · go_simp
      have hn := Lib.hid (new_of hcur.out 31 #[.string ⟨#[]⟩, .string ⟨#[]⟩])
      have hHp := hHeld
      have hcurp := hcur
      have hcur2 := Lib.hid (hcur.out.alloc hcur.out.size (.cells #[.string ⟨#[]⟩, .string ⟨#[]⟩] 31))
      clear hcur
      have hcur := hcur2
      clear hcur2
      refine hK.out _ _ (⟨cell_alloc _ hHeld.1, cell_alloc _ hHeld.2⟩) (fun hHeld1 => ?_)
      clear hK K hHeld
      have hHeld := hHeld1
      clear hHeld1
      try simp only [Act.put, List.setIfInBounds_toArray, List.set_cons_zero, List.set_cons_succ]
      refine tl_do (i := 8) rfl (by kernel_rfl) (by rfl) (fun K hK => ?_)
      go_simp
      go_at_call 77
      refine (kC.out _ hcur.out).mono ?_; rintro e w4 ⟨rfl, hb4⟩
      have hcN := And.intro (kc hb4 hHeld.1) (kc hb4 hHeld.2)
      first | (replace hn := Lib.hid (hn.out.below hb4); have hB0 := True.intro) | have hA0 := True.intro
      replace hcur := Lib.hid (hcur.out.trans (hb4.mono hcur.out.size))
      clear hb4
      simp only [resC]
      try go_wp2_with fail
      refine hK.out _ _ (hcN) (fun hHeld1 => ?_)
      clear hK K hHeld
      have hHeld := hHeld1
      clear hHeld1
      try simp only [Act.put, List.setIfInBounds_toArray, List.set_cons_zero, List.set_cons_succ]
      refine tl_p (i := 9) (v := ?_) rfl (by rfl) (by kernel_rfl) (by kernel_rfl) (by kernel_rfl) (fun _ _ _ h => h) (by rfl) hHeld ?_ ?_
      rotate_left
      · intro w
        go_simp
        try (with_reducible rfl)
      try simp only [Act.put, List.setIfInBounds_toArray, List.set_cons_zero, List.set_cons_succ]
      refine tl_p (i := 10) (v := ?_) rfl (by rfl) (by kernel_rfl) (by kernel_rfl) (by kernel_rfl) (fun _ _ _ h => h) (by rfl) hHeld ?_ ?_
      rotate_left
      · intro w
        go_simp
        try (with_reducible rfl)
      try simp only [Act.put, List.setIfInBounds_toArray, List.set_cons_zero, List.set_cons_succ]
      refine tl_p (i := 11) (v := ?_) rfl (by rfl) (by kernel_rfl) (by kernel_rfl) (by kernel_rfl) (fun _ _ _ h => h) (by rfl) hHeld ?_ ?_
      rotate_left
      · intro w
        go_simp
        try (with_reducible rfl)
      try simp only [Act.put, List.setIfInBounds_toArray, List.set_cons_zero, List.set_cons_succ]
      refine tl_do (i := 13) rfl (by kernel_rfl) (by rfl) (fun K hK => ?_)
      have n0 := hn.out.cell 0
      have n1 := hn.out.cell 1
      have m0 := hn.out.frozen 0
      have m1 := hn.out.frozen 1
      have nl := hn.out.lt
      try simp only [show w2.drew.heap.size = w2.heap.size from rfl] at n0 n1 m0 m1 nl
      go_simp
      refine hK.out _ _ (by first | exact ⟨cell_alloc _ hHp.1, cell_alloc _ hHp.2⟩ | exact ⟨set2_cell hcne.out hHeld.1, set2_cell hcne.out hHeld.2⟩) (fun hHeld1 => ?_)
      clear hK K hHeld
      have hHeld := hHeld1
      clear hHeld1
      try simp only [Act.put, List.setIfInBounds_toArray, List.set_cons_zero, List.set_cons_succ]
      clear n0 n1 m0 m1 nl
      first | (have hA := hA0; have hcurF := Lib.hid (hcurp.out.alloc hcurp.out.size (.cells #[(.string rk), (.string rv)] 31)); have hnF := Lib.hid (new_of hcurp.out 31 #[(.string rk), (.string rv)]); clear hcur hcurp hn hHp; generalize w4.heap.size = n0 at *; generalize w4.alloc (.cells #[(.string rk), (.string rv)] 31) = wF at *) | (have hcurF := Lib.hid ((hcur.out.setCell (p := ⟨w2.heap.size, 0, none⟩) (Nat.le_refl _) (.string rk)).setCell (p := ⟨w2.heap.size, 1, none⟩) (Nat.le_refl _) (.string rv)); have hnF : Hid (Whole ((w4.setCell ⟨w2.heap.size, 0, none⟩ (.string rk)).setCell ⟨w2.heap.size, 1, none⟩ (.string rv)) w2.heap.size 31 #[(.string rk), (.string rv)]) := Lib.hid ((hn.out.set 0 (.string rk)).set 1 (.string rv)); clear hcur hcurp hn hHp; generalize (w4.setCell ⟨w2.heap.size, 0, none⟩ (.string rk)).setCell ⟨w2.heap.size, 1, none⟩ (.string rv) = wF at *; obtain ⟨n0, hn0⟩ : ∃ n0, w2.heap.size = n0 := ⟨_, rfl⟩; replace hn0 := Lib.hid hn0; rw [hn0.out] at hnF ⊢)
      refine tl_p (i := 14) (v := ?_) rfl (by rfl) (by kernel_rfl) (by kernel_rfl) (by kernel_rfl) (fun _ _ _ h => h) (by rfl) hHeld ?_ ?_
      rotate_left
      · intro w
        go_simp
        try (with_reducible rfl)
      try simp only [Act.put, List.setIfInBounds_toArray, List.set_cons_zero, List.set_cons_succ]
      refine till_done (by kernel_rfl) ?_ _
      clear hHeld
      have hrF := (Whole.drew hr.out).below hcurF.out
      have hxF := (Whole.drew hx1.out).below hcurF.out
      have hFF := (hF1.out.below (Below.drew (Below.refl _ _))).below hcurF.out
      have hBF := hb.out.trans ((Below.drew (Below.refl w2.heap.size w2)).mono hb.out.size |>.trans (hcurF.out.mono hb.out.size))
      have y0 := hnF.out.cell 0
      have z1 : wF.cell? ⟨c, 1, none⟩ = some (.string at') := hxF.cell 1
      have zf := hxF.frozen 1
      have zl := hxF.lt
      have hcn0 : c ≠ n0 := Whole.ne hxF hnF.out (by decide)
      have hnG := hnF.out.other (p := ⟨c, 1, none⟩) (by simp only; omega) (.string (rk ++ ⟨#[0]⟩))
      have hxG := hxF.set 1 (.string (rk ++ ⟨#[0]⟩))
      have hrG := hrF.other (p := ⟨c, 1, none⟩) (by simp only; omega) (.string (rk ++ ⟨#[0]⟩))
      have huG : Upd (fun b => b = c) wF (wF.setCell ⟨c, 1, none⟩ (.string (rk ++ ⟨#[0]⟩))) := (Upd.refl (fun b => b = c) wF).setCell (p := ⟨c, 1, none⟩) (.inr rfl) _
      have hFG := hFF.upd huG
      have hUG := (Upd.of_below (S := fun b => b = c) hBF).trans huG (fun _ _ e => e)
      replace hnG := Lib.hid hnG
      replace hxG := Lib.hid hxG
      replace hrG := Lib.hid hrG
      replace hFG := Lib.hid hFG
      replace hUG := Lib.hid hUG
      have kN := Lib.hid (next_any rk wF hks)
      clear hrF hxF hFF hBF kC huG
      go_wp2_with fail
      refine kN.out.mono ?_; rintro e w9 ⟨rfl, rfl⟩
      clear kN
      go_upto_region 4 with fail
      generalize rk ++ (⟨#[0]⟩ : ByteArray) = nk at *
      generalize wF.setCell ⟨c, 1, none⟩ (.string nk) = wG at *
      clear y0 z1 zf zl
      have y0 := hnG.out.cell 0
      have y1 := hnG.out.cell 1
      have r0 := hrG.out.cell 0
      have r1 := hrG.out.cell 1
      have s0 := hrG.out.frozen 0
      have s1 := hrG.out.frozen 1
      have rl := hrG.out.lt
      have hrH := Lib.hid ((hrG.out.set 0 (.string rk)).set 1 (.string rv))
      have hxH := Lib.hid ((hxG.out.other (p := ⟨w.heap.size, 0, none⟩) (by simp only; omega) (.string rk)).other (p := ⟨w.heap.size, 1, none⟩) (by simp only; omega) (.string rv))
      have hFH := Lib.hid (hFG.out.keep (keeps_set (C := fun b => b < c) (g := w.heap.size) (by omega) 0 1 (.string rk) (.string rv)))
      have hUH := Lib.hid ((hUG.out.setCell (p := ⟨w.heap.size, 0, none⟩) (.inl (Nat.le_refl _)) (.string rk)).setCell (p := ⟨w.heap.size, 1, none⟩) (.inl (Nat.le_refl _)) (.string rv))
      go_wp2_with fail
      refine bodyPost_ret (results_cell_tmp_row rfl _ _ w.heap.size _ _ _ _ rfl hrH.out Try.underlying31 rfl (by kernel_rfl) _ rfl) rfl ?_
      exact ⟨rfl, ⟨by rw [hnx.out]; exact hxH.out, hFH.out⟩, hUH.out, fun h => by cases h⟩
end Go.Proofs.Ytegomkgfmaclkaa
