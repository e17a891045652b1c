/-
  tree.Tree: Put by its contract.
-/
import Derived.Test.YtegomkgfmaclkaaTl
import Derived.Test.YtegomkgfmaclkaaTm
set_option linter.unusedVariables false
set_option linter.unusedSimpArgs false
namespace Go.Proofs.Ytegomkgfmaclkaa
open Go.RowKit Go.Proofs.PosteOrd Go.Proofs.PosteMem

/-- A tree of the rows L in box g. -/
def Tr (W : World) (g : Nat) (L : List Row) : Prop := ∃ h, ∃ t : T h, TAt W g h t ∧ rowsT h t = L
theorem d3_gt {n m : Nat} : decide ((m : Int) < (n : Int)) = decide (m < n) := by
  simp
theorem upd_set2 {w : World} {g : Nat} (i j : Nat) (u u' : Value) : Upd (fun b => b = g) w ((w.setCell ⟨g, i, none⟩ u).setCell ⟨g, j, none⟩ u') := ((Upd.refl (fun b => b = g) w).setCell (p := ⟨g, i, none⟩) (.inr rfl) u).setCell (p := ⟨g, j, none⟩) (.inr rfl) u'
set_option maxRecDepth 100000 in
set_option maxHeartbeats 8000000 in
theorem tput_core {w : World} {g h : Nat} {t : T h} (H : TAt w g h t) (r : Row) (hm : (rowsT h t).length ≤ 800000) : Calls Try.prog 46 #[ptr g, .agg #[.string r.key, .string r.val]] w fun e w' => e = .returned (.bool (!hit (rowsT h t) r.key)) ∧ (∃ h', ∃ t' : T h', TAt w' g h' t' ∧ rowsT h' t' = putS (rowsT h t) r) ∧ Upd (fun b => b = g) w w' := by
  have kL := tlen_any (H.below ((Below.refl w.heap.size w).alloc (Nat.le_refl _) (.cells #[.string r.key, .string r.val] 31)))
  have htall := Top.tall (let ⟨_, _, _, h3⟩ := H; h3)
  obtain ⟨q, hx, hP, hT⟩ := H
  have hTp := hT.put r
  have hlen := putS_len (rowsT h t) r
  obtain ⟨key, val⟩ := r
  have hb := (Below.refl w.heap.size w).alloc (Nat.le_refl _) (.cells #[.string key, .string val] 31)
  have hr := Whole.new w 31 #[.string key, .string val]
  have hg := hx.lt
  have hx1 := hx.below hb
  have kPP := fun (W : World) (hW : Below w.heap.size w W) => partPut_any h W (fun b => b ≠ g) q t ⟨key, val⟩ (hP.below hW) hT.ok (fun h0 => by have := hT.two h0; omega) hT.six hT.srt (by omega) (fun b hb => by have := hW.size; omega)
  have q1 : (((h : Int) + 1) == 0) = false := beq_zero_of
  have q2 : ¬ ((h : Int) + 1) = 0 := by omega
  have c0 : (w.alloc (.cells #[.string key, .string val] 31)).cell? ⟨g, 0, none⟩ = some (.pointer (pa h q)) := hx1.cell 0
  have c1 : (w.alloc (.cells #[.string key, .string val] 31)).cell? ⟨g, 1, none⟩ = some (.pointer (pb h q)) := hx1.cell 1
  have c2 : (w.alloc (.cells #[.string key, .string val] 31)).cell? ⟨g, 2, none⟩ = some (.int .i64 ((h : Int) + 1)) := hx1.cell 2
  have hg1 := hx1.lt
  replace kL := Lib.hid kL
  replace kPP := Lib.hid kPP
  replace hTp := Lib.hid hTp
  replace hb := Lib.hid hb
  replace hr := Lib.hid hr
  replace hx1 := Lib.hid hx1
  clear hx hP hT
  generalize hit (rowsT h t) key = ht at *
  generalize hL : rowsT h t = L at *
  replace hL := Lib.hid hL
  generalize hn : L.length = n at *
  go_enter Try.func46, Try.ntmps46
  go_wp2_with fail
  refine kL.out.mono ?_; rintro e w2 ⟨rfl, hb2⟩
  have hB2 := Below.drew (hb.out.trans (hb2.mono hb.out.size))
  have kP := kPP.out w2.drew hB2
  replace c0 : w2.drew.cell? ⟨g, 0, none⟩ = some (.pointer (pa h q)) := kc hb2 c0
  replace c1 : w2.drew.cell? ⟨g, 1, none⟩ = some (.pointer (pb h q)) := kc hb2 c1
  have hx3 := Lib.hid (Whole.drew (hx1.out.below hb2))
  have hr3 := Whole.drew (hr.out.below hb2)
  have c2 : w2.drew.cell? ⟨w.heap.size, 0, none⟩ = some (.string key) := hr3.cell 0
  have c3 : w2.drew.cell? ⟨w.heap.size, 1, none⟩ = some (.string val) := hr3.cell 1
  have hB3 := Lib.hid hB2
  generalize ha : pa h q = a0 at *
  generalize hbb : pb h q = b0 at *
  replace kP := Lib.hid kP
  replace ha := Lib.hid ha
  replace hbb := Lib.hid hbb
  clear hb2 hB2 kL kPP hx1 hr hr3 hb
  go_upto_region 6 with fail
  refine tl_begin (fun (w' : World) => ((w'.cell? ⟨g, 0, none⟩ = some (.pointer a0) ∧ w'.cell? ⟨g, 1, none⟩ = some (.pointer b0)) ∧ w'.cell? ⟨w.heap.size, 0, none⟩ = some (.string key) ∧ w'.cell? ⟨w.heap.size, 1, none⟩ = some (.string val))) [] (by kernel_rfl) (⟨⟨c0, c1⟩, c2, c3⟩) (fun hHeld => ?_)
  refine tl_p (i := 0) (v := ?_) rfl (by rfl) (by kernel_rfl) (by kernel_rfl) (by kernel_rfl) (fun _ _ _ h => h) (by rfl) hHeld ?_ ?_
  rotate_left
  · intro w
    go_simp
    try (with_reducible rfl)
  try simp only [Act.put, List.setIfInBounds_toArray, List.set_cons_zero, List.set_cons_succ]
  refine tl_p (i := 1) (v := ?_) rfl (by rfl) (by kernel_rfl) (by kernel_rfl) (by kernel_rfl) (fun _ _ _ h => h) (by rfl) hHeld ?_ ?_
  rotate_left
  · intro w
    go_simp
    try (with_reducible rfl)
  try simp only [Act.put, List.setIfInBounds_toArray, List.set_cons_zero, List.set_cons_succ]
  refine tl_p (i := 2) (v := ?_) rfl (by rfl) (by kernel_rfl) (by kernel_rfl) (by kernel_rfl) (fun _ _ _ h => h) (by rfl) hHeld ?_ ?_
  rotate_left
  · intro w
    go_simp
    try (with_reducible rfl)
  try simp only [Act.put, List.setIfInBounds_toArray, List.set_cons_zero, List.set_cons_succ]
  refine tl_w (i := 3) (v := ?_) rfl (by rfl) (by kernel_rfl) (by kernel_rfl) (by kernel_rfl) (by kernel_rfl) (by kernel_rfl) (fun _ _ _ h => h) (by rfl) hHeld ?_ ?_
  rotate_left
  · intro w hSw
    try dsimp only at hSw
    go_simp
    try (with_reducible rfl)
  try simp only [Act.put, List.setIfInBounds_toArray, List.set_cons_zero, List.set_cons_succ]
  refine tl_w (i := 4) (v := ?_) rfl (by rfl) (by kernel_rfl) (by kernel_rfl) (by kernel_rfl) (by kernel_rfl) (by kernel_rfl) (fun _ _ _ h => h) (by rfl) hHeld ?_ ?_
  rotate_left
  · intro w hSw
    try dsimp only at hSw
    go_simp
    try (with_reducible rfl)
  try simp only [Act.put, List.setIfInBounds_toArray, List.set_cons_zero, List.set_cons_succ]
  refine tl_do (i := 5) rfl (by kernel_rfl) (by rfl) (fun K hK => ?_)
  go_simp
  go_at_call 79
  refine kP.out.mono ?_; rintro e w5 ⟨v5, rfl, hP5, hb5⟩
  have hc5 := And.intro (And.intro (kc hb5 c0) (kc hb5 c1)) (And.intro (kc hb5 c2) (kc hb5 c3))
  have hx5 := Lib.hid (hx3.out.below hb5)
  have hB5 := Lib.hid (hB3.out.trans (hb5.mono hB3.out.size))
  replace hP5 := Lib.hid hP5
  clear hb5
  try go_wp2_with fail
  refine hK.out _ _ (hc5) (fun hHeld1 => ?_)
  clear hK K hHeld
  have hHeld := hHeld1
  clear hHeld1
  try simp only [Act.put, List.setIfInBounds_toArray, List.set_cons_zero, List.set_cons_succ]
  refine tl_p (i := 6) (v := ?_) rfl (by rfl) (by kernel_rfl) (by kernel_rfl) (by kernel_rfl) (fun _ _ _ h => h) (by rfl) hHeld ?_ ?_
  rotate_left
  · intro w
    go_simp
    try (with_reducible rfl)
  try simp only [Act.put, List.setIfInBounds_toArray, List.set_cons_zero, List.set_cons_succ]
  refine till_done (by kernel_rfl) ?_ _
  clear hHeld hc5
  have hgl := hx5.out.lt
  have hU5 := Lib.hid (Upd.of_below (S := fun b => b = g) hB5.out)
  rcases hTp.out with ⟨p, e1, hTop, hrows⟩ | ⟨p, p2, e1, hTop, hrows⟩
  · have hP6 := hP5.out
    rw [e1] at hP6
    obtain ⟨b, off, cap, ev, hbl, hcl, hcm, hat⟩ := hP6.at_ (by simp)
    obtain ⟨qp, a1, a2, a3⟩ := hat 0 (by simp)
    have a1' : PAt w5 (fun b => b ≠ g) h qp p := a1
    rw [Nat.zero_mul, Nat.add_zero] at a2 a3
    have ev' : v5 = .slice (some ⟨b, off, none⟩) 1 cap := ev
    subst ev'
    have f0 := hx5.out.frozen 0
    have f1 := hx5.out.frozen 1
    have g0 : w5.cell? ⟨g, 0, none⟩ = some (.pointer a0) := hx5.out.cell 0
    have g1 : w5.cell? ⟨g, 1, none⟩ = some (.pointer b0) := hx5.out.cell 1
    have hx7 : Whole ((w5.setCell ⟨g, 0, none⟩ (.pointer (pa h qp))).setCell ⟨g, 1, none⟩ (.pointer (pb h qp))) g 111 #[.pointer (pa h qp), .pointer (pb h qp), .int .i64 ((h : Int) + 1)] := (hx5.out.set 0 (.pointer (pa h qp))).set 1 (.pointer (pb h qp))
    have hP7 : PAt ((w5.setCell ⟨g, 0, none⟩ (.pointer (pa h qp))).setCell ⟨g, 1, none⟩ (.pointer (pb h qp))) (fun b => b ≠ g) h qp p := PAt.keep (keeps_set (C := fun b => b ≠ g) (g := g) (fun hc => hc rfl) 0 1 (.pointer (pa h qp)) (.pointer (pb h qp))) h qp p a1'
    have hA7 : TAt ((w5.setCell ⟨g, 0, none⟩ (.pointer (pa h qp))).setCell ⟨g, 1, none⟩ (.pointer (pb h qp))) g h p := ⟨qp, hx7, hP7, hTop⟩
    have hU7 := Lib.hid (hU5.out.trans (upd_set2 (w := w5) (g := g) 0 1 (.pointer (pa h qp)) (.pointer (pb h qp))) (fun _ _ e => e))
    have kL7 := tlen_any hA7
    rw [hrows, hlen] at kL7
    replace kL7 := Lib.hid kL7
    replace hA7 := Lib.hid hA7
    replace hrows := Lib.hid hrows
    replace e1 := Lib.hid e1
    generalize pa h qp = a5 at *
    generalize pb h qp = b5 at *
    clear hP6 hat a1 a1' hx7 hP7 hP5 hTp hlen
    cases ht with
    | true =>
      simp only [if_true] at kL7
      have q3 : ¬ (n : Int) < (n : Int) := by omega
      go_wp2_with fail
      refine kL7.out.mono ?_; rintro e w8 ⟨rfl, hb8⟩
      have hA8 := Lib.hid (hA7.out.below hb8)
      have hU8 := Lib.hid (hU7.out.trans (Upd.of_below (S := fun b => b = g) hb8) (fun _ _ e => e))
      clear hb8 kL7
      go_wp2_with fail
      go_ret
      exact ⟨rfl, ⟨_, _, hA8.out, hrows.out⟩, hU8.out⟩
    | false =>
      simp only [Bool.false_eq_true, if_false] at kL7
      have q3 : (n : Int) < ((n + 1 : Nat) : Int) := by omega
      go_wp2_with fail
      refine kL7.out.mono ?_; rintro e w8 ⟨rfl, hb8⟩
      have hA8 := Lib.hid (hA7.out.below hb8)
      have hU8 := Lib.hid (hU7.out.trans (Upd.of_below (S := fun b => b = g) hb8) (fun _ _ e => e))
      clear hb8 kL7
      go_wp2_with fail
      go_ret
      exact ⟨ret_bool (by show decide ((n : Int) < (n : Int) + 1) = true; exact decide_eq_true (by omega)), ⟨_, _, hA8.out, hrows.out⟩, hU8.out⟩
  · have hP6 := hP5.out
    rw [e1] at hP6
    obtain ⟨b, off, cap, ev, hbl, hcl, hcm, hat⟩ := hP6.at_ (by simp)
    obtain ⟨qp, a1, a2, a3⟩ := hat 0 (by simp)
    rw [Nat.zero_mul, Nat.add_zero] at a2 a3
    have ev' : v5 = .slice (some ⟨b, off, none⟩) 2 cap := ev
    subst ev'
    have hrl : (List.flatMap (rowsT h) [p, p2]).length ≤ 1000000 := by
      have h9 : List.flatMap (rowsT h) [p, p2] = putS L ⟨key, val⟩ := hrows
      rw [h9, hlen]
      split <;> omega
    have f0 := hx5.out.frozen 0
    have f1 := hx5.out.frozen 1
    have g0 : w5.cell? ⟨g, 0, none⟩ = some (.pointer a0) := hx5.out.cell 0
    have g1 : w5.cell? ⟨g, 1, none⟩ = some (.pointer b0) := hx5.out.cell 1
    have hx7 : Whole ((w5.setCell ⟨g, 0, none⟩ (.pointer (pa h qp))).setCell ⟨g, 1, none⟩ (.pointer (pb h qp))) g 111 #[.pointer (pa h qp), .pointer (pb h qp), .int .i64 ((h : Int) + 1)] := (hx5.out.set 0 (.pointer (pa h qp))).set 1 (.pointer (pb h qp))
    have hP7 : PL ((w5.setCell ⟨g, 0, none⟩ (.pointer (pa h qp))).setCell ⟨g, 1, none⟩ (.pointer (pb h qp))) (fun b => b ≠ g) h (.slice (some ⟨b, off, none⟩) 2 cap) [p, p2] := PL.keep hP6 (keeps_set (C := fun b => b ≠ g) (g := g) (fun hc => hc rfl) 0 1 (.pointer (pa h qp)) (.pointer (pb h qp)))
    have hU7 := hU5.out.trans (upd_set2 (w := w5) (g := g) 0 1 (.pointer (pa h qp)) (.pointer (pb h qp))) (fun _ _ e => e)
    have hg7 := hx7.lt
    have kI := innerOf_part hP7 (by simp) hrl (by simp) (fun b hb => by omega)
    replace kI := Lib.hid kI
    replace hx7 := Lib.hid hx7
    replace hU7 := Lib.hid hU7
    replace hrows := Lib.hid hrows
    replace hlen := Lib.hid hlen
    replace e1 := Lib.hid e1
    generalize pa h qp = a5 at *
    generalize pb h qp = b5 at *
    clear hP6 hat a1 hP7 hP5 hTp hrl
    go_upto_region 9 with fail
    generalize hw7 : (w5.setCell ⟨g, 0, none⟩ (.pointer a5)).setCell ⟨g, 1, none⟩ (.pointer b5) = w7 at *
    replace hw7 := Lib.hid hw7
    clear f0 f1 g0 g1 a2 a3 hbl
    go_wp2_with fail
    refine kI.out.mono ?_; rintro e w8 ⟨qi, rfl, hPi, hb8⟩
    have hx8 := hx7.out.below hb8
    have f0 := hx8.frozen 0
    have f1 := hx8.frozen 1
    have f2 := hx8.frozen 2
    have g0 : w8.cell? ⟨g, 0, none⟩ = some (.pointer a5) := hx8.cell 0
    have g1 : w8.cell? ⟨g, 1, none⟩ = some (.pointer b5) := hx8.cell 1
    have g2 : w8.cell? ⟨g, 2, none⟩ = some (.int .i64 ((h : Int) + 1)) := hx8.cell 2
    have hg8 := hx8.lt
    have hh1 : (((h + 1 : Nat) : Int) + 1) = (h : Int) + 1 + 1 := by omega
    have ew : IntKind.i64.wrap ((h : Int) + 1 + 1) = (h : Int) + 1 + 1 := by rw [IntKind.wrap_i64]; omega
    have hx9 : Whole (((w8.setCell ⟨g, 0, none⟩ (.pointer (pa (h + 1) qi))).setCell ⟨g, 1, none⟩ (.pointer (pb (h + 1) qi))).setCell ⟨g, 2, none⟩ (.int .i64 ((h : Int) + 1 + 1))) g 111 #[.pointer (pa (h + 1) qi), .pointer (pb (h + 1) qi), .int .i64 ((h : Int) + 1 + 1)] := ((hx8.set 0 (.pointer (pa (h + 1) qi))).set 1 (.pointer (pb (h + 1) qi))).set 2 (.int .i64 ((h : Int) + 1 + 1))
    have hU9 : Upd (fun b => b = g) w8 (((w8.setCell ⟨g, 0, none⟩ (.pointer (pa (h + 1) qi))).setCell ⟨g, 1, none⟩ (.pointer (pb (h + 1) qi))).setCell ⟨g, 2, none⟩ (.int .i64 ((h : Int) + 1 + 1))) := (upd_set2 (w := w8) (g := g) 0 1 (.pointer (pa (h + 1) qi)) (.pointer (pb (h + 1) qi))).setCell (p := ⟨g, 2, none⟩) (.inr rfl) _
    have hPi9 := PAt.keep (K := fun b => b ≠ g) ⟨_, hU9, fun b hb e => hb e⟩ (h + 1) qi _ hPi
    have hA9 : TAt (((w8.setCell ⟨g, 0, none⟩ (.pointer (pa (h + 1) qi))).setCell ⟨g, 1, none⟩ (.pointer (pb (h + 1) qi))).setCell ⟨g, 2, none⟩ (.int .i64 ((h : Int) + 1 + 1))) g (h + 1) ([p, p2] : List (T h)) := ⟨qi, by rw [hh1]; exact hx9, hPi9, hTop⟩
    have hU10 := Lib.hid ((hU7.out.trans (Upd.of_below (S := fun b => b = g) hb8) (fun _ _ e => e)).trans hU9 (fun _ _ e => e))
    have kL9 := tlen_any hA9
    rw [hrows.out, hlen.out] at kL9
    replace kL9 := Lib.hid kL9
    replace hA9 := Lib.hid hA9
    generalize pa (h + 1) qi = a6 at *
    generalize pb (h + 1) qi = b6 at *
    clear hx8 hPi hPi9 hb8 kI hx9 hU9 hx7
    go_upto_region 11 with fail
    generalize ((w8.setCell ⟨g, 0, none⟩ (.pointer a6)).setCell ⟨g, 1, none⟩ (.pointer b6)).setCell ⟨g, 2, none⟩ (.int .i64 ((h : Int) + 1 + 1)) = w9 at *
    clear f0 f1 f2 g0 g1 g2 hg8
    cases ht with
    | true =>
      simp only [if_true] at kL9
      have q3 : ¬ (n : Int) < (n : Int) := by omega
      go_wp2_with fail
      refine kL9.out.mono ?_; rintro e w10 ⟨rfl, hb8⟩
      have hA8 := Lib.hid (hA9.out.below hb8)
      have hU8 := Lib.hid (hU10.out.trans (Upd.of_below (S := fun b => b = g) hb8) (fun _ _ e => e))
      clear hb8 kL9
      go_wp2_with fail
      go_ret
      exact ⟨rfl, ⟨_, _, hA8.out, hrows.out⟩, hU8.out⟩
    | false =>
      simp only [Bool.false_eq_true, if_false] at kL9
      go_wp2_with fail
      refine kL9.out.mono ?_; rintro e w10 ⟨rfl, hb8⟩
      have hA8 := Lib.hid (hA9.out.below hb8)
      have hU8 := Lib.hid (hU10.out.trans (Upd.of_below (S := fun b => b = g) hb8) (fun _ _ e => e))
      clear hb8 kL9
      go_wp2_with fail
      go_ret
      exact ⟨ret_bool (by show decide ((n : Int) < (n : Int) + 1) = true; exact decide_eq_true (by omega)), ⟨_, _, hA8.out, hrows.out⟩, hU8.out⟩
theorem tput_any {w : World} {g : Nat} {L : List Row} (H : Tr w g L) (r : Row) (hm : L.length ≤ 800000) : Calls Try.prog 46 #[ptr g, .agg #[.string r.key, .string r.val]] w fun e w' => e = .returned (.bool (!hit L r.key)) ∧ Tr w' g (putS L r) ∧ Upd (fun b => b = g) w w' := by
  obtain ⟨h, t, H, rfl⟩ := H
  exact tput_core H r hm
end Go.Proofs.Ytegomkgfmaclkaa
