/-
  tree.innerOf by its contract.
-/
import Derived.Test.YtegomkgfmaclkaaTc
set_option linter.unusedVariables false
set_option linter.unusedSimpArgs false
namespace Go.Proofs.Ytegomkgfmaclkaa
open Go.RowKit Go.Proofs.PosteOrd Go.Proofs.PosteMem

def sumK (h : Nat) (ts : List (T h)) (k : Nat) : Nat := (List.flatMap (rowsT h) (ts.take k)).length
theorem sumK_succ {h : Nat} {ts : List (T h)} {k : Nat} (hk : k < ts.length) : sumK h ts (k + 1) = sumK h ts k + (rowsT h ts[k]).length := by
  unfold sumK
  rw [List.take_succ_eq_append_getElem hk, List.flatMap_append, List.length_append]
  simp [List.flatMap]
theorem sumK_le (h : Nat) (ts : List (T h)) (k : Nat) : sumK h ts k ≤ (List.flatMap (rowsT h) ts).length := by
  unfold sumK
  conv => rhs; rw [← List.take_append_drop k ts, List.flatMap_append, List.length_append]
  omega
theorem sumK_all {h : Nat} {ts : List (T h)} : sumK h ts ts.length = (List.flatMap (rowsT h) ts).length := by unfold sumK; rw [List.take_length]
theorem first_zero {h : Nat} {ts : List (T h)} (h0 : 0 < ts.length) : firstT (h + 1) ts = firstT h ts[0] := by
  cases ts with
  | nil => exact absurd h0 (Nat.lt_irrefl 0)
  | cons t ts => rfl

set_option maxRecDepth 100000 in
set_option maxHeartbeats 8000000 in
theorem innerOf_any {w : World} {K : Nat → Prop} {h : Nat} {v : Value} {ts : List (T h)} (H : PL w K h v ts) (h0 : 0 < ts.length) {N : Nat} (hN : (List.flatMap (rowsT h) ts).length = N) (hm : N ≤ 1000000) (hl : ts.length ≤ 1000000) :
    Calls Try.prog 80 #[v] w fun e w' => ∃ q, e = .returned (.agg #[.pointer none, ptr q]) ∧ w.heap.size ≤ q ∧ Whole w' q 123 #[.int .i64 N, .string (firstT (h + 1) ts), v] ∧ Below w.heap.size w w' := by
  obtain ⟨b, off, cap, rfl, hbl, hcl, hcm, hat⟩ := H.at_ h0
  replace hN := Lib.hid hN
  have hb1 := (Below.refl w.heap.size w).alloc (Nat.le_refl _) (.cells #[.pointer none, .pointer none] 108)
  have hr1 := Whole.new w 108 #[.pointer none, .pointer none]
  obtain ⟨q0, a1, a2, a3⟩ := hat 0 h0
  have p0 := (hb1.cell (p := ⟨b, off + 0 * 2, none⟩) hbl).trans a2
  have p1 := (hb1.cell (p := ⟨b, off + 0 * 2 + 1, none⟩) hbl).trans a3
  rw [Nat.zero_mul, Nat.add_zero] at p0 p1
  have kF : Calls Try.prog 101 #[.agg #[.pointer (pa h q0), .pointer (pb h q0)]] _ _ := first_any (a1.below hb1)
  rw [← first_zero h0] at kF
  generalize pa h q0 = a0 at *
  generalize pb h q0 = b0 at *
  have hq0 : (0 : Int) < (ts.length : Int) := by omega
  replace kF := Lib.hid kF
  replace H := Lib.hid H
  replace hat := Lib.hid hat
  replace hb1 := Lib.hid hb1
  replace hr1 := Lib.hid hr1
  have hs1 : (w.alloc (.cells #[.pointer none, .pointer none] 108)).heap.size = w.heap.size + 1 := by simp
  clear a1 a2 a3
  go_enter Try.func80, Try.ntmps80
  go_wp2_with fail
  refine kF.out.mono ?_; rintro e w2 ⟨rfl, hb2⟩
  have hr2 := hr1.out.below hb2
  have hB2 := hb1.out.trans (hb2.mono (by omega))
  have hs2 : w.heap.size < w2.heap.size := by have := hb2.size; omega
  have hx3 := Whole.new w2 123 #[.int .i64 0, .string (firstT (h + 1) ts), .slice (some ⟨b, off, none⟩) ts.length cap]
  have hr3 := Whole.alloc hr2 (.cells #[.int .i64 0, .string (firstT (h + 1) ts), .slice (some ⟨b, off, none⟩) ts.length cap] 123)
  have hB3 := hB2.alloc (Nat.le_of_lt hs2) (.cells #[.int .i64 0, .string (firstT (h + 1) ts), .slice (some ⟨b, off, none⟩) ts.length cap] 123)
  clear kF hb2 hr2 hB2 p0 p1
  go_upto_region 3 with fail
  generalize w2.heap.size = q at *
  generalize w2.alloc (.cells #[.int .i64 0, .string (firstT (h + 1) ts), .slice (some ⟨b, off, none⟩) ts.length cap] 123) = w3 at *
  go_loopw [16] (fun i wr => ∃ k : Nat, k ≤ ts.length ∧ i = .int .i64 k ∧ Whole wr q 123 #[.int .i64 (sumK h ts k), .string (firstT (h + 1) ts), .slice (some ⟨b, off, none⟩) ts.length cap] ∧ Whole wr w.heap.size 108 #[.pointer none, .pointer none] ∧ Below w.heap.size w wr) (fun i _ => ts.length - (intOf i).toNat)
  case atStart => exact ⟨0, by omega, rfl, hx3, hr3, hB3⟩
  case round =>
    clear hx3 hr3 hB3 hb1 hr1 hs1
    obtain ⟨k, hk, rfl, hx, hr, hB⟩ := hrel
    by_cases hlt : k < ts.length
    · have q1 : (k : Int) < (ts.length : Int) := by omega
      obtain ⟨qk, a1, a2, a3⟩ := hat.out k hlt
      have p0 := (hB.cell (p := ⟨b, off + k * 2, none⟩) hbl).trans a2
      have p1 := (hB.cell (p := ⟨b, off + k * 2 + 1, none⟩) hbl).trans a3
      have hBk := hB.alloc hB.size (.cells #[.pointer (pa h qk), .pointer (pb h qk)] 108)
      have kS : Calls Try.prog 81 #[.agg #[.pointer (pa h qk), .pointer (pb h qk)]] (wr.alloc (.cells #[.pointer (pa h qk), .pointer (pb h qk)] 108)).drew _ := size_any (a1.below (Below.drew hBk))
      have hsu := sumK_succ hlt
      have hsl := sumK_le h ts (k + 1)
      rw [hN.out] at hsl
      generalize pa h qk = a0 at *
      generalize pb h qk = b0 at *
      generalize (rowsT h ts[k]).length = n at *
      have hs3 := Lib.hid hBk.size
      have hx3 := Lib.hid (Whole.drew (Whole.alloc hx (.cells #[.pointer a0, .pointer b0] 108)))
      have hr3 := Lib.hid (Whole.drew (Whole.alloc hr (.cells #[.pointer a0, .pointer b0] 108)))
      have hk3 := Lib.hid (Whole.drew (Whole.new wr 108 #[.pointer a0, .pointer b0]))
      have hB3 := Lib.hid (Below.drew hBk)
      replace kS := Lib.hid kS
      clear hx hr hB hBk a1 a2 a3
      generalize sumK h ts k = m at *
      have ew : IntKind.i64.wrap ((m : Int) + (n : Int)) = (m : Int) + (n : Int) := by rw [IntKind.wrap_i64]; omega
      replace hsu := Lib.hid hsu
      go_upto_region 5 with fail
      have c0 := hx3.out.cell 0
      replace p0 := hk3.out.cell 0
      replace p1 := hk3.out.cell 1
      refine tl_begin (fun (w' : World) => w'.cell? ⟨q, 0, none⟩ = some (.int .i64 m) ∧ w'.cell? ⟨wr.heap.size, 0, none⟩ = some (.pointer a0) ∧ w'.cell? ⟨wr.heap.size, 1, none⟩ = some (.pointer b0)) [11] (by kernel_rfl) (⟨c0, p0, p1⟩) (fun hHeld => ?_)
      refine tl_p (i := 0) (v := ?_) rfl (by rfl) (by kernel_rfl) (by kernel_rfl) (by kernel_rfl) (fun _ _ _ h => h) (by rfl) hHeld ?_ ?_
      rotate_left
      · intro w
        go_simp
        try (with_reducible rfl)
      try simp only [Act.put, List.setIfInBounds_toArray, List.set_cons_zero, List.set_cons_succ]
      refine tl_p (i := 1) (v := ?_) rfl (by rfl) (by kernel_rfl) (by kernel_rfl) (by kernel_rfl) (fun _ _ _ h => h) (by rfl) hHeld ?_ ?_
      rotate_left
      · intro w
        go_simp
        try (with_reducible rfl)
      try simp only [Act.put, List.setIfInBounds_toArray, List.set_cons_zero, List.set_cons_succ]
      refine tl_p (i := 2) (v := ?_) rfl (by rfl) (by kernel_rfl) (by kernel_rfl) (by kernel_rfl) (fun _ _ _ h => h) (by rfl) hHeld ?_ ?_
      rotate_left
      · intro w
        go_simp
        try (with_reducible rfl)
      try simp only [Act.put, List.setIfInBounds_toArray, List.set_cons_zero, List.set_cons_succ]
      refine tl_p (i := 3) (v := ?_) rfl (by rfl) (by kernel_rfl) (by kernel_rfl) (by kernel_rfl) (fun _ _ _ h => h) (by rfl) hHeld ?_ ?_
      rotate_left
      · intro w
        go_simp
        try (with_reducible rfl)
      try simp only [Act.put, List.setIfInBounds_toArray, List.set_cons_zero, List.set_cons_succ]
      refine tl_w (i := 4) (v := ?_) rfl (by rfl) (by kernel_rfl) (by kernel_rfl) (by kernel_rfl) (by kernel_rfl) (by kernel_rfl) (fun _ _ _ h => h) (by rfl) hHeld ?_ ?_
      rotate_left
      · intro w hSw
        try dsimp only at hSw
        go_simp
        try (with_reducible rfl)
      try simp only [Act.put, List.setIfInBounds_toArray, List.set_cons_zero, List.set_cons_succ]
      refine tl_w (i := 5) (v := ?_) rfl (by rfl) (by kernel_rfl) (by kernel_rfl) (by kernel_rfl) (by kernel_rfl) (by kernel_rfl) (fun _ _ _ h => h) (by rfl) hHeld ?_ ?_
      rotate_left
      · intro w hSw
        try dsimp only at hSw
        go_simp
        try (with_reducible rfl)
      try simp only [Act.put, List.setIfInBounds_toArray, List.set_cons_zero, List.set_cons_succ]
      refine tl_do (i := 6) rfl (by kernel_rfl) (by rfl) (fun K hK => ?_)
      go_simp
      go_at_call 81
      refine kS.out.mono ?_; rintro e w4 ⟨rfl, hb4⟩
      have hx4 := hx3.out.below hb4
      have hr4 := hr3.out.below hb4
      have hk4 := hk3.out.below hb4
      have hB4 := hB3.out.trans (hb4.mono hs3.out)
      try go_wp2_with fail
      refine hK.out _ _ (⟨hx4.cell 0, hk4.cell 0, hk4.cell 1⟩) (fun hHeld1 => ?_)
      clear hK K hHeld
      have hHeld := hHeld1
      clear hHeld1
      try simp only [Act.put, List.setIfInBounds_toArray, List.set_cons_zero, List.set_cons_succ]
      refine tl_p (i := 7) (v := ?_) rfl (by rfl) (by kernel_rfl) (by kernel_rfl) (by kernel_rfl) (fun _ _ _ h => h) (by rfl) hHeld ?_ ?_
      rotate_left
      · intro w
        go_simp
        try (with_reducible rfl)
      try simp only [Act.put, List.setIfInBounds_toArray, List.set_cons_zero, List.set_cons_succ]
      refine tl_p (i := 8) (v := ?_) rfl (by rfl) (by kernel_rfl) (by kernel_rfl) (by kernel_rfl) (fun _ _ _ h => h) (by rfl) hHeld ?_ ?_
      rotate_left
      · intro w
        go_simp
        try (with_reducible rfl)
      try simp only [Act.put, List.setIfInBounds_toArray, List.set_cons_zero, List.set_cons_succ]
      refine tl_p (i := 9) (v := ?_) rfl (by rfl) (by kernel_rfl) (by kernel_rfl) (by kernel_rfl) (fun _ _ _ h => h) (by rfl) hHeld ?_ ?_
      rotate_left
      · intro w
        go_simp
        try (with_reducible rfl)
      try simp only [Act.put, List.setIfInBounds_toArray, List.set_cons_zero, List.set_cons_succ]
      refine tl_p (i := 10) (v := ?_) rfl (by rfl) (by kernel_rfl) (by kernel_rfl) (by kernel_rfl) (fun _ _ _ h => h) (by rfl) hHeld ?_ ?_
      rotate_left
      · intro w
        go_simp
        try (with_reducible rfl)
      try simp only [Act.put, List.setIfInBounds_toArray, List.set_cons_zero, List.set_cons_succ]
      refine tl_late (by kernel_rfl) ?_
      refine any_do (i := 11) rfl (by kernel_rfl) (by rfl) (fun K hK => ?_)
      have d0 := hx4.cell 0
      have e0 := hx4.frozen 0
      have dq := hx4.lt
      go_simp
      refine hK.out _ _ ?_
      clear hK K
      try simp only [Act.put, List.setIfInBounds_toArray, List.set_cons_zero, List.set_cons_succ]
      refine wpAny_done (by kernel_rfl) ?_ _
      clear hHeld
      have hz := hx4.set 0 (.int .i64 ((m : Int) + (n : Int)))
      have hw := hr4.other (p := ⟨q, 0, none⟩) (by simp only; omega) (.int .i64 ((m : Int) + (n : Int)))
      have hv := hB4.setCell (p := ⟨q, 0, none⟩) (by simp only; omega) (.int .i64 ((m : Int) + (n : Int)))
      rw [show ((m : Int) + (n : Int)) = ((sumK h ts (k + 1) : Nat) : Int) by rw [hsu.out]; omega] at hz hw hv ⊢
      replace hz := Lib.hid hz
      replace hw := Lib.hid hw
      replace hv := Lib.hid hv
      clear hx4 hr4 hk4 hB4 hb4
      go_wp2_with fail
      go_roundw
      case rel => exact ⟨k + 1, by omega, by go_num, hz.out, hw.out, hv.out⟩
      case measure => simp [intOf]; omega
    · obtain rfl : k = ts.length := by omega
      have q1 : ¬ (ts.length : Int) < (ts.length : Int) := by omega
      rw [sumK_all, hN.out] at hx
      have f0 := hr.frozen 0
      have f1 := hr.frozen 1
      have r0 := hr.cell 0
      have r1 := hr.cell 1
      have rl := hr.lt
      have hr5 := (hr.set 0 (.pointer none)).set 1 (ptr q)
      have hx5 := (hx.other (p := ⟨w.heap.size, 0, none⟩) (by simp only; omega) (.pointer none)).other (p := ⟨w.heap.size, 1, none⟩) (by simp only; omega) (ptr q)
      have hB5 := (hB.setCell (p := ⟨w.heap.size, 0, none⟩) (Nat.le_refl _) (.pointer none)).setCell (p := ⟨w.heap.size, 1, none⟩) (Nat.le_refl _) (ptr q)
      replace hr5 := Lib.hid hr5
      replace hx5 := Lib.hid hx5
      replace hB5 := Lib.hid hB5
      clear hx hr hB
      go_wp2_with fail
      exact bodyPost_ret (results_cell_row rfl _ _ w.heap.size _ _ _ _ rfl hr5.out Try.underlying108 rfl (by kernel_rfl)) rfl ⟨_, rfl, Nat.le_of_lt hs2, hx5.out, hB5.out⟩
end Go.Proofs.Ytegomkgfmaclkaa
