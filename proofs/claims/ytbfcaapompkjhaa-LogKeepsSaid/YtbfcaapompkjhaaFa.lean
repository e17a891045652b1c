/-
  span: Need, Is, Fill by their contracts.
-/
import Derived.Test.YtbfcaapompkjhaaDj
set_option linter.unusedVariables false
set_option linter.unusedSimpArgs false
namespace Go.Proofs.Ytbfcaapompkjhaa
open Go.RowKit Go.Proofs.PosteMem
attribute [local go_sem ↓] Go.wp_at_zero Go.wp_at_succ

/-- How many sectors n bytes take. -/
def need (n : Nat) : Nat := (n + 63) / 64
def needI (n : Int) : Int := if n < 1 then 0 else (n - 1) / 64 + 1
theorem needI_nat (n : Nat) : needI n = (need n : Nat) := by
  unfold needI need
  split <;> omega
theorem need_lo (n : Nat) : n ≤ 64 * need n := by unfold need; omega
theorem need_hi (n : Nat) : 64 * need n < n + 64 := by unfold need; omega
theorem needI_le {n : Int} (h : n ≤ 9223372036854775807) : 0 ≤ needI n ∧ needI n ≤ 144115188075855872 := by
  unfold needI
  split <;> omega
set_option maxHeartbeats 1000000 in
theorem need_any (w : World) (n : Int) (h : n ≤ 9223372036854775807) : Calls Try.prog 36 #[.int .i64 n] w fun e w' => e = .returned (.int .i64 (needI n)) ∧ w' = w := by
  unfold needI
  by_cases h1 : n < 1
  · rw [if_pos h1]
    go_enter Try.func36, Try.ntmps36
    go_wp2_with fail
    go_ret
    exact ⟨rfl, rfl⟩
  · rw [if_neg h1]
    have q1 : IntKind.i64.wrap (n - 1) = n - 1 := IntWalk.i64_in _ (by omega)
    have q2 : Int.tdiv (n - 1) 64 = (n - 1) / 64 := Int.tdiv_eq_ediv_of_nonneg (by omega)
    have q3 : IntKind.i64.wrap ((n - 1) / 64) = (n - 1) / 64 := IntWalk.i64_in _ (by omega)
    have q4 : IntKind.i64.wrap ((n - 1) / 64 + 1) = (n - 1) / 64 + 1 := IntWalk.i64_in _ (by omega)
    go_enter Try.func36, Try.ntmps36
    go_wp2_with fail
    go_ret
    exact ⟨rfl, rfl⟩
set_option maxHeartbeats 1000000 in
theorem rneed_any (w : World) (n : Int) (h : n ≤ 9223372036854775807) : Calls Try.prog 33 #[.int .i64 n] w fun e w' => e = .returned (.int .i64 (needI n)) ∧ w' = w := by
  unfold needI
  by_cases h1 : n < 1
  · rw [if_pos h1]
    go_enter Try.func33, Try.ntmps33
    go_wp2_with fail
    go_ret
    exact ⟨rfl, rfl⟩
  · rw [if_neg h1]
    have q1 : IntKind.i64.wrap (n - 1) = n - 1 := IntWalk.i64_in _ (by omega)
    have q2 : Int.tdiv (n - 1) 64 = (n - 1) / 64 := Int.tdiv_eq_ediv_of_nonneg (by omega)
    have q3 : IntKind.i64.wrap ((n - 1) / 64) = (n - 1) / 64 := IntWalk.i64_in _ (by omega)
    have q4 : IntKind.i64.wrap ((n - 1) / 64 + 1) = (n - 1) / 64 + 1 := IntWalk.i64_in _ (by omega)
    go_enter Try.func33, Try.ntmps33
    go_wp2_with fail
    go_ret
    exact ⟨rfl, rfl⟩
/-- Do n sectors from at on lie there? -/
def isB (len : Nat) (at' n : Int) : Bool := decide (0 ≤ at' ∧ at' ≤ len ∧ n ≤ len - at')
set_option maxHeartbeats 1000000 in
theorem is_any {w W : World} {p : Nat} {D : Dk} {C : Nat → Prop} (h : Hd w W p D C) (hk : D.ok) (at' n : Int) :
    Calls Try.prog 60 #[.pointer (some ⟨p, 0, none⟩), .int .i64 at', .int .i64 n] W fun e w' => e = .returned (.bool (isB D.now.length at' n)) ∧ w' = W := by
  have kL := Lib.hid (hd_len h)
  have hm := hk.max
  unfold isB
  by_cases h1 : 0 ≤ at'
  · by_cases h2 : at' ≤ D.now.length
    · have q1 : IntKind.i64.wrap ((D.now.length : Int) - at') = (D.now.length : Int) - at' := IntWalk.i64_in _ (by omega)
      clear h hk
      go_enter Try.func60, Try.ntmps60
      go_wp2_with fail
      refine kL.out.mono ?_; rintro e w1 ⟨rfl, rfl⟩
      go_wp2_with fail
      refine kL.out.mono ?_; rintro e w1 ⟨rfl, rfl⟩
      go_wp2_with fail
      go_ret
      refine ⟨ret_bool ?_, rfl⟩
      rw [Bool.eq_iff_iff, decide_eq_true_eq, decide_eq_true_eq]
      omega
    · clear h hk
      have e : decide (0 ≤ at' ∧ at' ≤ (D.now.length : Int) ∧ n ≤ (D.now.length : Int) - at') = false := decide_eq_false (by omega)
      rw [e]
      go_enter Try.func60, Try.ntmps60
      go_wp2_with fail
      refine kL.out.mono ?_; rintro e w1 ⟨rfl, rfl⟩
      go_wp2_with fail
      go_ret
      exact ⟨rfl, rfl⟩
  · clear h hk
    have e : decide (0 ≤ at' ∧ at' ≤ (D.now.length : Int) ∧ n ≤ (D.now.length : Int) - at') = false := decide_eq_false (by omega)
    rw [e]
    go_enter Try.func60, Try.ntmps60
    go_wp2_with fail
    go_ret
    exact ⟨rfl, rfl⟩
/-- Bytes, filled up to whole sectors. -/
def fillB (b : List Int) : List Int := b ++ List.replicate (64 * need b.length - b.length) 0
theorem fillB_len (b : List Int) : (fillB b).length = 64 * need b.length := by
  have := need_lo b.length
  unfold fillB
  simp
  omega
theorem splice_fill (b : List Int) : splice (List.replicate (64 * need b.length) (bv 0)) 0 (b.map bv) = (fillB b).map bv := by
  have := need_lo b.length
  unfold splice fillB
  simp
set_option maxRecDepth 100000 in
set_option maxHeartbeats 4000000 in
theorem fillS (w : World) (v : Value) (b : List Int) (hv : VB w v b) (hn : b.length ≤ 1000000) :
    Calls Try.prog 61 #[v] w fun e w' => ∃ v', e = .returned v' ∧ OB w' w.heap.size v' (fillB b) ∧ Below w.heap.size w w' := by
  obtain ⟨j0, hj0, hy0, hy1, hy2⟩ := info_parts infoByte
  obtain ⟨A, cap, rfl, _, _⟩ := hv.cells
  have kN := Lib.hid (need_any w b.length (by omega))
  rw [needI_nat] at kN
  have hlo := need_lo b.length
  have hhi := need_hi b.length
  have hsp := Lib.hid (splice_fill b)
  have hfl := Lib.hid (fillB_len b)
  generalize need b.length = K at *
  have q1 : IntKind.i64.wrap ((K : Int) * 64) = ((64 * K : Nat) : Int) := by rw [IntWalk.i64_in _ (by omega)]; omega
  replace hv := Lib.hid hv
  go_enter Try.func61, Try.ntmps61
  go_wp2_with fail
  refine kN.out.mono ?_; rintro e w1 ⟨rfl, hw1⟩
  have hw2 := hw1.symm
  subst hw2
  clear hw1 kN
  go_upto_region 2 with (at_make; refine wpList_make_full _ rfl _ _ 27 rfl w.heap.size 5 j0 (.int .u8 0) 1 Try.underlying27 hj0 hy0 hy1 .i64 .i64 _ _ (64 * K) rfl rfl (by first | rfl | omega) (by first | rfl | omega) (by rw [hy2]; omega) (by unfold maxLen; omega) (Nat.le_refl _) ?_; intro w3 hown3 hg3; rw [made_bytes] at hown3)
  have hb3 : Below w.heap.size w w3 := (Below.refl _ _).grown hg3 (Nat.le_refl _) (by intro k hk; cases hk)
  obtain ⟨w4, hr4, ho4, hu4⟩ := run_copy_in (P := Try.prog) 27 27 3 j0 Try.underlying27 hj0 hy1 hown3 0 (64 * K) (64 * K) (.slice A b.length cap) b.length (b.map bv) (View.below hv.out hb3) (bv_one b) (by simp only [Nat.mul_one, Nat.zero_add]; exact Nat.min_le_right _ _)
  have hmin : Nat.min b.length (64 * K) = b.length := Nat.min_eq_left hlo
  have htake : (b.map bv).take (Nat.min b.length (64 * K) * 1) = b.map bv := by rw [hmin, Nat.mul_one, List.take_of_length_le (by simp)]
  rw [htake, hsp.out] at ho4
  have hb4 : Below w.heap.size w w4 := hb3.trans (hu4.below hb3.size (fun b e => by have := (own_lt hown3 rfl).1; omega))
  replace ho4 := Lib.hid ho4
  replace hb4 := Lib.hid hb4
  clear hown3 hg3 hb3 hu4 htake
  go_wp2_with fail
  go_ret
  refine ⟨_, rfl, ?_, hb4.out⟩
  unfold OB
  rw [hfl.out]
  exact ho4.out
end Go.Proofs.Ytbfcaapompkjhaa
