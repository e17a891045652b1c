/-
  postelaw5: text, num, alive by their contracts.
-/
import Derived.Test.YtbfcaapompkjhaaHh
set_option linter.unusedVariables false
set_option linter.unusedSimpArgs false
namespace Go.Proofs.Ytbfcaapompkjhaa
open Go.RowKit Go.Proofs.PosteMem

theorem num5_any (w : World) (x : Int) : Calls Try.prog 49 #[.int .i64 x] w fun e w' => e = .returned (.int .i64 x) ∧ w' = w := by
  go_enter Try.func49, Try.ntmps49
  go_wp2
  go_ret
  exact ⟨rfl, rfl⟩
theorem cut700 (w : World) (n : Nat) (h : n ≤ 700) : Calls Try.prog 57 #[.int .i64 n, .int .i64 0, .int .i64 700] w fun e w' => e = .returned (.int .i64 n) ∧ w' = w := by
  have q1 : ¬ (n : Int) < 0 := by omega
  have q2 : ¬ (700 : Int) < (n : Int) := by omega
  go_enter Try.func57, Try.ntmps57
  go_wp2
  go_ret
  exact ⟨rfl, rfl⟩
set_option maxRecDepth 100000 in
set_option maxHeartbeats 8000000 in
theorem text5_any (w : World) (n : Nat) (c : Int) (hn : n ≤ 700) :
    Calls Try.prog 48 #[.int .i64 n, .int .u8 c] w fun e w' => ∃ v, e = .returned v ∧ OB w' w.heap.size v (fillL n c) ∧ Below w.heap.size w w' := by
  obtain ⟨i0, hi0, hz0, hz1, hz2⟩ := info_parts infoByte
  go_enter Try.func48, Try.ntmps48
  go_wp2_with fail
  refine (cut700 w n hn).mono ?_; rintro x w1 ⟨rfl, hw1⟩
  have hw2 := hw1.symm
  subst hw2
  clear hw1
  go_upto_region 3 with (at_make; refine wpList_make_full _ rfl _ _ 27 rfl w.heap.size 5 i0 (.int .u8 0) 1 Try.underlying27 hi0 hz0 hz1 .i64 .i64 _ _ n rfl rfl rfl rfl (by rw [hz2]; omega) (by unfold maxLen; omega) (Nat.le_refl _) ?_; intro w1 hown1 hg1)
  rw [made_bytes] at hown1
  have hb1 : Below w.heap.size w w1 := (Below.refl _ _).grown hg1 (Nat.le_refl _) (by intro k hk; cases hk)
  clear hg1
  go_loopw [6] (fun i wr => ∃ k : Nat, k ≤ n ∧ i = .int .i64 k ∧ wr.ownsRow w.heap.size 5 1 (.slice (some ⟨w.heap.size, 0, none⟩) n n) n (List.replicate k (bv c) ++ List.replicate (n - k) (bv 0)) ∧ Below w.heap.size w wr) (fun i _ => n - (intOf i).toNat)
  case atStart => exact ⟨0, by omega, rfl, hown1, hb1⟩
  case round =>
    obtain ⟨k, hk, rfl, ho, hb⟩ := hrel
    by_cases hlt : k < n
    · have q1 : (k : Int) < (n : Int) := by omega
      obtain ⟨u1, c1⟩ : ∃ u, wr.cell? ⟨w.heap.size, k, none⟩ = some u := ⟨_, own_cell ho k (by omega)⟩
      have f1 := own_free ho k
      have ho2 := own_set ho k (by omega) (bv c)
      rw [fill_next n k c hlt] at ho2
      have hb2 := hb.setCell (p := ⟨w.heap.size, k, none⟩) (Nat.le_refl _) (bv c)
      unfold bv at ho2 hb2
      replace ho2 := Lib.hid ho2
      replace hb2 := Lib.hid hb2
      clear ho hb
      go_wp2_with fail
      go_roundw
      case rel => exact ⟨k + 1, by omega, by go_num, ho2.out, hb2.out⟩
      case measure => simp [intOf]; omega
    · obtain rfl : k = n := by omega
      have q1 : ¬ (k : Int) < (k : Int) := by omega
      go_wp2_with fail
      go_ret
      exact ⟨_, rfl, fill_end ho, hb⟩


theorem open_alive {g : Lg} : Opens (Dk.new 8) ⟨0, 8, 0, 1, [], false⟩ g → g = ⟨0, 8, 0, 1, [], false⟩ := fun h => opens_none h (lnext_no fun hh => by
  rcases new_read 8 0 with h1 | h1
  · simp only at hh; rw [h1] at hh; exact head_not_zero _ _ _ hh.symm
  · simp only at hh; rw [h1] at hh; exact head_not_nil _ _ _ hh.symm)
theorem alive_put : fitsB 8 0 abc.length = true := by decide
theorem open_alive2 {g : Lg} (h : Opens (lputD (Dk.new 8) ⟨0, 8, 0, 1, [], false⟩ abc) ⟨0, 8, 0, 1, [], false⟩ g) : g.recs = [abc] := by
  have P := lput_facts (free_new 8 (by decide)) (g := ⟨0, 8, 0, 1, [], false⟩) (b := abc) (by show (0 : Int) ≤ 0; decide) alive_put (by rw [new_len]; show (8 : Int) ≤ 8; decide) (by decide)
  generalize lputD (Dk.new 8) ⟨0, 8, 0, 1, [], false⟩ abc = D at *
  obtain ⟨a1, a2, a3, a4, a5, a6, a7, a8, a9⟩ := P
  simp only at a5 a6 a7
  have hn : needI (abc.length : Int) = 1 := by decide
  have x1 : lnext D ⟨0, 8, 0, 1, [], false⟩ = some ⟨0, 8, 2, 1, [abc], false⟩ := by
    rw [lnext_hit (s := abc.length) ⟨by decide, by decide⟩ (by decide) a5 alive_put]
    unfold Lg.with
    simp only
    rw [a7, hn]
    rfl
  have y1 := opens_some h (show fitsB 8 0 0 = true by decide) x1
  have x2 : lnext D ⟨0, 8, 2, 1, [abc], false⟩ = none := by
    refine lnext_no fun hh => ?_
    simp only at hh
    have hz := a6 (by rw [hn]; decide)
    rw [hn] at hz
    rw [show (0 : Int) + 1 + 1 = 2 by decide] at hz
    rw [hz] at hh
    exact head_not_zero _ _ _ hh.symm
  rw [opens_none y1 x2]

set_option maxRecDepth 100000 in
set_option maxHeartbeats 8000000 in
theorem alive5 (w : World) : Calls Try.prog 45 #[] w fun e w' => e = .returned (.bool true) ∧ Below w.heap.size w w' := by
  have kcs := fun (w : World) (C : Array Value) (n c : Nat) => Lib.run_convert_bytes_const (P := Try.prog) w 27 5 C n c Try.underlying27 Try.underlying5
  have f0 := free_new 8 (by decide)
  have hS : Small ⟨0, 8, 0, 1, [], false⟩ := ⟨by decide, by decide, by decide, by decide, by decide⟩
  have hab : byteL abc := fun x hx => by
    simp only [abc, List.mem_cons, List.not_mem_nil, or_false] at hx
    rcases hx with rfl | rfl | rfl <;> omega
  have P := lput_facts f0 (g := ⟨0, 8, 0, 1, [], false⟩) (b := abc) (by show (0 : Int) ≤ 0; decide) alive_put (by rw [new_len]; show (8 : Int) ≤ 8; decide) (by decide)
  have hfit2 := P.fit (Fit.new 8) hab
  have hlen2 := P.len
  rw [new_len] at hlen2
  have ho2 := @open_alive2
  go_enter Try.func45, Try.ntmps45
  go_wp2_with fail
  refine (hd_new (Below.refl w.heap.size w) 8).mono ?_; rintro e w1 ⟨rfl, h1, hb1⟩
  rw [show many 8 = 8 from rfl] at h1
  have kO := Lib.hid (open_any h1 f0.ok (Fit.new 8) 0 8 1 (by decide) (by decide) (by rw [new_len]; decide))
  clear h1
  go_wp2_with fail
  refine kO.out.mono ?_; rintro e w2 ⟨q, g, rfl, hO, hL, hkp⟩
  obtain rfl := open_alive hO
  have kR := Lib.hid (records_any hL (by decide) (fun b hb => by cases hb))
  replace hL := Lib.hid hL
  clear kO hO hkp
  go_wp2_with fail
  refine kR.out.mono ?_; rintro e w3 ⟨v3, rfl, hB3, hb3⟩
  have hL3 := hL.out.below hb3
  obtain ⟨hs3, ho3, _⟩ := hB3
  obtain ⟨A3, c3, rfl, _, _, _⟩ := own_shape ho3
  have hv : VB (w3.alloc (.cells #[.int .u8 97, .int .u8 98, .int .u8 99] 5 (3, 4))) (.slice (some ⟨w3.heap.size, 0, none⟩) 3 3) abc := lit_view w3 abc (3, 4) (by decide)
  have h4 := hL3.client ((Below.refl w3.heap.size w3).alloc (Nat.le_refl _) (.cells #[.int .u8 97, .int .u8 98, .int .u8 99] 5 (3, 4)))
  have kA := Lib.hid (lappend_free h4 f0 hS rfl hv (fun x hx => by injection hx with hx; subst hx; exact .inr ⟨Nat.le_refl _, by simp⟩) (by decide) (by simp [Dk.new]) (by simp [Dk.new]) alive_put (by rw [new_len]; show (8 : Int) ≤ 8; decide))
  clear hL3 hv h4 ho3 hL kR hb3
  go_wp2_with fail
  refine kA.out.mono ?_; rintro e w5 ⟨rfl, hL5, _, hF5⟩
  obtain ⟨v5, hs5, M5, hLa⟩ := hL5
  have kO := Lib.hid (open_any hLa.hd hF5.ok hfit2 0 8 1 (by decide) (by decide) (by rw [hlen2]; decide))
  clear hLa kA
  go_wp2_with fail
  refine kO.out.mono ?_; rintro e w6 ⟨q6, g6, rfl, hO6, hL6, _⟩
  have hrec := ho2 hO6
  have hacc := Lib.hid hL6.acc
  have kM := Lib.hid (num5_any w6 0)
  have kR := Lib.hid (records_any hL6 (by rw [hrec]; decide) (fun b hb => by rw [hrec] at hb; simp only [List.mem_cons, List.not_mem_nil, or_false] at hb; subst hb; decide))
  rw [hrec] at kR
  clear kO hO6 hL6 hrec
  go_wp2_with fail
  refine kM.out.mono ?_; rintro x w7 ⟨rfl, hw1⟩
  have hw2 := hw1.symm
  subst hw2
  clear hw1 kM
  go_wp2_with fail
  refine kR.out.mono ?_; rintro e w8 ⟨v8, rfl, hB8, hb8⟩
  obtain ⟨hs8, ho8, _⟩ := hB8
  obtain ⟨A8, c8, rfl, _, _, _⟩ := own_shape ho8
  have hfin := Lib.hid (below_then hacc.out hb8)
  clear ho8 hb8 kR
  go_wp2_with fail
  go_ret
  exact ⟨rfl, hfin.out⟩
end Go.Proofs.Ytbfcaapompkjhaa
