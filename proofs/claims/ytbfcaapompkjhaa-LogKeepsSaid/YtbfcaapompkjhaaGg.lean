/-
  postelaw6: text, num, alive by their contracts; a disk on which epoch after epoch was written.
-/
import Derived.Test.YtbfcaapompkjhaaGf
set_option linter.unusedVariables false
set_option linter.unusedSimpArgs false
namespace Go.Proofs.Ytbfcaapompkjhaa
open Go.RowKit Go.Proofs.PosteMem

theorem num6_any (w : World) (x : Int) : Calls Try.prog 42 #[.int .i64 x] w fun e w' => e = .returned (.int .i64 x) ∧ w' = w := by
  go_enter Try.func42, Try.ntmps42
  go_wp2
  go_ret
  exact ⟨rfl, rfl⟩
theorem cut900 (w : World) (n : Nat) (h : n ≤ 900) : Calls Try.prog 57 #[.int .i64 n, .int .i64 0, .int .i64 900] w fun e w' => e = .returned (.int .i64 n) ∧ w' = w := by
  have q1 : ¬ (n : Int) < 0 := by omega
  have q2 : ¬ (900 : Int) < (n : Int) := by omega
  go_enter Try.func57, Try.ntmps57
  go_wp2
  go_ret
  exact ⟨rfl, rfl⟩
theorem fillL_byteL (n : Nat) {c : Int} (h : 0 ≤ c ∧ c < 256) : byteL (fillL n c) := fun x hx => by
  unfold fillL at hx
  rw [List.eq_of_mem_replicate hx]
  exact h

set_option maxRecDepth 100000 in
set_option maxHeartbeats 8000000 in
theorem text6_any (w : World) (n : Nat) (c : Int) (hn : n ≤ 900) :
    Calls Try.prog 41 #[.int .i64 n, .int .u8 c] w fun e w' => ∃ v, e = .returned v ∧ OB w' w.heap.size v (fillL n c) ∧ Below w.heap.size w w' := by
  obtain ⟨i0, hi0, hz0, hz1, hz2⟩ := info_parts infoByte
  go_enter Try.func41, Try.ntmps41
  go_wp2_with fail
  refine (cut900 w n hn).mono ?_; rintro x w1 ⟨rfl, hw1⟩
  have hw2 := hw1.symm
  subst hw2
  clear hw1
  go_upto_region 3 with (at_make; refine wpList_make_full _ rfl _ _ 27 rfl w.heap.size 5 i0 (.int .u8 0) 1 Try.underlying27 hi0 hz0 hz1 .i64 .i64 _ _ n rfl rfl rfl rfl (by rw [hz2]; omega) (by unfold maxLen; omega) (Nat.le_refl _) ?_; intro w1 hown1 hg1)
  rw [made_bytes] at hown1
  have hb1 : Below w.heap.size w w1 := (Below.refl _ _).grown hg1 (Nat.le_refl _) (by intro k hk; cases hk)
  clear hg1
  go_loopw [6] (fun i wr => ∃ k : Nat, k ≤ n ∧ i = .int .i64 k ∧ wr.ownsRow w.heap.size 5 1 (.slice (some ⟨w.heap.size, 0, none⟩) n n) n (List.replicate k (bv c) ++ List.replicate (n - k) (bv 0)) ∧ Below w.heap.size w wr) (fun i _ => n - (intOf i).toNat)
  case atStart => exact ⟨0, by omega, rfl, hown1, hb1⟩
  case round =>
    obtain ⟨k, hk, rfl, ho, hb⟩ := hrel
    by_cases hlt : k < n
    · have q1 : (k : Int) < (n : Int) := by omega
      obtain ⟨u1, c1⟩ : ∃ u, wr.cell? ⟨w.heap.size, k, none⟩ = some u := ⟨_, own_cell ho k (by omega)⟩
      have f1 := own_free ho k
      have ho2 := own_set ho k (by omega) (bv c)
      rw [fill_next n k c hlt] at ho2
      have hb2 := hb.setCell (p := ⟨w.heap.size, k, none⟩) (Nat.le_refl _) (bv c)
      unfold bv at ho2 hb2
      replace ho2 := Lib.hid ho2
      replace hb2 := Lib.hid hb2
      clear ho hb
      go_wp2_with fail
      go_roundw
      case rel => exact ⟨k + 1, by omega, by go_num, ho2.out, hb2.out⟩
      case measure => simp [intOf]; omega
    · obtain rfl : k = n := by omega
      have q1 : ¬ (k : Int) < (k : Int) := by omega
      go_wp2_with fail
      go_ret
      exact ⟨_, rfl, fill_end ho, hb⟩

/-- A disk on which the epochs up to k were written, the last one of bytes b. -/
structure Eps (D : Dk) (at' area : Int) (L k : Nat) (b : List Int) : Prop where
  free : Free D
  fit : Fit D
  len : D.now.length = L
  uns : D.uns = []
  few : D.written ≤ 20 * k
  last : 1 ≤ k → readR D at' area ((k : Int) % 2) = some ((k : Int), b)
  old : ∀ e b', readR D at' area ((k : Int) % 2) = some (e, b') → e ≤ k
theorem writeR_few {D : Dk} (hk : D.ok) (at' area e : Int) (b : List Int) : (writeR D at' area e b).1.written ≤ D.written + need b.length + 1 := by
  obtain ⟨g1, _, g3⟩ := put_few hk (placeR at' area e) b
  have g2 := (sync_few (D.put (placeR at' area e) b).1).1
  have g4 := (write_few (D.put (placeR at' area e) b).1.sync.1 (at' + e % 2) (rootB e b.length)).1
  have g5 := (sync_few ((D.put (placeR at' area e) b).1.sync.1.write (at' + e % 2) (rootB e b.length)).1).1
  unfold writeR
  split
  · simp only; omega
  · split
    · simp only; omega
    · split
      · simp only; omega
      · omega
theorem writeR_fit {D : Dk} (h : Fit D) (at' area e : Int) {b : List Int} (hb : byteL b) : Fit (writeR D at' area e b).1 := by
  have g1 := h.put (placeR at' area e) hb
  unfold writeR
  split
  · exact g1
  · split
    · exact g1.sync
    · split
      · exact g1.sync.write _ (rootB_byteL _ _)
      · exact (g1.sync.write _ (rootB_byteL _ _)).sync
theorem Eps.new (L : Nat) (h : L ≤ 4096) (at' area : Int) : Eps (Dk.new L) at' area L 0 [] := ⟨free_new L h, Fit.new L, new_len L, rfl, Nat.zero_le _, fun h => by omega, fun e b' h => by rw [readR_new] at h; cases h⟩
theorem Eps.next {D : Dk} {at' area : Int} {L k : Nat} {b b' : List Int} (h : Eps D at' area L k b) (h0 : 0 ≤ at') (h1 : at' + 2 + 2 * area ≤ L) (h2 : 1 ≤ area) (h3 : area ≤ 10) (hk : k ≤ 1000) (hb : (b'.length : Int) ≤ area * 64) (hbb : byteL b') :
    (writeR D at' area ((k : Int) + 1) b').2 = true ∧ Eps (writeR D at' area ((k : Int) + 1) b').1 at' area L (k + 1) b' ∧ readAll (writeR D at' area ((k : Int) + 1) b').1 at' area = some ((k : Int) + 1, b') := by
  obtain ⟨w1, w2, w3, w4, w5, w6, w7⟩ := write_free h.free (at' := at') (area := area) (e := (k : Int) + 1) (b := b') h0 (by rw [h.len]; exact h1) h2 (by omega) (by omega) (by omega) hb
  have hpar : (1 : Int) - ((k : Int) + 1) % 2 = (k : Int) % 2 := by omega
  rw [hpar] at w7
  have hfew := writeR_few h.free.ok at' area ((k : Int) + 1) b'
  have hnb : need b'.length ≤ 10 := by unfold need; omega
  refine ⟨w1, ⟨w2, writeR_fit h.fit _ _ _ hbb, by rw [w3, h.len], w4, by have := h.few; omega, fun _ => by push_cast; exact w6, fun e b'' he => ?_⟩, ?_⟩
  · push_cast at he
    rw [w6] at he
    cases he
    omega
  · refine best_of (by omega) w6 fun e b'' he => ?_
    rw [hpar, w7] at he
    have := h.old e b'' he
    omega
/-- One of an elder epoch of the other place. -/
theorem Eps.elder {D : Dk} {at' area e0 : Int} {L k : Nat} {b b' : List Int} (h : Eps D at' area L k b) (h0 : 0 ≤ at') (h1 : at' + 2 + 2 * area ≤ L) (h2 : 1 ≤ area) (h3 : area ≤ 10) (hb : (b'.length : Int) ≤ area * 64) (he1 : 1 ≤ e0) (he2 : e0 < k) (hp : e0 % 2 ≠ (k : Int) % 2) (hk : k ≤ 1000) :
    (writeR D at' area e0 b').2 = true ∧ readAll (writeR D at' area e0 b').1 at' area = some ((k : Int), b) := by
  obtain ⟨w1, w2, w3, w4, w5, w6, w7⟩ := write_free h.free (at' := at') (area := area) (e := e0) (b := b') h0 (by rw [h.len]; exact h1) h2 (by omega) he1 (by omega) hb
  refine ⟨w1, best_of (by omega) ?_ fun e b'' he => ?_⟩
  · have hpar : (1 : Int) - e0 % 2 = (k : Int) % 2 := by omega
    rw [hpar] at w7
    rw [w7]
    exact h.last (by omega)
  · have hpar : (1 : Int) - (k : Int) % 2 = e0 % 2 := by omega
    rw [hpar, w6] at he
    cases he
    exact he2

theorem rootNeed_any (w : World) (area : Int) (h1 : 1 ≤ area) (h2 : area ≤ 1000) : Calls Try.prog 40 #[.int .i64 area] w fun e w' => e = .returned (.int .i64 (2 + 2 * area)) ∧ w' = w := by
  have kC := Lib.hid (cutA_any w area)
  have hcut : cutA area = area := by unfold cutA; rw [if_neg (by omega), if_neg (by omega)]
  rw [hcut] at kC
  go_enter Try.func40, Try.ntmps40
  go_wp2_with fail
  refine kC.out.mono ?_; rintro x w1 ⟨rfl, hw1⟩
  have hw2 := hw1.symm
  subst hw2
  clear hw1
  go_wp2_with fail
  go_ret
  exact ⟨rfl, rfl⟩

set_option maxRecDepth 100000 in
set_option maxHeartbeats 8000000 in
theorem alive6 (w : World) : Calls Try.prog 39 #[] w fun e w' => e = .returned (.bool true) ∧ Below w.heap.size w w' := by
  have E0 := Eps.new 8 (by decide) 0 2
  have hab : byteL abc := fun x hx => by
    simp only [abc, List.mem_cons, List.not_mem_nil, or_false] at hx
    rcases hx with rfl | rfl | rfl <;> omega
  obtain ⟨g1, g2, g3⟩ := E0.next (b' := abc) (by decide) (by decide) (by decide) (by decide) (by decide) (by decide) hab
  have hr0 : readAll (Dk.new 8) 0 2 = none := by
    unfold readAll best
    rw [readR_new, readR_new]
    simp
  have kN := Lib.hid (fun W => rootNeed_any W 1 (by decide) (by decide))
  have kcs := fun (w : World) (C : Array Value) (n c : Nat) => Lib.run_convert_bytes_const (P := Try.prog) w 27 5 C n c Try.underlying27 Try.underlying5
  go_enter Try.func39, Try.ntmps39
  go_wp2_with fail
  refine (hd_new (Below.refl w.heap.size w) 8).mono ?_; rintro e w1 ⟨rfl, h1, hb1⟩
  rw [show many 8 = 8 from rfl] at h1
  have kR := readAll_any h1 E0.free.ok E0.fit 0 2 (by decide) (by rw [new_len]; decide) (by decide) (by decide)
  rw [hr0] at kR
  replace h1 := Lib.hid h1
  replace kR := Lib.hid kR
  go_wp2_with fail
  refine kR.out.mono ?_; rintro e w2 ⟨v2, rfl, hv2, hb2⟩
  have h2 := h1.out.below hb2
  obtain ⟨A2, c2, rfl, _⟩ := hv2.cells
  have hv : VB (w2.alloc (.cells #[.int .u8 97, .int .u8 98, .int .u8 99] 5 (3, 4))) (.slice (some ⟨w2.heap.size, 0, none⟩) 3 3) abc := lit_view w2 abc (3, 4) (by decide)
  have h3 := h2.below ((Below.refl w2.heap.size w2).alloc (Nat.le_refl _) (.cells #[.int .u8 97, .int .u8 98, .int .u8 99] 5 (3, 4)))
  have kW := Lib.hid (writeR_any h3 E0.free.ok 0 2 1 (by decide) (by rw [new_len]; decide) (by decide) (by decide) (by decide) hv (by decide) (by simp [Dk.new]) (by simp [Dk.new]))
  rw [show (1 : Int) = ((0 : Nat) : Int) + 1 from rfl, g1] at kW
  clear hv h3 h2 h1 hv2 kR
  go_wp2_with fail
  refine kW.out.mono ?_; rintro e w4 ⟨rfl, h4, _⟩
  have kR := readAll_any h4 g2.free.ok g2.fit 0 2 (by decide) (by rw [g2.len]; decide) (by decide) (by decide)
  rw [g3] at kR
  replace h4 := Lib.hid h4
  replace kR := Lib.hid kR
  clear kW
  go_wp2_with fail
  refine kR.out.mono ?_; rintro e w5 ⟨v5, rfl, hv5, hb5⟩
  have h5 := h4.out.below hb5
  have hc := conv_any w5 _ _ (show VB w5 v5 abc from hv5)
  rw [str_abc] at hc
  have hv5' : VB w5 v5 abc := hv5
  obtain ⟨A5, c5, rfl, _⟩ := hv5'.cells
  have hacc := Lib.hid h5.acc
  have kM := Lib.hid (num6_any w5 0)
  have kNN := Lib.hid (kN.out w5)
  have e0 : ep (some (((0 : Nat) : Int) + 1, abc)) = 1 := rfl
  rw [e0]
  clear hv5 hv5' h5 hb5 kR h4
  go_wp2_with fail
  refine kNN.out.mono ?_; rintro x w6 ⟨rfl, hw1⟩
  have hw2 := hw1.symm
  subst hw2
  clear hw1
  go_wp2_with fail
  refine kM.out.mono ?_; rintro x w6 ⟨rfl, hw1⟩
  have hw2 := hw1.symm
  subst hw2
  clear hw1
  go_wp2_with fail
  go_ret
  exact ⟨rfl, hacc.out⟩
end Go.Proofs.Ytbfcaapompkjhaa
