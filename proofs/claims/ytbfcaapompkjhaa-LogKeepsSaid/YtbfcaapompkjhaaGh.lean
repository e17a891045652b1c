/-
  RootsLast: its walk.
-/
import Derived.Test.YtbfcaapompkjhaaGg
import Derived.Test.YtbfcaapompkjhaaOpenV
set_option linter.unusedVariables false
set_option linter.unusedSimpArgs false
namespace Go.Proofs.Ytbfcaapompkjhaa
open Go.RowKit Go.Proofs.PosteMem Go.Proofs.PosteOpen
attribute [local go_sem ↓] Go.wp_at_zero Go.wp_at_succ

theorem ints_at {W : World} {A : Option Addr} {cap : Nat} {l : List Int} (h : View W 1 (.slice A l.length cap) l.length (l.map (.int .i64))) (k : Nat) (hk : k < l.length) :
    ∃ b off, A = some ⟨b, off, none⟩ ∧ b < W.heap.size ∧ W.cell? ⟨b, off + k, none⟩ = some (.int .i64 (l.getD k 0)) := by
  obtain ⟨lb, lo, lc, e2, _, _, hll, hlc⟩ := h.at_ (show 0 < l.length * 1 by omega)
  injection e2 with e2 e3 e4
  exact ⟨lb, lo, e2, hll, hlc k _ (by simp [hk, List.getD_eq_getElem?_getD])⟩
theorem low511 (x : Int) : ∃ m : Nat, bits .and .i64 x 511 = (m : Int) ∧ m ≤ 511 ∧ (m : Int) = x % 512 := by
  have h : bits .and .i64 x 511 = x % 512 := Go.Proofs.PosteMem.bits_mask x 9 (by decide)
  exact ⟨(x % 512).toNat, by rw [h]; omega, by omega, by omega⟩
/-- The law's k-th image. -/
def img (l : List Int) (k : Nat) : List Int := fillL ((l.getD k 0) % 512).toNat ((k : Int) + 1)
theorem img_len (l : List Int) (k : Nat) : ((img l k).length : Int) ≤ 511 := by unfold img; rw [fillL_len]; omega

set_option maxRecDepth 100000 in
set_option maxHeartbeats 8000000 in
theorem last_core (w : World) (A : Option Addr) (cap : Nat) (l : List Int) (elder : Int) (h : View w 1 (.slice A l.length cap) l.length (l.map (.int .i64))) :
    Calls Try.prog 10 #[.slice A l.length cap, .int .i64 elder] w fun e w' => e = .returned (.bool true) ∧ Below w.heap.size w w' := by
  replace h := Lib.hid h
  have hcases : l.length < 2 ∨ (2 ≤ l.length ∧ 20 < l.length) ∨ (2 ≤ l.length ∧ l.length ≤ 20 ∧ elder < 1) ∨ (2 ≤ l.length ∧ l.length ≤ 20 ∧ 1 ≤ elder ∧ (l.length : Int) - 1 ≤ elder) ∨ (2 ≤ l.length ∧ l.length ≤ 20 ∧ 1 ≤ elder ∧ elder < (l.length : Int) - 1) := by omega
  rcases hcases with g1 | ⟨g1, g2⟩ | ⟨g1, g2, g3⟩ | ⟨g1, g2, g3, g4⟩ | ⟨g1, g2, g3, g4⟩
  · have q1 : (l.length : Int) < 2 := by omega
    go_enter Try.func10, Try.ntmps10
    go_wp2_with fail
    refine (alive6 _).mono ?_; rintro e w1 ⟨rfl, hb1⟩
    go_wp2
    go_ret
    exact ⟨rfl, hb1⟩
  · have q1 : ¬ (l.length : Int) < 2 := by omega
    have q2 : (20 : Int) < (l.length : Int) := by omega
    go_enter Try.func10, Try.ntmps10
    go_wp2_with fail
    refine (alive6 _).mono ?_; rintro e w1 ⟨rfl, hb1⟩
    go_wp2
    go_ret
    exact ⟨rfl, hb1⟩
  · have q1 : ¬ (l.length : Int) < 2 := by omega
    have q2 : ¬ (20 : Int) < (l.length : Int) := by omega
    go_enter Try.func10, Try.ntmps10
    go_wp2_with fail
    refine (alive6 _).mono ?_; rintro e w1 ⟨rfl, hb1⟩
    go_wp2
    go_ret
    exact ⟨rfl, hb1⟩
  · have q1 : ¬ (l.length : Int) < 2 := by omega
    have q2 : ¬ (20 : Int) < (l.length : Int) := by omega
    have q3 : ¬ elder < 1 := by omega
    go_enter Try.func10, Try.ntmps10
    go_wp2_with fail
    refine (alive6 _).mono ?_; rintro e w1 ⟨rfl, hb1⟩
    go_wp2
    go_ret
    exact ⟨rfl, hb1⟩
  have q1 : ¬ (l.length : Int) < 2 := by omega
  have q2 : ¬ (20 : Int) < (l.length : Int) := by omega
  have q3 : ¬ elder < 1 := by omega
  have q4 : ¬ (l.length : Int) - 1 ≤ elder := by omega
  have kN := Lib.hid (fun W => rootNeed_any W 8 (by decide) (by decide))
  go_enter Try.func10, Try.ntmps10
  go_wp2_with fail
  refine (alive6 _).mono ?_; rintro e w1 ⟨rfl, hb1⟩
  go_wp2_with fail
  refine (kN.out _).mono ?_; rintro x w2 ⟨rfl, hw1⟩
  have hw2 := hw1.symm
  subst hw2
  clear hw1 kN
  go_wp2_with fail
  refine (hd_new hb1 21).mono ?_; rintro e w2 ⟨rfl, h2, hb2⟩
  rw [show many 21 = 21 from rfl] at h2
  have E0 := Eps.new 21 (by decide) 3 8
  have h2' : Hd w w2 w1.heap.size (Dk.new 21) (fun _ => False) := h2.mono (fun _ hh => hh.elim)
  generalize w1.heap.size = p at *
  clear h2 hb2
  go_upto_region 7 with fail
  have e1 : decide ((l.length : Int) < 2) = false := decide_eq_false (by omega)
  have e2 : decide ((20 : Int) < (l.length : Int)) = false := decide_eq_false (by omega)
  have e3 : decide (elder < 1) = false := decide_eq_false (by omega)
  have e4 : decide ((l.length : Int) - 1 ≤ elder) = false := decide_eq_false (by omega)
  simp only [e1, e2, e3, e4, Bool.or_false]
  clear e1 e2 e3 e4 q1 q2 q3 q4
  go_loopw [8] (fun i wr => ∃ (k : Nat) (D : Dk), k ≤ l.length ∧ i = .int .i64 k ∧ Hd w wr p D (fun _ => False) ∧ Eps D 3 8 21 k (img l (k - 1))) (fun i _ => l.length - (intOf i).toNat)
  case atStart => exact ⟨0, _, by omega, rfl, h2', by
    refine ⟨E0.free, E0.fit, E0.len, E0.uns, E0.few, fun h => by omega, E0.old⟩⟩
  case round =>
    clear h2' E0
    obtain ⟨k, D, hk, rfl, hd, hE⟩ := hrel
    by_cases hlt : k < l.length
    · have q1 : (k : Int) < (l.length : Int) := by omega
      obtain ⟨lb, lo, rfl, hll, hlc⟩ := ints_at (View.below h.out hd.acc) k hlt
      obtain ⟨m, hm, hm2, hm3⟩ := low511 (l.getD k 0)
      have himg : img l k = fillL m ((k : Int) + 1) := by unfold img; rw [← hm3, Int.toNat_natCast]
      have hwr : IntKind.u8.wrap ((k : Int) + 1) = (k : Int) + 1 := by rw [IntKind.wrap_u8]; omega
      have kT := Lib.hid (text6_any wr m ((k : Int) + 1) (by omega))
      have hbl : byteL (img l k) := by rw [himg]; exact fillL_byteL _ (by omega)
      obtain ⟨n1, n2, n3⟩ := hE.next (b' := img l k) (by decide) (by decide) (by decide) (by decide) (by omega) (by have := img_len l k; omega) hbl
      rw [himg] at n1 n2 n3
      have hEf := hE.few
      have hEu := hE.uns
      have hEl := hE.len
      have hEk := hE.free.ok
      generalize l.getD k 0 = x at *
      replace hE := Lib.hid hE
      replace hd := Lib.hid hd
      replace himg := Lib.hid himg
      clear hm3
      go_wp2_with fail
      refine kT.out.mono ?_; rintro e w3 ⟨v3, rfl, ho3, hb3⟩
      have hd3 := hd.out.client hb3
      have hv3 := ho3.view
      have hC3 := fun x (hx : blockOf v3 = some x) => own_lt ho3 ((block_own v3).symm.trans hx)
      have kW := Lib.hid (writeR_any hd3 hEk 3 8 ((k : Int) + 1) (by decide) (by rw [hEl]; decide) (by decide) (by decide) (by omega) hv3 (by rw [fillL_len]; omega) (by omega) (by rw [hEu]; simp))
      rw [n1] at kW
      obtain ⟨A3, c3, rfl, _, _, _⟩ := own_shape ho3
      replace hv3 := Lib.hid hv3
      clear kT ho3 hd3 hb3 hd
      go_wp2_with fail
      refine kW.out.mono ?_; rintro e w4 ⟨rfl, hd4, kp4⟩
      have hv4 := Lib.hid (kp4.view hv3.out (fun b hb => .inr (hC3 b hb)))
      have kM := Lib.hid (num6_any w4 0)
      have kR := readAll_any hd4 n2.free.ok n2.fit 3 8 (by decide) (by rw [n2.len]; decide) (by decide) (by decide)
      rw [n3] at kR
      replace kR := Lib.hid kR
      replace hd4 := Lib.hid hd4
      clear kW hv3 kp4 hC3
      simp only [if_true]
      go_wp2_with fail
      refine kM.out.mono ?_; rintro x w5 ⟨rfl, hw1⟩
      have hw2 := hw1.symm
      subst hw2
      clear hw1
      go_wp2_with fail
      refine kR.out.mono ?_; rintro e w5 ⟨v5, rfl, hv5, hb5⟩
      have hv5' : VB w5 v5 (fillL m ((k : Int) + 1)) := hv5
      have hc5 := conv_any w5 _ _ hv5'
      have hc4 := conv_any w5 _ _ (View.below hv4.out hb5)
      have hd5 := Lib.hid ((hd4.out.below hb5).mono (C' := fun _ => False) (fun _ hh => hh.elim))
      obtain ⟨A5, c5, rfl, _⟩ := hv5'.cells
      have e0 : ep (some ((k : Int) + 1, fillL m ((k : Int) + 1))) = (k : Int) + 1 := rfl
      rw [e0]
      clear hv5 hv5' hb5 kR kM hd4 hv4
      have hn2 := Lib.hid n2
      clear n1 n2 n3
      generalize fillL m ((k : Int) + 1) = bs at *
      go_wp2_with fail
      go_roundw
      case rel => exact ⟨k + 1, _, by omega, by go_num, hd5.out, by rw [Nat.add_sub_cancel, himg.out]; exact hn2.out⟩
      case measure => simp [intOf]; omega
    · obtain hkl : k = l.length := by omega
      subst hkl
      have q1 : ¬ (l.length : Int) < (l.length : Int) := by omega
      have hb1 : bits .and .i64 elder 1 = elder % 2 := Go.Proofs.PosteMem.bits_mask elder 1 (by decide)
      have hb2 : bits .and .i64 (l.length : Int) 1 = (l.length : Int) % 2 := Go.Proofs.PosteMem.bits_mask _ 1 (by decide)
      by_cases hpar : elder % 2 = (l.length : Int) % 2
      · go_wp2_with fail
        go_ret
        exact ⟨rfl, hd.acc⟩
      · have hpb : (elder % 2 == (l.length : Int) % 2) = false := beq_eq_false_iff_ne.2 hpar
        have kT := Lib.hid (fun W => (text6_any W 5 77 (by decide) : Calls Try.prog 41 #[.int .i64 5, .int .u8 77] W _))
        obtain ⟨n1, n3⟩ := hE.elder (b' := fillL 5 77) (e0 := elder) (by decide) (by decide) (by decide) (by decide) (by decide) g3 (by omega) hpar (by omega)
        have hEf := hE.few
        have hEu := hE.uns
        have hEl := hE.len
        have hEk := hE.free.ok
        have hfit' := writeR_fit hE.fit 3 8 elder (fillL_byteL 5 (c := 77) (by decide))
        obtain ⟨_, hfr', hlen', _⟩ := write_free hE.free (at' := 3) (area := 8) (e := elder) (b := fillL 5 77) (by decide) (by rw [hEl]; decide) (by decide) (by decide) g3 (by omega) (by decide)
        obtain ⟨k1, hk1⟩ : ∃ k1, l.length = k1 + 1 := ⟨l.length - 1, by omega⟩
        have ew : IntKind.i64.wrap ((l.length : Int) - 1) = (k1 : Int) := by rw [IntKind.wrap_i64]; omega
        have q5 : (k1 : Int) < (l.length : Int) := by omega
        obtain ⟨m, hm, hm2, hm3⟩ := low511 (l.getD k1 0)
        have himg : fillL m (l.length : Int) = img l k1 := by unfold img; rw [← hm3, Int.toNat_natCast, hk1]; rfl
        have hkk : l.length - 1 = k1 := by omega
        rw [hkk] at n3
        have hwr : IntKind.u8.wrap (l.length : Int) = (l.length : Int) := by rw [IntKind.wrap_u8]; omega
        have hbl := img_len l k1
        have hq : ((l.length : Int) == (l.length : Int)) = true := by simp
        clear hE hkk hm3
        generalize img l k1 = bs at *
        replace hk1 := Lib.hid hk1
        replace himg := Lib.hid himg
        replace hd := Lib.hid hd
        go_wp2_with fail
        refine (kT.out _).mono ?_; rintro e w3 ⟨v3, rfl, ho3, hb3⟩
        have hd3 := hd.out.client hb3
        have hv3 := ho3.view
        have kW := Lib.hid (writeR_any hd3 hEk 3 8 elder (by decide) (by rw [hEl]; decide) (by decide) (by decide) g3 hv3 (by decide) (by omega) (by rw [hEu]; simp))
        rw [n1] at kW
        obtain ⟨A3, c3, rfl, _, _, _⟩ := own_shape ho3
        clear kT ho3 hd3 hb3 hd hv3
        go_wp2_with fail
        refine kW.out.mono ?_; rintro e w4 ⟨rfl, hd4, _⟩
        have kR := readAll_any hd4 hfr'.ok hfit' 3 8 (by decide) (by rw [hlen', hEl]; decide) (by decide) (by decide)
        rw [n3] at kR
        replace kR := Lib.hid kR
        replace hd4 := Lib.hid hd4
        clear kW
        simp only [if_true]
        go_wp2_with fail
        refine kR.out.mono ?_; rintro e w5 ⟨v5, rfl, hv5, hb5⟩
        have hv5' : VB w5 v5 bs := hv5
        have hac := hd4.out.below hb5
        obtain ⟨lb, lo, eA, hll, hlc⟩ := ints_at (View.below h.out hac.acc) k1 (by have := hk1.out; omega)
        subst eA
        have hll5 := hll
        have hlc5 := hlc
        generalize l.getD k1 0 = x at *
        obtain ⟨A5, c5, rfl, _⟩ := hv5'.cells
        have e0 : ep (some ((l.length : Int), bs)) = (l.length : Int) := rfl
        rw [e0]
        have hac5 := Lib.hid hac.acc
        replace hv5' := Lib.hid (show VB w5 (.slice A5 bs.length c5) bs from hv5')
        clear hv5 hb5 kR hd4 hac hlc
        go_upto_region 19 with fail
        refine tl_begin (fun (w' : World) => VB w' (.slice A5 bs.length c5) bs ∧ w'.cell? ⟨lb, lo + k1, none⟩ = some (.int .i64 x)) [] (by kernel_rfl) (⟨View.drew hv5'.out, hlc5⟩) (fun hHeld => ?_)
        refine tl_p (i := 0) (v := ?_) rfl (by rfl) (by kernel_rfl) (by kernel_rfl) (by kernel_rfl) (fun _ _ _ h => h) (by rfl) hHeld ?_ ?_
        rotate_left
        · intro w
          go_simp
          try (with_reducible rfl)
        try simp only [Act.put, List.setIfInBounds_toArray, List.set_cons_zero, List.set_cons_succ]
        refine tl_do (i := 1) rfl (by kernel_rfl) (by rfl) (fun K hK => ?_)
        go_simp
        go_at_call 42
        refine (num6_any _ _).mono ?_; rintro e w9 ⟨rfl, hw1⟩
        have hw2 := hw1.symm
        subst hw2
        clear hw1
        try go_wp2_with fail
        refine hK.out _ _ (hHeld) (fun hHeld1 => ?_)
        clear hK K hHeld
        have hHeld := hHeld1
        clear hHeld1
        try simp only [Act.put, List.setIfInBounds_toArray, List.set_cons_zero, List.set_cons_succ]
        refine tl_p (i := 2) (v := ?_) rfl (by rfl) (by kernel_rfl) (by kernel_rfl) (by kernel_rfl) (fun _ _ _ h => h) (by rfl) hHeld ?_ ?_
        rotate_left
        · intro w
          go_simp
          try (with_reducible rfl)
        try simp only [Act.put, List.setIfInBounds_toArray, List.set_cons_zero, List.set_cons_succ]
        refine tl_p (i := 3) (v := ?_) rfl (by rfl) (by kernel_rfl) (by kernel_rfl) (by kernel_rfl) (fun _ _ _ h => h) (by rfl) hHeld ?_ ?_
        rotate_left
        · intro w
          go_simp
          try (with_reducible rfl)
        try simp only [Act.put, List.setIfInBounds_toArray, List.set_cons_zero, List.set_cons_succ]
        refine tl_p (i := 4) (v := ?_) rfl (by rfl) (by kernel_rfl) (by kernel_rfl) (by kernel_rfl) (fun _ _ _ h => h) (by rfl) hHeld ?_ ?_
        rotate_left
        · intro w
          go_simp
          try (with_reducible rfl)
        try simp only [Act.put, List.setIfInBounds_toArray, List.set_cons_zero, List.set_cons_succ]
        refine tl_p (i := 5) (v := ?_) rfl (by rfl) (by kernel_rfl) (by kernel_rfl) (by kernel_rfl) (fun _ _ _ h => h) (by rfl) hHeld ?_ ?_
        rotate_left
        · intro w
          go_simp
          try (with_reducible rfl)
        try simp only [Act.put, List.setIfInBounds_toArray, List.set_cons_zero, List.set_cons_succ]
        refine tl_p (i := 6) (v := ?_) rfl (by rfl) (by kernel_rfl) (by kernel_rfl) (by kernel_rfl) (fun _ _ _ h => h) (by rfl) hHeld ?_ ?_
        rotate_left
        · intro w
          go_simp
          try (with_reducible rfl)
        try simp only [Act.put, List.setIfInBounds_toArray, List.set_cons_zero, List.set_cons_succ]
        refine tl_p (i := 7) (v := ?_) rfl (by rfl) (by kernel_rfl) (by kernel_rfl) (by kernel_rfl) (fun _ _ _ h => h) (by rfl) hHeld ?_ ?_
        rotate_left
        · intro w
          go_simp
          try (with_reducible rfl)
        try simp only [Act.put, List.setIfInBounds_toArray, List.set_cons_zero, List.set_cons_succ]
        refine tl_p (i := 8) (v := ?_) rfl (by rfl) (by kernel_rfl) (by kernel_rfl) (by kernel_rfl) (fun _ _ _ h => h) (by rfl) hHeld ?_ ?_
        rotate_left
        · intro w
          go_simp
          try (with_reducible rfl)
        try simp only [Act.put, List.setIfInBounds_toArray, List.set_cons_zero, List.set_cons_succ]
        refine tl_p (i := 9) (v := ?_) rfl (by rfl) (by kernel_rfl) (by kernel_rfl) (by kernel_rfl) (fun _ _ _ h => h) (by rfl) hHeld ?_ ?_
        rotate_left
        · intro w
          go_simp
          try (with_reducible rfl)
        try simp only [Act.put, List.setIfInBounds_toArray, List.set_cons_zero, List.set_cons_succ]
        refine tl_p (i := 10) (v := ?_) rfl (by rfl) (by kernel_rfl) (by kernel_rfl) (by kernel_rfl) (fun _ _ _ h => h) (by rfl) hHeld ?_ ?_
        rotate_left
        · intro w
          go_simp
          try (with_reducible rfl)
        try simp only [Act.put, List.setIfInBounds_toArray, List.set_cons_zero, List.set_cons_succ]
        refine tl_p (i := 11) (v := ?_) rfl (by rfl) (by kernel_rfl) (by kernel_rfl) (by kernel_rfl) (fun _ _ _ h => h) (by rfl) hHeld ?_ ?_
        rotate_left
        · intro w
          go_simp
          try (with_reducible rfl)
        try simp only [Act.put, List.setIfInBounds_toArray, List.set_cons_zero, List.set_cons_succ]
        refine tl_p (i := 12) (v := ?_) rfl (by rfl) (by kernel_rfl) (by kernel_rfl) (by kernel_rfl) (fun _ _ _ h => h) (by rfl) hHeld ?_ ?_
        rotate_left
        · intro w
          go_simp
          try (with_reducible rfl)
        try simp only [Act.put, List.setIfInBounds_toArray, List.set_cons_zero, List.set_cons_succ]
        refine tl_w (i := 13) (v := ?_) rfl (by rfl) (by kernel_rfl) (by kernel_rfl) (by kernel_rfl) (by kernel_rfl) (by kernel_rfl) (fun _ _ _ h => h) (by rfl) hHeld ?_ ?_
        rotate_left
        · intro w hSw
          have hc := conv_any w _ _ hSw.1
          clear hSw
          go_simp
          try (with_reducible rfl)
        try simp only [Act.put, List.setIfInBounds_toArray, List.set_cons_zero, List.set_cons_succ]
        refine tl_p (i := 14) (v := ?_) rfl (by rfl) (by kernel_rfl) (by kernel_rfl) (by kernel_rfl) (fun _ _ _ h => h) (by rfl) hHeld ?_ ?_
        rotate_left
        · intro w
          go_simp
          try (with_reducible rfl)
        try simp only [Act.put, List.setIfInBounds_toArray, List.set_cons_zero, List.set_cons_succ]
        refine tl_p (i := 15) (v := ?_) rfl (by rfl) (by kernel_rfl) (by kernel_rfl) (by kernel_rfl) (fun _ _ _ h => h) (by rfl) hHeld ?_ ?_
        rotate_left
        · intro w
          go_simp
          try (with_reducible rfl)
        try simp only [Act.put, List.setIfInBounds_toArray, List.set_cons_zero, List.set_cons_succ]
        refine tl_p (i := 16) (v := ?_) rfl (by rfl) (by kernel_rfl) (by kernel_rfl) (by kernel_rfl) (fun _ _ _ h => h) (by rfl) hHeld ?_ ?_
        rotate_left
        · intro w
          go_simp
          try (with_reducible rfl)
        try simp only [Act.put, List.setIfInBounds_toArray, List.set_cons_zero, List.set_cons_succ]
        refine tl_p (i := 17) (v := ?_) rfl (by rfl) (by kernel_rfl) (by kernel_rfl) (by kernel_rfl) (fun _ _ _ h => h) (by rfl) hHeld ?_ ?_
        rotate_left
        · intro w
          go_simp
          try (with_reducible rfl)
        try simp only [Act.put, List.setIfInBounds_toArray, List.set_cons_zero, List.set_cons_succ]
        refine tl_w (i := 18) (v := ?_) rfl (by rfl) (by kernel_rfl) (by kernel_rfl) (by kernel_rfl) (by kernel_rfl) (by kernel_rfl) (fun _ _ _ h => h) (by rfl) hHeld ?_ ?_
        rotate_left
        · intro w hSw
          obtain ⟨_, hS2⟩ := hSw
          go_simp
          try (with_reducible rfl)
        try simp only [Act.put, List.setIfInBounds_toArray, List.set_cons_zero, List.set_cons_succ]
        refine tl_p (i := 19) (v := ?_) rfl (by rfl) (by kernel_rfl) (by kernel_rfl) (by kernel_rfl) (fun _ _ _ h => h) (by rfl) hHeld ?_ ?_
        rotate_left
        · intro w
          go_simp
          try (with_reducible rfl)
        try simp only [Act.put, List.setIfInBounds_toArray, List.set_cons_zero, List.set_cons_succ]
        refine tl_p (i := 20) (v := ?_) rfl (by rfl) (by kernel_rfl) (by kernel_rfl) (by kernel_rfl) (fun _ _ _ h => h) (by rfl) hHeld ?_ ?_
        rotate_left
        · intro w
          go_simp
          try (with_reducible rfl)
        try simp only [Act.put, List.setIfInBounds_toArray, List.set_cons_zero, List.set_cons_succ]
        refine tl_p (i := 21) (v := ?_) rfl (by rfl) (by kernel_rfl) (by kernel_rfl) (by kernel_rfl) (fun _ _ _ h => h) (by rfl) hHeld ?_ ?_
        rotate_left
        · intro w
          go_simp
          try (with_reducible rfl)
        try simp only [Act.put, List.setIfInBounds_toArray, List.set_cons_zero, List.set_cons_succ]
        refine tl_do (i := 22) rfl (by kernel_rfl) (by rfl) (fun K hK => ?_)
        go_simp
        go_at_call 41
        refine (text6_any _ m (l.length : Int) (by omega)).mono ?_; rintro e w10 ⟨v10, rfl, ho10, hb10⟩
        rw [himg.out] at ho10
        have hv10 := ho10.view
        have hc10 := hv10
        obtain ⟨A10, c10, rfl, _⟩ := own_shape ho10
        clear ho10
        try go_wp2_with fail
        refine hK.out _ _ (⟨View.below hHeld.1 hb10, (hb10.cell (p := ⟨lb, lo + k1, none⟩) hll5).trans hHeld.2⟩) (fun hHeld1 => ?_)
        clear hK K hHeld
        have hHeld := hHeld1
        clear hHeld1
        try simp only [Act.put, List.setIfInBounds_toArray, List.set_cons_zero, List.set_cons_succ]
        refine till_more (fun w' => VB w' (.slice A10 bs.length c10) bs) ?_
        replace hHeld := And.intro hHeld hv10
        refine tl_w (i := 23) (v := ?_) rfl (by rfl) (by kernel_rfl) (by kernel_rfl) (by kernel_rfl) (by kernel_rfl) (by kernel_rfl) (fun _ _ _ h => h) (by rfl) hHeld ?_ ?_
        rotate_left
        · intro w hSw
          have hc := conv_any w _ _ hSw.2
          clear hSw
          go_simp
          try (with_reducible rfl)
        try simp only [Act.put, List.setIfInBounds_toArray, List.set_cons_zero, List.set_cons_succ]
        refine tl_p (i := 24) (v := ?_) rfl (by rfl) (by kernel_rfl) (by kernel_rfl) (by kernel_rfl) (fun _ _ _ h => h) (by rfl) hHeld ?_ ?_
        rotate_left
        · intro w
          go_simp
          try (with_reducible rfl)
        try simp only [Act.put, List.setIfInBounds_toArray, List.set_cons_zero, List.set_cons_succ]
        refine tl_p (i := 25) (v := ?_) rfl (by rfl) (by kernel_rfl) (by kernel_rfl) (by kernel_rfl) (fun _ _ _ h => h) (by rfl) hHeld ?_ ?_
        rotate_left
        · intro w
          go_simp
          try (with_reducible rfl)
        try simp only [Act.put, List.setIfInBounds_toArray, List.set_cons_zero, List.set_cons_succ]
        refine tl_p (i := 26) (v := ?_) rfl (by rfl) (by kernel_rfl) (by kernel_rfl) (by kernel_rfl) (fun _ _ _ h => h) (by rfl) hHeld ?_ ?_
        rotate_left
        · intro w
          go_simp
          try (with_reducible rfl)
        try simp only [Act.put, List.setIfInBounds_toArray, List.set_cons_zero, List.set_cons_succ]
        refine till_done (by kernel_rfl) ?_ _
        clear hHeld hv10 hc10
        have hfin := below_then (Below.drew hac5.out) hb10
        replace hfin := Lib.hid hfin
        go_wp2_with fail
        go_ret
        exact ⟨rfl, hfin.out⟩
theorem int_enc (l : List Int) : l.flatMap (Kd.enc (.int .i64)) = l.map (.int .i64) := by
  induction l with
  | nil => rfl
  | cons a l ih => rw [List.flatMap_cons, ih]; rfl
theorem rootsLast_walk (W : World) (A : Option Addr) (n c : Nat) (x : (Kd.sl 3 (.int .i64)).T) (z : Rd Try.prog W (.sl 3 (.int .i64)) [.slice A n c] x) (elder : Int) (_ : (Lit.int .i64 elder).wf = true) :
    Calls Try.prog 10 #[.slice A n c, .int .i64 elder] W fun e w' => e = .returned (.bool true) ∧ Below W.heap.size W w' := by
  have hv := rd_view_flat rfl z
  obtain ⟨A', c', e, _, _⟩ := View.cells hv
  injection e with e1 e2 e3
  subst e1 e2 e3
  rw [int_enc x] at hv
  exact last_core W A c x elder hv
end Go.Proofs.Ytbfcaapompkjhaa
