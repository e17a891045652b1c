/-
  RootsTurn: its walk.
-/
import Derived.Test.YtbfcaapompkjhaaGi
import Derived.Test.YtbfcaapompkjhaaGh
set_option linter.unusedVariables false
set_option linter.unusedSimpArgs false
namespace Go.Proofs.Ytbfcaapompkjhaa
open Go.RowKit Go.Proofs.PosteMem Go.Proofs.PosteOpen
attribute [local go_sem ↓] Go.wp_at_zero Go.wp_at_succ

theorem settleN_fit {kp : List Bool} {U : List (Nat × List Int)} {S : List (List Int)} (hS : ∀ b ∈ S, byteL b) (hU : ∀ x ∈ U, byteL x.2) : ∀ i, i ≤ U.length → ∀ b ∈ settleN kp U S i, byteL b
  | 0, _, b, hb => hS b hb
  | i + 1, hi, b, hb => by
    by_cases hk : kp[i]? = some true
    · rw [settleN_put (by omega) hk] at hb
      rcases List.mem_or_eq_of_mem_set hb with hb | rfl
      · exact settleN_fit hS hU i (by omega) b hb
      · exact hU _ (List.getElem_mem _)
    · rw [settleN_skip hk] at hb
      exact settleN_fit hS hU i (by omega) b hb
theorem Fit.crash {D : Dk} (h : Fit D) (kp : List Bool) : Fit (D.crash kp) := by
  have hb := settleN_fit (kp := kp) h.sure h.uns D.uns.length (Nat.le_refl _)
  unfold Dk.crash
  exact ⟨hb, hb, fun x hx => by cases hx⟩
theorem writeR_ok {D : Dk} (hk : D.ok) (at' area e : Int) (b : List Int) : (writeR D at' area e b).1.ok ∧ (writeR D at' area e b).1.uns.length ≤ D.uns.length + need b.length + 1 := by
  obtain ⟨_, g2, g3⟩ := put_few hk (placeR at' area e) b
  have g4 := sync_ok g3
  have g5 := (sync_few (D.put (placeR at' area e) b).1).2
  have g6 := write_ok g4 (at' + e % 2) (rootB e b.length)
  have g7 := (write_few (D.put (placeR at' area e) b).1.sync.1 (at' + e % 2) (rootB e b.length)).2
  have g8 := sync_ok g6
  have g9 := (sync_few ((D.put (placeR at' area e) b).1.sync.1.write (at' + e % 2) (rootB e b.length)).1).2
  unfold writeR
  split
  · exact ⟨g3, by simp only; omega⟩
  · split
    · exact ⟨g4, by simp only; omega⟩
    · split
      · exact ⟨g6, by simp only; omega⟩
      · exact ⟨g8, by omega⟩

theorem put_len (D : Dk) (at' : Int) (b : List Int) : (D.put at' b).1.now.length = D.now.length := by
  have hN : ∀ k, (putN D at' b k).1.now.length = D.now.length := fun k => by
    induction k with
    | zero => rfl
    | succ k ih =>
      unfold putN
      split
      · rw [write_len]; exact ih
      · exact ih
  unfold Dk.put
  split
  · rfl
  · split
    · exact hN _
    · rfl
theorem writeR_len (D : Dk) (at' area e : Int) (b : List Int) : (writeR D at' area e b).1.now.length = D.now.length := by
  unfold writeR
  split
  · exact put_len _ _ _
  · split
    · simp only [len_sync]; exact put_len _ _ _
    · split
      · simp only [write_len, len_sync]; exact put_len _ _ _
      · rw [len_sync, write_len, len_sync]; exact put_len _ _ _

set_option maxRecDepth 100000 in
set_option maxHeartbeats 8000000 in
theorem turn_core (w : World) (A A2 : Option Addr) (cap cap2 : Nat) (l : List Int) (kp : List Bool) (left : Int) (hleft : left < 9223372036854775808) (h : View w 1 (.slice A l.length cap) l.length (l.map (.int .i64))) (h2 : View w 1 (.slice A2 kp.length cap2) kp.length (kp.map .bool)) :
    Calls Try.prog 11 #[.slice A l.length cap, .int .i64 left, .slice A2 kp.length cap2] w fun e w' => e = .returned (.bool true) ∧ Below w.heap.size w w' := by
  have hkC : kp ≠ [] → ∀ b, blockOf (.slice A2 kp.length cap2) = some b → b < w.heap.size := fun hne b hb => by
    have h0 : 0 < kp.length := by
      rcases Nat.eq_zero_or_pos kp.length with h | h
      · exact absurd (List.eq_nil_of_length_eq_zero h) hne
      · exact h
    obtain ⟨lb, lo, lc, e2, _, _, hll, _⟩ := h2.at_ (show 0 < kp.length * 1 by omega)
    rw [e2] at hb
    injection hb with hb
    subst hb
    exact hll
  replace h := Lib.hid h
  replace h2 := Lib.hid h2
  have hcases : l.length < 1 ∨ (1 ≤ l.length ∧ 10 < l.length) ∨ (1 ≤ l.length ∧ l.length ≤ 10 ∧ left < 0) ∨ (1 ≤ l.length ∧ l.length ≤ 10 ∧ 0 ≤ left ∧ 100 < kp.length) ∨ (1 ≤ l.length ∧ l.length ≤ 10 ∧ 0 ≤ left ∧ kp.length ≤ 100) := by omega
  rcases hcases with g1 | ⟨g1, g2⟩ | ⟨g1, g2, g3⟩ | ⟨g1, g2, g3, g4⟩ | ⟨g1, g2, g3, g4⟩
  · have q1 : (l.length : Int) < 1 := by omega
    go_enter Try.func11, Try.ntmps11
    go_wp2_with fail
    refine (alive6 _).mono ?_; rintro e w1 ⟨rfl, hb1⟩
    go_wp2
    go_ret
    exact ⟨rfl, hb1⟩
  · have q1 : ¬ (l.length : Int) < 1 := by omega
    have q2 : (10 : Int) < (l.length : Int) := by omega
    go_enter Try.func11, Try.ntmps11
    go_wp2_with fail
    refine (alive6 _).mono ?_; rintro e w1 ⟨rfl, hb1⟩
    go_wp2
    go_ret
    exact ⟨rfl, hb1⟩
  · have q1 : ¬ (l.length : Int) < 1 := by omega
    have q2 : ¬ (10 : Int) < (l.length : Int) := by omega
    go_enter Try.func11, Try.ntmps11
    go_wp2_with fail
    refine (alive6 _).mono ?_; rintro e w1 ⟨rfl, hb1⟩
    go_wp2
    go_ret
    exact ⟨rfl, hb1⟩
  · have q1 : ¬ (l.length : Int) < 1 := by omega
    have q2 : ¬ (10 : Int) < (l.length : Int) := by omega
    have q3 : ¬ left < 0 := by omega
    have q4 : (100 : Int) < (kp.length : Int) := by omega
    go_enter Try.func11, Try.ntmps11
    go_wp2_with fail
    refine (alive6 _).mono ?_; rintro e w1 ⟨rfl, hb1⟩
    go_wp2
    go_ret
    exact ⟨rfl, hb1⟩
  have q1 : ¬ (l.length : Int) < 1 := by omega
  have q2 : ¬ (10 : Int) < (l.length : Int) := by omega
  have q3 : ¬ left < 0 := by omega
  have q4 : ¬ (100 : Int) < (kp.length : Int) := by omega
  have kN := Lib.hid (fun W => rootNeed_any W 8 (by decide) (by decide))
  go_enter Try.func11, Try.ntmps11
  go_wp2_with fail
  refine (alive6 _).mono ?_; rintro e w1 ⟨rfl, hb1⟩
  go_wp2_with fail
  refine (kN.out _).mono ?_; rintro x w2 ⟨rfl, hw1⟩
  have hw2 := hw1.symm
  subst hw2
  clear hw1 kN
  go_wp2_with fail
  refine (hd_new hb1 18).mono ?_; rintro e w2 ⟨rfl, hd2, hb2⟩
  rw [show many 18 = 18 from rfl] at hd2
  have E0 := Sure.new 18 (by decide) 0 8
  have h2' : Hd w w2 w1.heap.size (Dk.new 18) (fun _ => False) := hd2.mono (fun _ hh => hh.elim)
  generalize w1.heap.size = p at *
  clear hd2 hb2
  go_upto_region 7 with fail
  have e1 : decide ((l.length : Int) < 1) = false := decide_eq_false (by omega)
  have e2 : decide ((10 : Int) < (l.length : Int)) = false := decide_eq_false (by omega)
  have e3 : decide (left < 0) = false := decide_eq_false (by omega)
  have e4 : decide ((100 : Int) < (kp.length : Int)) = false := decide_eq_false (by omega)
  simp only [e1, e2, e3, e4, Bool.or_false]
  clear e1 e2 e3 e4 q1 q2 q3 q4
  go_loopw [10] (fun i wr => ∃ (k : Nat) (D : Dk), k + 1 ≤ l.length ∧ i = .int .i64 k ∧ Hd w wr p D (fun _ => False) ∧ Sure D 0 8 18 k (img l (k - 1))) (fun i _ => l.length - (intOf i).toNat)
  case atStart => exact ⟨0, _, by omega, rfl, h2', ⟨⟨E0.eps.free, E0.eps.fit, E0.eps.len, E0.eps.uns, E0.eps.few, fun h => by omega, E0.eps.old⟩, E0.same, E0.other⟩⟩
  case round =>
    clear h2' E0
    obtain ⟨k, D, hk, rfl, hd, hE⟩ := hrel
    by_cases hlt : k + 1 < l.length
    · have q1 : (k : Int) < (l.length : Int) - 1 := by omega
      have q2 : (k : Int) < (l.length : Int) := by omega
      obtain ⟨lb, lo, rfl, hll, hlc⟩ := ints_at (View.below h.out hd.acc) k (by omega)
      obtain ⟨m, hm, hm2, hm3⟩ := low511 (l.getD k 0)
      have himg : img l k = fillL m ((k : Int) + 1) := by unfold img; rw [← hm3, Int.toNat_natCast]
      have hwr : IntKind.u8.wrap ((k : Int) + 1) = (k : Int) + 1 := by rw [IntKind.wrap_u8]; omega
      have kT := Lib.hid (text6_any wr m ((k : Int) + 1) (by omega))
      have hbl : byteL (img l k) := by rw [himg]; exact fillL_byteL _ (by omega)
      obtain ⟨n1, n2⟩ := hE.next (b' := img l k) (by decide) (by decide) (by decide) (by decide) (by omega) (by have := img_len l k; omega) hbl
      rw [himg] at n1 n2
      have hEf := hE.eps.few
      have hEu := hE.eps.uns
      have hEl := hE.eps.len
      have hEk := hE.eps.free.ok
      generalize l.getD k 0 = x at *
      replace hE := Lib.hid hE
      replace hd := Lib.hid hd
      replace himg := Lib.hid himg
      clear hm3
      go_wp2_with fail
      refine kT.out.mono ?_; rintro e w3 ⟨v3, rfl, ho3, hb3⟩
      have hd3 := hd.out.client hb3
      have hv3 := ho3.view
      have kW := Lib.hid (writeR_any hd3 hEk 0 8 ((k : Int) + 1) (by decide) (by rw [hEl]; decide) (by decide) (by decide) (by omega) hv3 (by rw [fillL_len]; omega) (by omega) (by rw [hEu]; simp))
      rw [n1] at kW
      obtain ⟨A3, c3, rfl, _, _, _⟩ := own_shape ho3
      clear kT ho3 hd3 hb3 hd hv3
      go_wp2_with fail
      refine kW.out.mono ?_; rintro e w4 ⟨rfl, hd4, _⟩
      have kM := Lib.hid (num6_any w4 0)
      have hd5 := Lib.hid (hd4.mono (C' := fun _ => False) (fun _ hh => hh.elim))
      clear kW hd4
      simp only [if_true]
      go_wp2_with fail
      refine kM.out.mono ?_; rintro x w5 ⟨rfl, hw1⟩
      have hw2 := hw1.symm
      subst hw2
      clear hw1 kM
      have hn2 := Lib.hid n2
      clear n1 n2
      go_wp2_with fail
      go_roundw
      case rel => exact ⟨k + 1, _, by omega, by go_num, hd5.out, by rw [Nat.add_sub_cancel, himg.out]; exact hn2.out⟩
      case measure => simp [intOf]; omega
    · have hkl : l.length = k + 1 := by omega
      have q1 : ¬ (k : Int) < (l.length : Int) - 1 := by omega
      have ew : IntKind.i64.wrap ((l.length : Int) - 1) = (k : Int) := by rw [IntKind.wrap_i64]; omega
      have ew2 : IntKind.i64.wrap ((l.length : Int) - 2) = (k : Int) - 1 := by rw [IntKind.wrap_i64]; omega
      have q5 : (k : Int) < (l.length : Int) := by omega
      obtain ⟨m, hm, hm2, hm3⟩ := low511 (l.getD k 0)
      have himg : fillL m (l.length : Int) = img l k := by unfold img; rw [← hm3, Int.toNat_natCast, hkl]; rfl
      have hwr : IntKind.u8.wrap (l.length : Int) = (l.length : Int) := by rw [IntKind.wrap_u8]; omega
      have hbl := img_len l k
      have hbb : byteL (img l k) := by rw [← himg]; exact fillL_byteL _ (by omega)
      have hE1 : Fit (D.brk left) := hE.eps.fit.brk left
      have hE2 : (D.brk left).ok := brk_ok hE.eps.free.ok hleft
      have hE3 : (D.brk left).now.length = 18 := by unfold Dk.brk; rw [if_neg (by rw [hE.eps.free.broken]; decide)]; exact hE.eps.len
      have hE4 : (D.brk left).uns = [] := by unfold Dk.brk; rw [if_neg (by rw [hE.eps.free.broken]; decide)]; exact hE.eps.uns
      have hE5 : (D.brk left).written ≤ 20 * k := by unfold Dk.brk; rw [if_neg (by rw [hE.eps.free.broken]; decide)]; exact hE.eps.few
      have hcr := turn hE (b' := img l k) (by decide) (by decide) (by decide) (by decide) (by omega) (by omega) left kp
      have hwk := writeR_ok hE2 0 8 ((k : Int) + 1) (img l k)
      have hwf := writeR_fit hE1 0 8 ((k : Int) + 1) hbb
      have hwl : (writeR (D.brk left) 0 8 ((k : Int) + 1) (img l k)).1.now.length = 18 := by rw [writeR_len]; exact hE3
      have hnb : need (img l k).length ≤ 8 := by unfold need; omega
      have hkl2 : ((k : Int) + 1) = (l.length : Int) := by omega
      have kB := Lib.hid (hd_break hd left)
      rw [hkl2] at hcr hwk hwf hwl
      clear hE hbb
      generalize D.brk left = Db at *
      have kW := Lib.hid (fun (W' : World) (C' : Nat → Prop) (v' : Value) (hd' : Hd w W' p Db C') (hv' : VB W' v' (img l k)) => writeR_any hd' hE2 0 8 (l.length : Int) (by decide) (by rw [hE3]; decide) (by decide) (by decide) (by omega) hv' (by omega) (by omega) (by rw [hE4]; simp))
      generalize writeR Db 0 8 (l.length : Int) (img l k) = WR at *
      obtain ⟨Dw, o⟩ := WR
      simp only at hcr hwk hwf hwl kW
      have hz : o = false → (if o = true then (0 : Int) else 12) = 12 := fun e => by rw [e]; rfl
      generalize (if o = true then (0 : Int) else 12) = z at *
      have kX := Lib.hid (fun (W' : World) (C' : Nat → Prop) (hd' : Hd w W' p Dw C') (hv' : VBool W' (.slice A2 kp.length cap2) kp) => hd_crash hd' hwk.1 hv' (fun hne b hb => .inr (hkC hne b hb)) (by omega) (by have := hwk.2; rw [hE4] at this; simp at this; omega))
      have hxk := crash_ok hwk.1 kp
      have hxf := hwf.crash kp
      have hxl : (Dw.crash kp).now.length = 18 := by
        have h1 := hwk.1.len
        unfold Dk.crash
        simp only
        rw [settleN_len]
        omega
      generalize Dw.crash kp = Dx at *
      have kR := Lib.hid (fun (W' : World) (hd' : Hd w W' p Dx (fun _ => False)) => readAll_any hd' hxk hxf 0 8 (by decide) (by rw [hxl]; decide) (by decide) (by decide))
      generalize readAll Dx 0 8 = r at *
      replace hkl := Lib.hid hkl
      replace hkl2 := Lib.hid hkl2
      replace himg := Lib.hid himg
      replace hcr := Lib.hid hcr
      clear hwk hwf hwl hE1 hE2 hE3 hE4 hE5 hxk hxf hxl hm3 hd hnb
      have kT := Lib.hid (fun W' => text6_any W' m (l.length : Int) (by omega))
      rw [himg.out] at kT
      generalize hbs : img l k = bs at *
      replace hbs := Lib.hid hbs
      go_wp2_with fail
      refine kB.out.mono ?_; rintro e w3 ⟨rfl, hd3, _⟩
      clear kB
      obtain ⟨lb, lo, eA, hll, hlc⟩ := ints_at (View.below h.out hd3.acc) k (by have := hkl.out; omega)
      subst eA
      generalize hx : l.getD k 0 = x at *
      replace hx := Lib.hid hx
      replace hd3 := Lib.hid hd3
      go_wp2_with fail
      refine (kT.out _).mono ?_; rintro e w4 ⟨v4, rfl, ho4, hb4⟩
      have kW4 := Lib.hid (kW.out w4 _ v4 (hd3.out.client hb4) ho4.view)
      obtain ⟨A4, c4, rfl, _, _, _⟩ := own_shape ho4
      clear kT kW ho4 hb4 hd3 hlc
      go_wp2_with fail
      refine kW4.out.mono ?_; rintro e w5 ⟨rfl, hd5, _⟩
      have hd5' := hd5.mono (C' := fun _ => False) (fun _ hh => hh.elim)
      have kX5 := Lib.hid (kX.out w5 _ hd5' (View.below h2.out hd5'.acc))
      clear kW4 kX hd5 hd5'
      go_wp2_with fail
      refine kX5.out.mono ?_; rintro e w6 ⟨rfl, hd6, _⟩
      have kR6 := Lib.hid (kR.out w6 hd6)
      replace hd6 := Lib.hid hd6
      clear kX5 kR
      go_wp2_with fail
      refine kR6.out.mono ?_; rintro e w7 ⟨v7, rfl, hv7, hb7⟩
      have hac := hd6.out.below hb7
      obtain ⟨lb', lo', eA, hll5, hlc5⟩ := ints_at (View.below h.out hac.acc) k (by have := hkl.out; omega)
      injection eA with eA
      injection eA with eA1 eA2
      subst eA1 eA2
      rw [hx.out] at hlc5
      have hac5 := Lib.hid hac.acc
      have hz2 := Lib.hid hz
      clear hz kR6 hac
      rcases hcr.out with hr | ⟨ho, hr⟩
      · subst hr
        have e0 : ep (some ((l.length : Int), bs)) = (l.length : Int) := rfl
        rw [e0]
        have hv7' : VB w7 v7 bs := hv7
        obtain ⟨A5, c5, rfl, _⟩ := hv7'.cells
        have hv5' := Lib.hid (show VB w7 (.slice A5 bs.length c5) bs from hv7)
        have hq : ((l.length : Int) == (l.length : Int)) = true := by simp
        clear hv7 hv7' hcr
        go_upto_region 15 with fail
        refine tl_begin (fun (w' : World) => VB w' (.slice A5 bs.length c5) bs ∧ w'.cell? ⟨lb, lo + k, none⟩ = some (.int .i64 x)) [] (by kernel_rfl) (⟨View.drew hv5'.out, hlc5⟩) (fun hHeld => ?_)
        refine tl_p (i := 0) (v := ?_) rfl (by rfl) (by kernel_rfl) (by kernel_rfl) (by kernel_rfl) (fun _ _ _ h => h) (by rfl) hHeld ?_ ?_
        rotate_left
        · intro w
          go_simp
          try (with_reducible rfl)
        try simp only [Act.put, List.setIfInBounds_toArray, List.set_cons_zero, List.set_cons_succ]
        refine tl_p (i := 1) (v := ?_) rfl (by rfl) (by kernel_rfl) (by kernel_rfl) (by kernel_rfl) (fun _ _ _ h => h) (by rfl) hHeld ?_ ?_
        rotate_left
        · intro w
          go_simp
          try (with_reducible rfl)
        try simp only [Act.put, List.setIfInBounds_toArray, List.set_cons_zero, List.set_cons_succ]
        refine tl_p (i := 2) (v := ?_) rfl (by rfl) (by kernel_rfl) (by kernel_rfl) (by kernel_rfl) (fun _ _ _ h => h) (by rfl) hHeld ?_ ?_
        rotate_left
        · intro w
          go_simp
          try (with_reducible rfl)
        try simp only [Act.put, List.setIfInBounds_toArray, List.set_cons_zero, List.set_cons_succ]
        refine tl_p (i := 3) (v := ?_) rfl (by rfl) (by kernel_rfl) (by kernel_rfl) (by kernel_rfl) (fun _ _ _ h => h) (by rfl) hHeld ?_ ?_
        rotate_left
        · intro w
          go_simp
          try (with_reducible rfl)
        try simp only [Act.put, List.setIfInBounds_toArray, List.set_cons_zero, List.set_cons_succ]
        refine tl_p (i := 4) (v := ?_) rfl (by rfl) (by kernel_rfl) (by kernel_rfl) (by kernel_rfl) (fun _ _ _ h => h) (by rfl) hHeld ?_ ?_
        rotate_left
        · intro w
          go_simp
          try (with_reducible rfl)
        try simp only [Act.put, List.setIfInBounds_toArray, List.set_cons_zero, List.set_cons_succ]
        refine tl_p (i := 5) (v := ?_) rfl (by rfl) (by kernel_rfl) (by kernel_rfl) (by kernel_rfl) (fun _ _ _ h => h) (by rfl) hHeld ?_ ?_
        rotate_left
        · intro w
          go_simp
          try (with_reducible rfl)
        try simp only [Act.put, List.setIfInBounds_toArray, List.set_cons_zero, List.set_cons_succ]
        refine tl_p (i := 6) (v := ?_) rfl (by rfl) (by kernel_rfl) (by kernel_rfl) (by kernel_rfl) (fun _ _ _ h => h) (by rfl) hHeld ?_ ?_
        rotate_left
        · intro w
          go_simp
          try (with_reducible rfl)
        try simp only [Act.put, List.setIfInBounds_toArray, List.set_cons_zero, List.set_cons_succ]
        refine tl_p (i := 7) (v := ?_) rfl (by rfl) (by kernel_rfl) (by kernel_rfl) (by kernel_rfl) (fun _ _ _ h => h) (by rfl) hHeld ?_ ?_
        rotate_left
        · intro w
          go_simp
          try (with_reducible rfl)
        try simp only [Act.put, List.setIfInBounds_toArray, List.set_cons_zero, List.set_cons_succ]
        refine tl_w (i := 8) (v := ?_) rfl (by rfl) (by kernel_rfl) (by kernel_rfl) (by kernel_rfl) (by kernel_rfl) (by kernel_rfl) (fun _ _ _ h => h) (by rfl) hHeld ?_ ?_
        rotate_left
        · intro w hSw
          have hc := conv_any w _ _ hSw.1
          clear hSw
          go_simp
          try (with_reducible rfl)
        try simp only [Act.put, List.setIfInBounds_toArray, List.set_cons_zero, List.set_cons_succ]
        refine tl_p (i := 9) (v := ?_) rfl (by rfl) (by kernel_rfl) (by kernel_rfl) (by kernel_rfl) (fun _ _ _ h => h) (by rfl) hHeld ?_ ?_
        rotate_left
        · intro w
          go_simp
          try (with_reducible rfl)
        try simp only [Act.put, List.setIfInBounds_toArray, List.set_cons_zero, List.set_cons_succ]
        refine tl_p (i := 10) (v := ?_) rfl (by rfl) (by kernel_rfl) (by kernel_rfl) (by kernel_rfl) (fun _ _ _ h => h) (by rfl) hHeld ?_ ?_
        rotate_left
        · intro w
          go_simp
          try (with_reducible rfl)
        try simp only [Act.put, List.setIfInBounds_toArray, List.set_cons_zero, List.set_cons_succ]
        refine tl_p (i := 11) (v := ?_) rfl (by rfl) (by kernel_rfl) (by kernel_rfl) (by kernel_rfl) (fun _ _ _ h => h) (by rfl) hHeld ?_ ?_
        rotate_left
        · intro w
          go_simp
          try (with_reducible rfl)
        try simp only [Act.put, List.setIfInBounds_toArray, List.set_cons_zero, List.set_cons_succ]
        refine tl_p (i := 12) (v := ?_) rfl (by rfl) (by kernel_rfl) (by kernel_rfl) (by kernel_rfl) (fun _ _ _ h => h) (by rfl) hHeld ?_ ?_
        rotate_left
        · intro w
          go_simp
          try (with_reducible rfl)
        try simp only [Act.put, List.setIfInBounds_toArray, List.set_cons_zero, List.set_cons_succ]
        refine tl_w (i := 13) (v := ?_) rfl (by rfl) (by kernel_rfl) (by kernel_rfl) (by kernel_rfl) (by kernel_rfl) (by kernel_rfl) (fun _ _ _ h => h) (by rfl) hHeld ?_ ?_
        rotate_left
        · intro w hSw
          obtain ⟨_, hS2⟩ := hSw
          go_simp
          try (with_reducible rfl)
        try simp only [Act.put, List.setIfInBounds_toArray, List.set_cons_zero, List.set_cons_succ]
        refine tl_p (i := 14) (v := ?_) rfl (by rfl) (by kernel_rfl) (by kernel_rfl) (by kernel_rfl) (fun _ _ _ h => h) (by rfl) hHeld ?_ ?_
        rotate_left
        · intro w
          go_simp
          try (with_reducible rfl)
        try simp only [Act.put, List.setIfInBounds_toArray, List.set_cons_zero, List.set_cons_succ]
        refine tl_p (i := 15) (v := ?_) rfl (by rfl) (by kernel_rfl) (by kernel_rfl) (by kernel_rfl) (fun _ _ _ h => h) (by rfl) hHeld ?_ ?_
        rotate_left
        · intro w
          go_simp
          try (with_reducible rfl)
        try simp only [Act.put, List.setIfInBounds_toArray, List.set_cons_zero, List.set_cons_succ]
        refine tl_p (i := 16) (v := ?_) rfl (by rfl) (by kernel_rfl) (by kernel_rfl) (by kernel_rfl) (fun _ _ _ h => h) (by rfl) hHeld ?_ ?_
        rotate_left
        · intro w
          go_simp
          try (with_reducible rfl)
        try simp only [Act.put, List.setIfInBounds_toArray, List.set_cons_zero, List.set_cons_succ]
        refine tl_do (i := 17) rfl (by kernel_rfl) (by rfl) (fun K hK => ?_)
        go_simp
        go_at_call 41
        refine (text6_any _ m (l.length : Int) (by omega)).mono ?_; rintro e w10 ⟨v10, rfl, ho10, hb10⟩
        rw [himg.out] at ho10
        have hv10 := ho10.view
        have hc10 := hv10
        obtain ⟨A10, c10, rfl, _⟩ := own_shape ho10
        clear ho10
        try go_wp2_with fail
        refine hK.out _ _ (⟨View.below hHeld.1 hb10, (hb10.cell (p := ⟨lb, lo + k, none⟩) hll5).trans hHeld.2⟩) (fun hHeld1 => ?_)
        clear hK K hHeld
        have hHeld := hHeld1
        clear hHeld1
        try simp only [Act.put, List.setIfInBounds_toArray, List.set_cons_zero, List.set_cons_succ]
        refine till_more (fun w' => VB w' (.slice A10 bs.length c10) bs) ?_
        replace hHeld := And.intro hHeld hv10
        refine tl_w (i := 18) (v := ?_) rfl (by rfl) (by kernel_rfl) (by kernel_rfl) (by kernel_rfl) (by kernel_rfl) (by kernel_rfl) (fun _ _ _ h => h) (by rfl) hHeld ?_ ?_
        rotate_left
        · intro w hSw
          have hc := conv_any w _ _ hSw.2
          clear hSw
          go_simp
          try (with_reducible rfl)
        try simp only [Act.put, List.setIfInBounds_toArray, List.set_cons_zero, List.set_cons_succ]
        refine tl_p (i := 19) (v := ?_) rfl (by rfl) (by kernel_rfl) (by kernel_rfl) (by kernel_rfl) (fun _ _ _ h => h) (by rfl) hHeld ?_ ?_
        rotate_left
        · intro w
          go_simp
          try (with_reducible rfl)
        try simp only [Act.put, List.setIfInBounds_toArray, List.set_cons_zero, List.set_cons_succ]
        refine tl_p (i := 20) (v := ?_) rfl (by rfl) (by kernel_rfl) (by kernel_rfl) (by kernel_rfl) (fun _ _ _ h => h) (by rfl) hHeld ?_ ?_
        rotate_left
        · intro w
          go_simp
          try (with_reducible rfl)
        try simp only [Act.put, List.setIfInBounds_toArray, List.set_cons_zero, List.set_cons_succ]
        refine till_done (by kernel_rfl) ?_ _
        clear hHeld hv10 hc10
        have hfin := below_then (Below.drew hac5.out) hb10
        replace hfin := Lib.hid hfin
        go_wp2_with fail
        go_ret
        exact ⟨rfl, hfin.out⟩
      · obtain rfl := hz2.out ho
        have kM := Lib.hid (fun W => num6_any W 12)
        clear hz2 hcr ho
        by_cases hk0 : k = 0
        · have hr2 : r = none := by rw [hr]; exact if_pos hk0
          clear hr
          subst hr2
          have e0 : ep none = 0 := rfl
          rw [e0]
          have hv7' : VB w7 v7 [] := hv7
          obtain ⟨A5, c5, rfl, _⟩ := hv7'.cells
          have hq1 : ((l.length : Int) == 1) = true := by have := hkl.out; simp; omega
          clear hv7 hv7'
          replace hk0 := Lib.hid hk0
          go_upto_region 15 with fail
          refine tl_begin (fun (w' : World) => True) [] (by kernel_rfl) (trivial) (fun hHeld => ?_)
          refine tl_p (i := 0) (v := ?_) rfl (by rfl) (by kernel_rfl) (by kernel_rfl) (by kernel_rfl) (fun _ _ _ h => h) (by rfl) hHeld ?_ ?_
          rotate_left
          · intro w
            go_simp
            try (with_reducible rfl)
          try simp only [Act.put, List.setIfInBounds_toArray, List.set_cons_zero, List.set_cons_succ]
          refine tl_p (i := 1) (v := ?_) rfl (by rfl) (by kernel_rfl) (by kernel_rfl) (by kernel_rfl) (fun _ _ _ h => h) (by rfl) hHeld ?_ ?_
          rotate_left
          · intro w
            go_simp
            try (with_reducible rfl)
          try simp only [Act.put, List.setIfInBounds_toArray, List.set_cons_zero, List.set_cons_succ]
          refine tl_u (i := 2) rfl (by rfl) (by kernel_rfl) (by kernel_rfl) (by kernel_rfl) (fun _ _ _ h => h) (by rfl) hHeld ?_
          try simp only [Act.put, List.setIfInBounds_toArray, List.set_cons_zero, List.set_cons_succ]
          refine tl_u (i := 3) rfl (by rfl) (by kernel_rfl) (by kernel_rfl) (by kernel_rfl) (fun _ _ _ h => h) (by rfl) hHeld ?_
          try simp only [Act.put, List.setIfInBounds_toArray, List.set_cons_zero, List.set_cons_succ]
          refine tl_u (i := 4) rfl (by rfl) (by kernel_rfl) (by kernel_rfl) (by kernel_rfl) (fun _ _ _ h => h) (by rfl) hHeld ?_
          try simp only [Act.put, List.setIfInBounds_toArray, List.set_cons_zero, List.set_cons_succ]
          refine tl_p (i := 5) (v := ?_) rfl (by rfl) (by kernel_rfl) (by kernel_rfl) (by kernel_rfl) (fun _ _ _ h => h) (by rfl) hHeld ?_ ?_
          rotate_left
          · intro w
            go_simp
            try (with_reducible rfl)
          try simp only [Act.put, List.setIfInBounds_toArray, List.set_cons_zero, List.set_cons_succ]
          refine tl_p (i := 6) (v := ?_) rfl (by rfl) (by kernel_rfl) (by kernel_rfl) (by kernel_rfl) (fun _ _ _ h => h) (by rfl) hHeld ?_ ?_
          rotate_left
          · intro w
            go_simp
            try (with_reducible rfl)
          try simp only [Act.put, List.setIfInBounds_toArray, List.set_cons_zero, List.set_cons_succ]
          refine tl_u (i := 7) rfl (by rfl) (by kernel_rfl) (by kernel_rfl) (by kernel_rfl) (fun _ _ _ h => h) (by rfl) hHeld ?_
          try simp only [Act.put, List.setIfInBounds_toArray, List.set_cons_zero, List.set_cons_succ]
          refine tl_u (i := 8) rfl (by rfl) (by kernel_rfl) (by kernel_rfl) (by kernel_rfl) (fun _ _ _ h => h) (by rfl) hHeld ?_
          try simp only [Act.put, List.setIfInBounds_toArray, List.set_cons_zero, List.set_cons_succ]
          refine tl_u (i := 9) rfl (by rfl) (by kernel_rfl) (by kernel_rfl) (by kernel_rfl) (fun _ _ _ h => h) (by rfl) hHeld ?_
          try simp only [Act.put, List.setIfInBounds_toArray, List.set_cons_zero, List.set_cons_succ]
          refine tl_u (i := 10) rfl (by rfl) (by kernel_rfl) (by kernel_rfl) (by kernel_rfl) (fun _ _ _ h => h) (by rfl) hHeld ?_
          try simp only [Act.put, List.setIfInBounds_toArray, List.set_cons_zero, List.set_cons_succ]
          refine tl_u (i := 11) rfl (by rfl) (by kernel_rfl) (by kernel_rfl) (by kernel_rfl) (fun _ _ _ h => h) (by rfl) hHeld ?_
          try simp only [Act.put, List.setIfInBounds_toArray, List.set_cons_zero, List.set_cons_succ]
          refine tl_u (i := 12) rfl (by rfl) (by kernel_rfl) (by kernel_rfl) (by kernel_rfl) (fun _ _ _ h => h) (by rfl) hHeld ?_
          try simp only [Act.put, List.setIfInBounds_toArray, List.set_cons_zero, List.set_cons_succ]
          refine tl_u (i := 13) rfl (by rfl) (by kernel_rfl) (by kernel_rfl) (by kernel_rfl) (fun _ _ _ h => h) (by rfl) hHeld ?_
          try simp only [Act.put, List.setIfInBounds_toArray, List.set_cons_zero, List.set_cons_succ]
          refine tl_u (i := 14) rfl (by rfl) (by kernel_rfl) (by kernel_rfl) (by kernel_rfl) (fun _ _ _ h => h) (by rfl) hHeld ?_
          try simp only [Act.put, List.setIfInBounds_toArray, List.set_cons_zero, List.set_cons_succ]
          refine tl_u (i := 15) rfl (by rfl) (by kernel_rfl) (by kernel_rfl) (by kernel_rfl) (fun _ _ _ h => h) (by rfl) hHeld ?_
          try simp only [Act.put, List.setIfInBounds_toArray, List.set_cons_zero, List.set_cons_succ]
          refine tl_u (i := 16) rfl (by rfl) (by kernel_rfl) (by kernel_rfl) (by kernel_rfl) (fun _ _ _ h => h) (by rfl) hHeld ?_
          try simp only [Act.put, List.setIfInBounds_toArray, List.set_cons_zero, List.set_cons_succ]
          refine tl_u (i := 17) rfl (by rfl) (by kernel_rfl) (by kernel_rfl) (by kernel_rfl) (fun _ _ _ h => h) (by rfl) hHeld ?_
          try simp only [Act.put, List.setIfInBounds_toArray, List.set_cons_zero, List.set_cons_succ]
          refine tl_u (i := 18) rfl (by rfl) (by kernel_rfl) (by kernel_rfl) (by kernel_rfl) (fun _ _ _ h => h) (by rfl) hHeld ?_
          try simp only [Act.put, List.setIfInBounds_toArray, List.set_cons_zero, List.set_cons_succ]
          refine tl_u (i := 19) rfl (by rfl) (by kernel_rfl) (by kernel_rfl) (by kernel_rfl) (fun _ _ _ h => h) (by rfl) hHeld ?_
          try simp only [Act.put, List.setIfInBounds_toArray, List.set_cons_zero, List.set_cons_succ]
          refine tl_p (i := 20) (v := ?_) rfl (by rfl) (by kernel_rfl) (by kernel_rfl) (by kernel_rfl) (fun _ _ _ h => h) (by rfl) hHeld ?_ ?_
          rotate_left
          · intro w
            go_simp
            try (with_reducible rfl)
          try simp only [Act.put, List.setIfInBounds_toArray, List.set_cons_zero, List.set_cons_succ]
          refine till_done (by kernel_rfl) ?_ _
          clear hHeld
          go_wp2_with fail
          refine (kM.out _).mono ?_; rintro x w8 ⟨rfl, hw1⟩
          have hw2 := hw1.symm
          subst hw2
          clear hw1
          go_wp2_with fail
          go_ret
          exact ⟨rfl, Below.drew hac5.out⟩
        · have hr2 : r = some ((k : Int), img l (k - 1)) := by rw [hr]; exact if_neg hk0
          clear hr
          subst hr2
          have e0 : ep (some ((k : Int), img l (k - 1))) = (k : Int) := rfl
          rw [e0]
          clear himg hm hm2 hwr
          obtain ⟨m, hm, hm2, hm3⟩ := low511 (l.getD (k - 1) 0)
          have himg : fillL m (k : Int) = img l (k - 1) := by unfold img; rw [← hm3, Int.toNat_natCast, show ((k - 1 : Nat) : Int) + 1 = (k : Int) by omega]
          have hwr : IntKind.u8.wrap (k : Int) = (k : Int) := by rw [IntKind.wrap_u8]; omega
          obtain ⟨lb2, lo2, eA, hll6, hlc6⟩ := ints_at (View.below h.out hac5.out) (k - 1) (by omega)
          injection eA with eA
          injection eA with eA1 eA2
          subst eA1 eA2
          replace hll5 := hll6
          replace hlc5 := hlc6
          clear hlc6 hll6 hm3 hx
          generalize l.getD (k - 1) 0 = x at *
          generalize img l (k - 1) = bp at *
          replace himg := Lib.hid himg
          have hv7' : VB w7 v7 bp := hv7
          obtain ⟨A5, c5, rfl, _⟩ := hv7'.cells
          have hv5' := Lib.hid (show VB w7 (.slice A5 bp.length c5) bp from hv7)
          have hq : ((k : Int) == (k : Int)) = true := by simp
          have hq1 : ((l.length : Int) == 1) = false := by have := hkl.out; simp; omega
          have hq2 : ((k : Int) == (l.length : Int)) = false := by have := hkl.out; simp; omega
          have ew4 : ((k : Int) - 1) = ((k - 1 : Nat) : Int) := by omega
          rw [ew4] at ew2
          have hq3 : ((k - 1 : Nat) : Int) < (l.length : Int) := by omega
          have hq4 : (l.length : Int) - 1 = (k : Int) := by have := hkl.out; omega
          replace ew4 := Lib.hid ew4
          replace hq4 := Lib.hid hq4
          replace hk0 := Lib.hid hk0
          clear hv7 hv7'
          go_upto_region 15 with fail
          refine tl_begin (fun (w' : World) => True) [] (by kernel_rfl) (trivial) (fun hHeld => ?_)
          refine tl_p (i := 0) (v := ?_) rfl (by rfl) (by kernel_rfl) (by kernel_rfl) (by kernel_rfl) (fun _ _ _ h => h) (by rfl) hHeld ?_ ?_
          rotate_left
          · intro w
            go_simp
            try (with_reducible rfl)
          try simp only [Act.put, List.setIfInBounds_toArray, List.set_cons_zero, List.set_cons_succ]
          refine tl_p (i := 1) (v := ?_) rfl (by rfl) (by kernel_rfl) (by kernel_rfl) (by kernel_rfl) (fun _ _ _ h => h) (by rfl) hHeld ?_ ?_
          rotate_left
          · intro w
            go_simp
            try (with_reducible rfl)
          try simp only [Act.put, List.setIfInBounds_toArray, List.set_cons_zero, List.set_cons_succ]
          refine tl_p (i := 2) (v := ?_) rfl (by rfl) (by kernel_rfl) (by kernel_rfl) (by kernel_rfl) (fun _ _ _ h => h) (by rfl) hHeld ?_ ?_
          rotate_left
          · intro w
            go_simp
            try (with_reducible rfl)
          try simp only [Act.put, List.setIfInBounds_toArray, List.set_cons_zero, List.set_cons_succ]
          refine tl_p (i := 3) (v := ?_) rfl (by rfl) (by kernel_rfl) (by kernel_rfl) (by kernel_rfl) (fun _ _ _ h => h) (by rfl) hHeld ?_ ?_
          rotate_left
          · intro w
            go_simp
            try (with_reducible rfl)
          try simp only [Act.put, List.setIfInBounds_toArray, List.set_cons_zero, List.set_cons_succ]
          refine tl_p (i := 4) (v := ?_) rfl (by rfl) (by kernel_rfl) (by kernel_rfl) (by kernel_rfl) (fun _ _ _ h => h) (by rfl) hHeld ?_ ?_
          rotate_left
          · intro w
            go_simp
            try (with_reducible rfl)
          try simp only [Act.put, List.setIfInBounds_toArray, List.set_cons_zero, List.set_cons_succ]
          refine tl_p (i := 5) (v := ?_) rfl (by rfl) (by kernel_rfl) (by kernel_rfl) (by kernel_rfl) (fun _ _ _ h => h) (by rfl) hHeld ?_ ?_
          rotate_left
          · intro w
            go_simp
            try (with_reducible rfl)
          try simp only [Act.put, List.setIfInBounds_toArray, List.set_cons_zero, List.set_cons_succ]
          refine tl_p (i := 6) (v := ?_) rfl (by rfl) (by kernel_rfl) (by kernel_rfl) (by kernel_rfl) (fun _ _ _ h => h) (by rfl) hHeld ?_ ?_
          rotate_left
          · intro w
            go_simp
            try (with_reducible rfl)
          try simp only [Act.put, List.setIfInBounds_toArray, List.set_cons_zero, List.set_cons_succ]
          refine tl_u (i := 7) rfl (by rfl) (by kernel_rfl) (by kernel_rfl) (by kernel_rfl) (fun _ _ _ h => h) (by rfl) hHeld ?_
          try simp only [Act.put, List.setIfInBounds_toArray, List.set_cons_zero, List.set_cons_succ]
          refine tl_u (i := 8) rfl (by rfl) (by kernel_rfl) (by kernel_rfl) (by kernel_rfl) (fun _ _ _ h => h) (by rfl) hHeld ?_
          try simp only [Act.put, List.setIfInBounds_toArray, List.set_cons_zero, List.set_cons_succ]
          refine tl_u (i := 9) rfl (by rfl) (by kernel_rfl) (by kernel_rfl) (by kernel_rfl) (fun _ _ _ h => h) (by rfl) hHeld ?_
          try simp only [Act.put, List.setIfInBounds_toArray, List.set_cons_zero, List.set_cons_succ]
          refine tl_u (i := 10) rfl (by rfl) (by kernel_rfl) (by kernel_rfl) (by kernel_rfl) (fun _ _ _ h => h) (by rfl) hHeld ?_
          try simp only [Act.put, List.setIfInBounds_toArray, List.set_cons_zero, List.set_cons_succ]
          refine tl_u (i := 11) rfl (by rfl) (by kernel_rfl) (by kernel_rfl) (by kernel_rfl) (fun _ _ _ h => h) (by rfl) hHeld ?_
          try simp only [Act.put, List.setIfInBounds_toArray, List.set_cons_zero, List.set_cons_succ]
          refine tl_u (i := 12) rfl (by rfl) (by kernel_rfl) (by kernel_rfl) (by kernel_rfl) (fun _ _ _ h => h) (by rfl) hHeld ?_
          try simp only [Act.put, List.setIfInBounds_toArray, List.set_cons_zero, List.set_cons_succ]
          refine tl_u (i := 13) rfl (by rfl) (by kernel_rfl) (by kernel_rfl) (by kernel_rfl) (fun _ _ _ h => h) (by rfl) hHeld ?_
          try simp only [Act.put, List.setIfInBounds_toArray, List.set_cons_zero, List.set_cons_succ]
          refine tl_u (i := 14) rfl (by rfl) (by kernel_rfl) (by kernel_rfl) (by kernel_rfl) (fun _ _ _ h => h) (by rfl) hHeld ?_
          try simp only [Act.put, List.setIfInBounds_toArray, List.set_cons_zero, List.set_cons_succ]
          refine tl_u (i := 15) rfl (by rfl) (by kernel_rfl) (by kernel_rfl) (by kernel_rfl) (fun _ _ _ h => h) (by rfl) hHeld ?_
          try simp only [Act.put, List.setIfInBounds_toArray, List.set_cons_zero, List.set_cons_succ]
          refine tl_u (i := 16) rfl (by rfl) (by kernel_rfl) (by kernel_rfl) (by kernel_rfl) (fun _ _ _ h => h) (by rfl) hHeld ?_
          try simp only [Act.put, List.setIfInBounds_toArray, List.set_cons_zero, List.set_cons_succ]
          refine tl_u (i := 17) rfl (by rfl) (by kernel_rfl) (by kernel_rfl) (by kernel_rfl) (fun _ _ _ h => h) (by rfl) hHeld ?_
          try simp only [Act.put, List.setIfInBounds_toArray, List.set_cons_zero, List.set_cons_succ]
          refine tl_u (i := 18) rfl (by rfl) (by kernel_rfl) (by kernel_rfl) (by kernel_rfl) (fun _ _ _ h => h) (by rfl) hHeld ?_
          try simp only [Act.put, List.setIfInBounds_toArray, List.set_cons_zero, List.set_cons_succ]
          refine tl_u (i := 19) rfl (by rfl) (by kernel_rfl) (by kernel_rfl) (by kernel_rfl) (fun _ _ _ h => h) (by rfl) hHeld ?_
          try simp only [Act.put, List.setIfInBounds_toArray, List.set_cons_zero, List.set_cons_succ]
          refine tl_p (i := 20) (v := ?_) rfl (by rfl) (by kernel_rfl) (by kernel_rfl) (by kernel_rfl) (fun _ _ _ h => h) (by rfl) hHeld ?_ ?_
          rotate_left
          · intro w
            go_simp
            try (with_reducible rfl)
          try simp only [Act.put, List.setIfInBounds_toArray, List.set_cons_zero, List.set_cons_succ]
          refine till_done (by kernel_rfl) ?_ _
          clear hHeld
          go_wp2_with fail
          refine (kM.out _).mono ?_; rintro x9 w8 ⟨rfl, hw1⟩
          have hw2 := hw1.symm
          subst hw2
          clear hw1
          go_upto_region 21 with fail
          refine tl_begin (fun (w' : World) => VB w' (.slice A5 bp.length c5) bp ∧ w'.cell? ⟨lb, lo + (k - 1), none⟩ = some (.int .i64 x)) [] (by kernel_rfl) (⟨View.drew (View.drew hv5'.out), hlc5⟩) (fun hHeld => ?_)
          refine tl_p (i := 0) (v := ?_) rfl (by rfl) (by kernel_rfl) (by kernel_rfl) (by kernel_rfl) (fun _ _ _ h => h) (by rfl) hHeld ?_ ?_
          rotate_left
          · intro w
            go_simp
            try (with_reducible rfl)
          try simp only [Act.put, List.setIfInBounds_toArray, List.set_cons_zero, List.set_cons_succ]
          refine tl_p (i := 1) (v := ?_) rfl (by rfl) (by kernel_rfl) (by kernel_rfl) (by kernel_rfl) (fun _ _ _ h => h) (by rfl) hHeld ?_ ?_
          rotate_left
          · intro w
            go_simp
            try (with_reducible rfl)
          try simp only [Act.put, List.setIfInBounds_toArray, List.set_cons_zero, List.set_cons_succ]
          refine tl_p (i := 2) (v := ?_) rfl (by rfl) (by kernel_rfl) (by kernel_rfl) (by kernel_rfl) (fun _ _ _ h => h) (by rfl) hHeld ?_ ?_
          rotate_left
          · intro w
            go_simp
            try (with_reducible rfl)
          try simp only [Act.put, List.setIfInBounds_toArray, List.set_cons_zero, List.set_cons_succ]
          refine tl_p (i := 3) (v := ?_) rfl (by rfl) (by kernel_rfl) (by kernel_rfl) (by kernel_rfl) (fun _ _ _ h => h) (by rfl) hHeld ?_ ?_
          rotate_left
          · intro w
            go_simp
            try (with_reducible rfl)
          try simp only [Act.put, List.setIfInBounds_toArray, List.set_cons_zero, List.set_cons_succ]
          refine tl_p (i := 4) (v := ?_) rfl (by rfl) (by kernel_rfl) (by kernel_rfl) (by kernel_rfl) (fun _ _ _ h => h) (by rfl) hHeld ?_ ?_
          rotate_left
          · intro w
            go_simp
            try (with_reducible rfl)
          try simp only [Act.put, List.setIfInBounds_toArray, List.set_cons_zero, List.set_cons_succ]
          refine tl_p (i := 5) (v := ?_) rfl (by rfl) (by kernel_rfl) (by kernel_rfl) (by kernel_rfl) (fun _ _ _ h => h) (by rfl) hHeld ?_ ?_
          rotate_left
          · intro w
            go_simp
            try (with_reducible rfl)
          try simp only [Act.put, List.setIfInBounds_toArray, List.set_cons_zero, List.set_cons_succ]
          refine tl_p (i := 6) (v := ?_) rfl (by rfl) (by kernel_rfl) (by kernel_rfl) (by kernel_rfl) (fun _ _ _ h => h) (by rfl) hHeld ?_ ?_
          rotate_left
          · intro w
            go_simp
            try (with_reducible rfl)
          try simp only [Act.put, List.setIfInBounds_toArray, List.set_cons_zero, List.set_cons_succ]
          refine tl_p (i := 7) (v := ?_) rfl (by rfl) (by kernel_rfl) (by kernel_rfl) (by kernel_rfl) (fun _ _ _ h => h) (by rfl) hHeld ?_ ?_
          rotate_left
          · intro w
            go_simp
            try (with_reducible rfl)
          try simp only [Act.put, List.setIfInBounds_toArray, List.set_cons_zero, List.set_cons_succ]
          refine tl_p (i := 8) (v := ?_) rfl (by rfl) (by kernel_rfl) (by kernel_rfl) (by kernel_rfl) (fun _ _ _ h => h) (by rfl) hHeld ?_ ?_
          rotate_left
          · intro w
            go_simp
            try (with_reducible rfl)
          try simp only [Act.put, List.setIfInBounds_toArray, List.set_cons_zero, List.set_cons_succ]
          refine tl_w (i := 9) (v := ?_) rfl (by rfl) (by kernel_rfl) (by kernel_rfl) (by kernel_rfl) (by kernel_rfl) (by kernel_rfl) (fun _ _ _ h => h) (by rfl) hHeld ?_ ?_
          rotate_left
          · intro w hSw
            have hc := conv_any w _ _ hSw.1
            clear hSw
            go_simp
            try (with_reducible rfl)
          try simp only [Act.put, List.setIfInBounds_toArray, List.set_cons_zero, List.set_cons_succ]
          refine tl_p (i := 10) (v := ?_) rfl (by rfl) (by kernel_rfl) (by kernel_rfl) (by kernel_rfl) (fun _ _ _ h => h) (by rfl) hHeld ?_ ?_
          rotate_left
          · intro w
            go_simp
            try (with_reducible rfl)
          try simp only [Act.put, List.setIfInBounds_toArray, List.set_cons_zero, List.set_cons_succ]
          refine tl_p (i := 11) (v := ?_) rfl (by rfl) (by kernel_rfl) (by kernel_rfl) (by kernel_rfl) (fun _ _ _ h => h) (by rfl) hHeld ?_ ?_
          rotate_left
          · intro w
            go_simp
            try (with_reducible rfl)
          try simp only [Act.put, List.setIfInBounds_toArray, List.set_cons_zero, List.set_cons_succ]
          refine tl_p (i := 12) (v := ?_) rfl (by rfl) (by kernel_rfl) (by kernel_rfl) (by kernel_rfl) (fun _ _ _ h => h) (by rfl) hHeld ?_ ?_
          rotate_left
          · intro w
            go_simp
            try (with_reducible rfl)
          try simp only [Act.put, List.setIfInBounds_toArray, List.set_cons_zero, List.set_cons_succ]
          refine tl_p (i := 13) (v := ?_) rfl (by rfl) (by kernel_rfl) (by kernel_rfl) (by kernel_rfl) (fun _ _ _ h => h) (by rfl) hHeld ?_ ?_
          rotate_left
          · intro w
            go_simp
            try (with_reducible rfl)
          try simp only [Act.put, List.setIfInBounds_toArray, List.set_cons_zero, List.set_cons_succ]
          refine tl_w (i := 14) (v := ?_) rfl (by rfl) (by kernel_rfl) (by kernel_rfl) (by kernel_rfl) (by kernel_rfl) (by kernel_rfl) (fun _ _ _ h => h) (by rfl) hHeld ?_ ?_
          rotate_left
          · intro w hSw
            obtain ⟨_, hS2⟩ := hSw
            go_simp
            try (with_reducible rfl)
          try simp only [Act.put, List.setIfInBounds_toArray, List.set_cons_zero, List.set_cons_succ]
          refine tl_p (i := 15) (v := ?_) rfl (by rfl) (by kernel_rfl) (by kernel_rfl) (by kernel_rfl) (fun _ _ _ h => h) (by rfl) hHeld ?_ ?_
          rotate_left
          · intro w
            go_simp
            try (with_reducible rfl)
          try simp only [Act.put, List.setIfInBounds_toArray, List.set_cons_zero, List.set_cons_succ]
          refine tl_p (i := 16) (v := ?_) rfl (by rfl) (by kernel_rfl) (by kernel_rfl) (by kernel_rfl) (fun _ _ _ h => h) (by rfl) hHeld ?_ ?_
          rotate_left
          · intro w
            go_simp
            try (with_reducible rfl)
          try simp only [Act.put, List.setIfInBounds_toArray, List.set_cons_zero, List.set_cons_succ]
          refine tl_p (i := 17) (v := ?_) rfl (by rfl) (by kernel_rfl) (by kernel_rfl) (by kernel_rfl) (fun _ _ _ h => h) (by rfl) hHeld ?_ ?_
          rotate_left
          · intro w
            go_simp
            try (with_reducible rfl)
          try simp only [Act.put, List.setIfInBounds_toArray, List.set_cons_zero, List.set_cons_succ]
          refine tl_p (i := 18) (v := ?_) rfl (by rfl) (by kernel_rfl) (by kernel_rfl) (by kernel_rfl) (fun _ _ _ h => h) (by rfl) hHeld ?_ ?_
          rotate_left
          · intro w
            go_simp
            try (with_reducible rfl)
          try simp only [Act.put, List.setIfInBounds_toArray, List.set_cons_zero, List.set_cons_succ]
          refine tl_do (i := 19) rfl (by kernel_rfl) (by rfl) (fun K hK => ?_)
          go_simp
          go_at_call 41
          refine (text6_any _ m (k : Int) (by omega)).mono ?_; rintro e w10 ⟨v10, rfl, ho10, hb10⟩
          rw [himg.out] at ho10
          have hv10 := ho10.view
          have hc10 := hv10
          obtain ⟨A10, c10, rfl, _⟩ := own_shape ho10
          clear ho10
          try go_wp2_with fail
          refine hK.out _ _ (⟨View.below hHeld.1 hb10, (hb10.cell (p := ⟨lb, lo + (k - 1), none⟩) hll5).trans hHeld.2⟩) (fun hHeld1 => ?_)
          clear hK K hHeld
          have hHeld := hHeld1
          clear hHeld1
          try simp only [Act.put, List.setIfInBounds_toArray, List.set_cons_zero, List.set_cons_succ]
          refine till_more (fun w' => VB w' (.slice A10 bp.length c10) bp) ?_
          replace hHeld := And.intro hHeld hv10
          refine tl_w (i := 20) (v := ?_) rfl (by rfl) (by kernel_rfl) (by kernel_rfl) (by kernel_rfl) (by kernel_rfl) (by kernel_rfl) (fun _ _ _ h => h) (by rfl) hHeld ?_ ?_
          rotate_left
          · intro w hSw
            have hc := conv_any w _ _ hSw.2
            clear hSw
            go_simp
            try (with_reducible rfl)
          try simp only [Act.put, List.setIfInBounds_toArray, List.set_cons_zero, List.set_cons_succ]
          refine tl_p (i := 21) (v := ?_) rfl (by rfl) (by kernel_rfl) (by kernel_rfl) (by kernel_rfl) (fun _ _ _ h => h) (by rfl) hHeld ?_ ?_
          rotate_left
          · intro w
            go_simp
            try (with_reducible rfl)
          try simp only [Act.put, List.setIfInBounds_toArray, List.set_cons_zero, List.set_cons_succ]
          refine tl_p (i := 22) (v := ?_) rfl (by rfl) (by kernel_rfl) (by kernel_rfl) (by kernel_rfl) (fun _ _ _ h => h) (by rfl) hHeld ?_ ?_
          rotate_left
          · intro w
            go_simp
            try (with_reducible rfl)
          try simp only [Act.put, List.setIfInBounds_toArray, List.set_cons_zero, List.set_cons_succ]
          refine tl_p (i := 23) (v := ?_) rfl (by rfl) (by kernel_rfl) (by kernel_rfl) (by kernel_rfl) (fun _ _ _ h => h) (by rfl) hHeld ?_ ?_
          rotate_left
          · intro w
            go_simp
            try (with_reducible rfl)
          try simp only [Act.put, List.setIfInBounds_toArray, List.set_cons_zero, List.set_cons_succ]
          refine till_done (by kernel_rfl) ?_ _
          clear hHeld hv10 hc10
          have hfin := below_then (Below.drew (Below.drew hac5.out)) hb10
          replace hfin := Lib.hid hfin
          go_wp2_with fail
          go_ret
          exact ⟨rfl, hfin.out⟩
theorem bool_enc (l : List Bool) : l.flatMap (Kd.enc .bool) = l.map .bool := by
  induction l with
  | nil => rfl
  | cons a l ih => rw [List.flatMap_cons, ih]; rfl
theorem rootsTurn_walk (W : World) (A : Option Addr) (n c : Nat) (x : (Kd.sl 3 (.int .i64)).T) (z : Rd Try.prog W (.sl 3 (.int .i64)) [.slice A n c] x) (left : Int) (hl : (Lit.int .i64 left).wf = true) (A2 : Option Addr) (n2 c2 : Nat) (x2 : (Kd.sl 4 .bool).T) (z2 : Rd Try.prog W (.sl 4 .bool) [.slice A2 n2 c2] x2) :
    Calls Try.prog 11 #[.slice A n c, .int .i64 left, .slice A2 n2 c2] W fun e w' => e = .returned (.bool true) ∧ Below W.heap.size W w' := by
  have hv := rd_view_flat rfl z
  obtain ⟨A', c', e, _, _⟩ := View.cells hv
  injection e with e1 e2 e3
  subst e1 e2 e3
  rw [int_enc x] at hv
  have hv2 := rd_view_flat rfl z2
  obtain ⟨A', c', e, _, _⟩ := View.cells hv2
  injection e with e1 e2 e3
  subst e1 e2 e3
  rw [bool_enc x2] at hv2
  refine turn_core W A A2 c c2 x x2 left ?_ hv hv2
  have h9 : IntKind.i64.min ≤ left ∧ left ≤ IntKind.i64.max := by simpa [Lit.wf] using hl
  have h8 : IntKind.i64.max = 9223372036854775807 := by rfl
  omega
end Go.Proofs.Ytbfcaapompkjhaa
