/-
  LogEpochs: its walk.
-/
import Derived.Test.YtbfcaapompkjhaaHi
import Derived.Test.YtbfcaapompkjhaaGh
set_option linter.unusedVariables false
set_option linter.unusedSimpArgs false
namespace Go.Proofs.Ytbfcaapompkjhaa
open Go.RowKit Go.Proofs.PosteMem Go.Proofs.PosteOpen
attribute [local go_sem ↓] Go.wp_at_zero Go.wp_at_succ

def hadB (l : List Int) (k j : Nat) : Bool := (List.range j).any fun i => l.getD i 0 == l.getD k 0
theorem hadB_succ (l : List Int) (k j : Nat) : hadB l k (j + 1) = (hadB l k j || (l.getD j 0 == l.getD k 0)) := by
  unfold hadB
  rw [List.range_succ, List.any_append]
  simp
theorem low_mask (x : Int) (e : Nat) (he : e ≤ 9) : ∃ m : Nat, bits .and .i64 x ((2 ^ e - 1 : Nat) : Int) = (m : Int) ∧ m < 2 ^ e := by
  obtain ⟨m, h1, h2, _⟩ := Go.Proofs.PosteMem.bits_mask_ex x e (by omega)
  exact ⟨m, h2, h1⟩
theorem Past.mono {D : Dk} {L : Nat} {E E' : Int → Prop} (h : Past D L E) (hE : ∀ e, E e → E' e) : Past D L E' := ⟨h.free, h.fit, h.len, h.uns, h.head.imp id fun ⟨e, n, s, h1, h2, h3⟩ => ⟨e, n, s, h1, hE e h2, h3⟩⟩

set_option maxRecDepth 100000 in
set_option maxHeartbeats 8000000 in
theorem epochs_core (w : World) (A A2 : Option Addr) (cap cap2 : Nat) (l sz : List Int) (hwf : ∀ k, k < l.length → -9223372036854775808 ≤ l.getD k 0 ∧ l.getD k 0 < 9223372036854775808) (h : View w 1 (.slice A l.length cap) l.length (l.map (.int .i64))) (h2 : View w 1 (.slice A2 sz.length cap2) sz.length (sz.map (.int .i64))) :
    Calls Try.prog 12 #[.slice A l.length cap, .slice A2 sz.length cap2] w fun e w' => e = .returned (.bool true) ∧ Below w.heap.size w w' := by
  replace h := Lib.hid h
  replace h2 := Lib.hid h2
  replace hwf := Lib.hid hwf
  have hcases : 12 < l.length ∨ (l.length ≤ 12 ∧ sz.length < l.length) ∨ (l.length ≤ 12 ∧ l.length ≤ sz.length) := by omega
  rcases hcases with g1 | ⟨g1, g2⟩ | ⟨g1, g2⟩
  · have q1 : (12 : Int) < (l.length : Int) := by omega
    go_enter Try.func12, Try.ntmps12
    go_wp2_with fail
    refine (alive5 _).mono ?_; rintro e w1 ⟨rfl, hb1⟩
    go_wp2
    go_ret
    exact ⟨rfl, hb1⟩
  · have q1 : ¬ (12 : Int) < (l.length : Int) := by omega
    have q2 : (sz.length : Int) < (l.length : Int) := by omega
    go_enter Try.func12, Try.ntmps12
    go_wp2_with fail
    refine (alive5 _).mono ?_; rintro e w1 ⟨rfl, hb1⟩
    go_wp2
    go_ret
    exact ⟨rfl, hb1⟩
  have q1 : ¬ (12 : Int) < (l.length : Int) := by omega
  have q2 : ¬ (sz.length : Int) < (l.length : Int) := by omega
  go_enter Try.func12, Try.ntmps12
  go_wp2_with fail
  refine (alive5 _).mono ?_; rintro e w1 ⟨rfl, hb1⟩
  go_wp2_with fail
  refine (hd_new hb1 40).mono ?_; rintro e w2 ⟨rfl, hd2, hb2⟩
  rw [show many 40 = 40 from rfl] at hd2
  have hP0 : Past (Dk.new 40) 40 (fun e => ∃ j, j < 0 ∧ l.getD j 0 = e) := ⟨free_new 40 (by decide), Fit.new 40, new_len 40, rfl, .inl (by rcases new_read 40 1 with h | h; exact h; exact absurd h (by decide))⟩
  have h2' : Hd w w2 w1.heap.size (Dk.new 40) (fun _ => False) := hd2.mono (fun _ hh => hh.elim)
  generalize w1.heap.size = p at *
  clear hd2 hb2
  go_upto_region 6 with fail
  have e1 : decide ((12 : Int) < (l.length : Int)) = false := decide_eq_false (by omega)
  have e2 : decide (sz.length < l.length) = false := decide_eq_false (by omega)
  simp only [e1, e2, Bool.or_false]
  clear e1 e2 q1 q2
  go_loopw [7] (fun i wr => ∃ (k : Nat) (D : Dk), k ≤ l.length ∧ i = .int .i64 k ∧ Hd w wr p D (fun _ => False) ∧ Past D 40 (fun e => ∃ j, j < k ∧ l.getD j 0 = e) ∧ D.written ≤ 20 * k) (fun i _ => l.length - (intOf i).toNat)
  case atStart => exact ⟨0, _, by omega, rfl, h2', hP0, by simp [Dk.new]⟩
  case round =>
    clear h2' hP0
    obtain ⟨k, D, hk, rfl, hd, hP, hwr⟩ := hrel
    by_cases hlt : k < l.length
    · have q1 : (k : Int) < (l.length : Int) := by omega
      have q2 : (k : Int) < (sz.length : Int) := by omega
      obtain ⟨lb, lo, rfl, hll, hlc⟩ := ints_at (View.below h.out hd.acc) k hlt
      have hPk := Lib.hid hP
      have hdk := Lib.hid hd
      clear hP hd
      go_upto_region 10 with fail
      go_loopw [8, 9] (fun hv j wx => ∃ (j' m : Nat), j' ≤ k ∧ j = .int .i64 j' ∧ hv = .bool (hadB l k j') ∧ wx = wr.drewN m) (fun _ j _ => k - (intOf j).toNat)
      case atStart => exact ⟨0, 0, by omega, rfl, rfl, rfl⟩
      case round =>
        obtain ⟨j, m, hj, rfl, rfl, rfl⟩ := hrel
        by_cases hjk : j < k
        · have q3 : (j : Int) < (k : Int) := by omega
          have q4 : (j : Int) < (l.length : Int) := by omega
          have hs := hadB_succ l k j
          cases hh : hadB l k j with
          | true =>
            rw [hh, Bool.true_or] at hs
            replace hs := Lib.hid hs
            go_wp2_with fail
            go_quiet (fail)
            go_wp2_with fail
            go_roundw
            case rel => exact ⟨j + 1, _, by omega, by go_num, by rw [hs.out], rfl⟩
            case measure => simp [intOf]; omega
          | false =>
            rw [hh, Bool.false_or] at hs
            obtain ⟨lb', lo', eA, hll', hlj⟩ := ints_at (View.below h.out hdk.out.acc) j (by omega)
            injection eA with eA
            injection eA with eA1 eA2
            subst eA1 eA2
            replace hs := Lib.hid hs
            generalize l.getD j 0 = xj at *
            generalize l.getD k 0 = xk at *
            go_wp2_with fail
            go_quiet (fail)
            go_wp2_with fail
            go_roundw
            case rel => exact ⟨j + 1, _, by omega, by go_num, by rw [hs.out], rfl⟩
            case measure => simp [intOf]; omega
        · obtain rfl : j = k := by omega
          have q3 : ¬ (j : Int) < (j : Int) := by omega
          have hP := hPk.out
          have hdd := hdk.out.below (below_dn m (Below.refl wr.heap.size wr))
          cases hh : hadB l j j with
          | true =>
            replace hdd := Lib.hid hdd
            replace hP := Lib.hid (hP.mono (E' := fun e => ∃ j', j' < j + 1 ∧ l.getD j' 0 = e) fun e ⟨j', h1, h2⟩ => ⟨j', by omega, h2⟩)
            go_wp2_with fail
            go_roundw
            case rel => exact ⟨j + 1, D, by omega, by go_num, hdd.out, hP.out, by omega⟩
            case measure => simp [intOf]; omega
          | false =>
            have hnE : ¬ ∃ j', j' < j ∧ l.getD j' 0 = l.getD j 0 := fun ⟨j', h1, h2⟩ => by
              unfold hadB at hh
              rw [List.any_eq_false] at hh
              exact hh j' (List.mem_range.2 h1) (by simpa using h2)
            have hrg := hwf.out j hlt
            obtain ⟨sb, so, rfl, hsl, hsc⟩ := ints_at (View.below h2.out hdd.acc) j (by omega)
            obtain ⟨m1, hm1, hm1b⟩ := low_mask (sz.getD j 0) 8 (by decide)
            obtain ⟨m2, hm2, hm2b⟩ := low_mask (sz.getD j 0) 6 (by decide)
            have hm1' : bits .and .i64 (sz.getD j 0) 255 = (m1 : Int) := hm1
            have hm2' : bits .and .i64 (sz.getD j 0) 63 = (m2 : Int) := hm2
            clear hm1 hm2
            have hm1c : m1 < 256 := hm1b
            have hm2c : m2 < 64 := hm2b
            clear hm1b hm2b
            have hu8 : IntKind.u8.wrap ((j : Int) + 1) = (j : Int) + 1 := by rw [IntKind.wrap_u8]; omega
            have hstep : ∀ ep, l.getD j 0 = ep → Past D 40 (fun e => ∃ j', j' < j ∧ l.getD j' 0 = e) ∧ (¬ ∃ j', j' < j ∧ l.getD j' 0 = ep) := fun ep e => ⟨hP, e ▸ hnE⟩
            have hl1 : (fillL m1 ((j : Int) + 1)).length ≤ 255 := by rw [fillL_len]; omega
            have hl2 : (fillL m2 99).length ≤ 63 := by rw [fillL_len]; omega
            have hy1 : byteL (fillL m1 ((j : Int) + 1)) := fillL_byteL _ (by omega)
            have hy2 : byteL (fillL m2 99) := fillL_byteL _ (by decide)
            have hmono : ∀ D', Past D' 40 (fun e => (∃ j', j' < j ∧ l.getD j' 0 = e) ∨ e = l.getD j 0) → Past D' 40 (fun e => ∃ j', j' < j + 1 ∧ l.getD j' 0 = e) := fun D' h => h.mono fun e he => by
              rcases he with ⟨j', h1, h2⟩ | rfl
              · exact ⟨j', by omega, h2⟩
              · exact ⟨j, by omega, rfl⟩
            generalize hep : l.getD j 0 = ep at *
            replace hep := Lib.hid hep
            have hno := past_none hP (en := 40) hrg hnE
            obtain ⟨t1, t2, t3, t4, t5, t6, t7, t8, t9⟩ := past_two hP hrg hl1 hl2 hy1 hy2
            generalize ha : fillL m1 ((j : Int) + 1) = a at *
            generalize hb' : fillL m2 99 = b at *
            have hS0 : Small ⟨1, 40, 1, ep, [], false⟩ := ⟨by show (0 : Int) ≤ 40; decide, by show (40 : Int) ≤ 10000; decide, by show (0 : Int) ≤ 1; decide, by show (1 : Int) ≤ 10000; decide, by show 0 ≤ 10000; decide⟩
            have hna := needI_nn (n := (a.length : Int))
            have hfa := (fitsB_iff.1 t1).2
            have hS1 : Small ⟨1, 40, 1 + (1 + needI a.length), ep, [a], false⟩ := ⟨by show (0 : Int) ≤ 40; decide, by show (40 : Int) ≤ 10000; decide, by simp only; omega, by simp only; omega, by show 1 ≤ 10000; decide⟩
            generalize hD1 : lputD D ⟨1, 40, 1, ep, [], false⟩ a = D1 at *
            generalize hD2 : lputD D1 ⟨1, 40, 1 + (1 + needI a.length), ep, [a], false⟩ b = D2 at *
            have kO := open_any hdd hP.free.ok hP.fit 1 39 ep (by decide) (by decide) (by rw [hP.len]; decide)
            rw [show (1 : Int) + 39 = 40 by decide] at kO
            have hPF := Lib.hid hP.free
            have hPl := Lib.hid hP.len
            have hPu := Lib.hid hP.uns
            replace kO := Lib.hid kO
            replace t8 := Lib.hid (hmono _ t8)
            replace t9 := Lib.hid t9
            replace t1 := Lib.hid t1
            replace t2 := Lib.hid t2
            replace hD1 := Lib.hid hD1
            replace hD2 := Lib.hid hD2
            replace ha := Lib.hid ha
            replace hb' := Lib.hid hb'
            replace hno := Lib.hid hno
            clear hP hdd hnE hstep hmono hy1 hy2 hwf hrg hS0
            have hS0 : Small ⟨1, 40, 1, ep, [], false⟩ := ⟨by show (0 : Int) ≤ 40; decide, by show (40 : Int) ≤ 10000; decide, by show (0 : Int) ≤ 1; decide, by show (1 : Int) ≤ 10000; decide, by show 0 ≤ 10000; decide⟩
            replace hS0 := Lib.hid hS0
            replace hS1 := Lib.hid hS1
            generalize hsv : sz.getD j 0 = sv at *
            replace hsv := Lib.hid hsv
            go_wp2_with fail
            refine kO.out.mono ?_; rintro e w2 ⟨q, g, rfl, hO, hL, _⟩
            obtain rfl := opens_none hO hno.out
            have kR := Lib.hid (records_any hL (by show 0 ≤ 10000; decide) (fun b hb => by cases hb))
            replace hL := Lib.hid hL
            clear kO hO
            go_wp2_with fail
            refine kR.out.mono ?_; rintro e w3 ⟨v3, rfl, hB3, hb3⟩
            have hL3 := Lib.hid (hL.out.below hb3)
            obtain ⟨hs3, ho3, _⟩ := hB3
            obtain ⟨A3, c3, rfl, _, _, _⟩ := own_shape ho3
            have kT1 := Lib.hid (text5_any w3 m1 ((j : Int) + 1) (by omega))
            rw [ha.out] at kT1
            obtain ⟨sb', so', eA, hsl3, hsc3⟩ := ints_at (View.below h2.out hL3.out.acc) j (by omega)
            injection eA with eA
            injection eA with eA1 eA2
            subst eA1 eA2
            rw [hsv.out] at hsc3
            clear hL kR hb3 ho3 hsc hsl
            go_wp2_with fail
            refine kT1.out.mono ?_; rintro e w4 ⟨v4, rfl, ho4, hb4⟩
            have hL4 := Lib.hid (hL3.out.client hb4)
            have hva4 := ho4.view
            have hCa := Lib.hid (fun x (hx : blockOf v4 = some x) => own_lt ho4 ((block_own v4).symm.trans hx))
            obtain ⟨A4, c4, rfl, _, _, _⟩ := own_shape ho4
            have hsc4 : w4.cell? ⟨sb, so + j, none⟩ = some (.int .i64 sv) := (hb4.cell (p := ⟨sb, so + j, none⟩) hsl3).trans hsc3
            have hsl4 : sb < w4.heap.size := by have := hb4.size; omega
            have kT2 := Lib.hid (text5_any w4 m2 99 (by omega))
            rw [hb'.out] at kT2
            replace hva4 := Lib.hid hva4
            clear kT1 ho4 hsc3 hL3
            go_wp2_with fail
            refine kT2.out.mono ?_; rintro e w5 ⟨v5, rfl, ho5, hb5⟩
            have hL5 := hL4.out.client hb5
            have hva5 := View.below hva4.out hb5
            have hvb5 := ho5.view
            have hCb := Lib.hid (fun x (hx : blockOf v5 = some x) => own_lt ho5 ((block_own v5).symm.trans hx))
            obtain ⟨A5, c5, rfl, _, _, _⟩ := own_shape ho5
            have kA1 := lappend_free hL5 hPF.out hS0.out rfl hva5 (fun x hx => .inl (.inr ⟨(hCa.out x hx).1, (hCa.out x hx).2⟩)) (by omega) (by omega) (by rw [hPu.out]; simp) t1.out (by rw [hPl.out]; show (40 : Int) ≤ 40; decide)
            rw [hD1.out] at kA1
            unfold Lg.with at kA1
            simp only [List.nil_append] at kA1
            replace kA1 := Lib.hid kA1
            replace hvb5 := Lib.hid hvb5
            replace hva5 := Lib.hid hva5
            clear kT2 ho5 hL5 hL4 hva4 hsc4 hsl4
            go_wp2_with fail
            refine kA1.out.mono ?_; rintro e w6 ⟨rfl, hL6, hkp6, _⟩
            have hva6 := Lib.hid (hkp6.view hva5.out (fun x hx => .inl (.inr ⟨(hCa.out x hx).1, (hCa.out x hx).2⟩)))
            have hvb6 := hkp6.view hvb5.out (fun x hx => .inr ⟨(hCb.out x hx).1, (hCb.out x hx).2⟩)
            have kM6 := Lib.hid (num5_any w6 0)
            have kA2 := lappend_free hL6 t3 hS1.out rfl hvb6 (fun x hx => .inr ⟨(hCb.out x hx).1, (hCb.out x hx).2⟩) (by omega) (by omega) (by rw [t5]; simp) t2.out (by rw [t4]; show (40 : Int) ≤ 40; decide)
            rw [hD2.out] at kA2
            replace kA2 := Lib.hid kA2
            replace hvb6 := Lib.hid hvb6
            clear kA1 hL6 hkp6 hva5 hvb5
            go_wp2_with fail
            refine kM6.out.mono ?_; rintro x9 w7 ⟨rfl, hw1⟩
            have hw2 := hw1.symm
            subst hw2
            clear hw1 kM6
            go_wp2_with fail
            refine kA2.out.mono ?_; rintro e w8 ⟨rfl, hL8, hkp8, _⟩
            have hva8 := Lib.hid (hkp8.view hva6.out (fun x hx => .inl (.inr ⟨(hCa.out x hx).1, (hCa.out x hx).2⟩)))
            have hvb8 := Lib.hid (hkp8.view hvb6.out (fun x hx => .inr ⟨(hCb.out x hx).1, (hCb.out x hx).2⟩))
            have kM8 := Lib.hid (num5_any w8 0)
            obtain ⟨lb', lo', eA, hll8, hlc8⟩ := ints_at (View.below h.out hL8.acc) j hlt
            injection eA with eA
            injection eA with eA1 eA2
            subst eA1 eA2
            rw [hep.out] at hlc8
            obtain ⟨v8, hs8, M8, hLa8⟩ := hL8
            have kO := open_any hLa8.hd t8.out.free.ok t8.out.fit 1 39 ep (by decide) (by decide) (by rw [t8.out.len]; decide)
            rw [show (1 : Int) + 39 = 40 by decide] at kO
            replace kO := Lib.hid kO
            clear kA2 hLa8 hkp8 hva6 hvb6
            go_wp2_with fail
            refine kM8.out.mono ?_; rintro x9 w9 ⟨rfl, hw1⟩
            have hw2 := hw1.symm
            subst hw2
            clear hw1 kM8
            go_wp2_with fail
            refine kO.out.mono ?_; rintro e w9 ⟨q9, g9, rfl, hO9, hL9, hkp9⟩
            have hrec := t9.out g9 hO9
            have hva9 := hkp9.view hva8.out (fun x hx => .inl (.inl (.inr ⟨(hCa.out x hx).1, (hCa.out x hx).2⟩)))
            have hvb9 := hkp9.view hvb8.out (fun x hx => .inl (.inr ⟨(hCb.out x hx).1, (hCb.out x hx).2⟩))
            have kR := Lib.hid (records_any hL9 (by rw [hrec]; show 2 ≤ 10000; decide) (fun b1 hb1 => by
              rw [hrec] at hb1
              simp only [List.mem_cons, List.not_mem_nil, or_false] at hb1
              rcases hb1 with rfl | rfl <;> omega))
            rw [hrec] at kR
            have hd9 := Lib.hid (show Hd w w9 p D2 (fun _ => False) from by
              obtain ⟨_, _, _, hLx⟩ := hL9
              exact hLx.hd.mono fun _ hh => hh.elim)
            replace hva9 := Lib.hid hva9
            replace hvb9 := Lib.hid hvb9
            clear kO hL9 hkp9 hva8 hvb8 hO9 hrec
            go_wp2_with fail
            refine kR.out.mono ?_; rintro e w10 ⟨v10, rfl, hB10, hb10⟩
            have hva10 : VB w10 (.slice A4 a.length c4) a := View.below hva9.out hb10
            have hvb10 : VB w10 (.slice A5 b.length c5) b := View.below hvb9.out hb10
            have hrow := View.of_own (own_lit (w := w10) (B := 0) (e := 27) (sz := 1) (n := 2) (b := w10.heap.size) (xs := [.slice A4 a.length c4, .slice A5 b.length c5]) rfl (Nat.zero_le _) rfl (by decide))
            have hVL : VL (w10.alloc (.cells #[.slice A4 a.length c4, .slice A5 b.length c5] 27)) (.slice (some ⟨w10.heap.size, 0, none⟩) 2 2) [a, b] := ⟨_, hrow, rfl, fun i h1 h2 => by
              rcases i with _ | _ | i
              · exact View.alloc hva10 _
              · exact View.alloc hvb10 _
              · simp at h1; omega⟩
            have hV10 : VL (w10.alloc (.cells #[.slice A4 a.length c4, .slice A5 b.length c5] 27)) v10 [a, b] := hB10.vl.below ((Below.refl _ _).alloc (Nat.le_refl _) _)
            have kS := Lib.hid (sameBytes_any _ v10 _ [a, b] hV10 hVL (by show 2 ≤ 1000000; decide))
            obtain ⟨hs10, ho10, _⟩ := hB10
            obtain ⟨A10, c10, rfl, _, _, _⟩ := own_shape ho10
            have hb11 := Lib.hid (hb10.alloc (by exact hb10.size) (.cells #[.slice A4 a.length c4, .slice A5 b.length c5] 27))
            clear ho10 hV10 hVL hrow hva10 hvb10 kR hb10 hva9 hvb9
            go_wp2_with fail
            refine kS.out.mono ?_; rintro e w12 ⟨rfl, hb12⟩
            have hd12 := Lib.hid (hd9.out.below (below_then hb11.out hb12))
            clear kS hb12
            go_wp2_with fail
            go_roundw
            case rel => exact ⟨j + 1, D2, by omega, by go_num, hd12.out, t8.out, by omega⟩
            case measure => simp [intOf]; omega
    · obtain rfl : k = l.length := by omega
      have q1 : ¬ (l.length : Int) < (l.length : Int) := by omega
      go_wp2_with fail
      go_ret
      exact ⟨rfl, hd.acc⟩
set_option maxRecDepth 100000 in
theorem rd_ints {W : World} {e : TypeId} {v : Value} {l : List Int} (z : Rd Try.prog W (.sl e (.int .i64)) [v] l) : ∀ k, k < l.length → -9223372036854775808 ≤ l.getD k 0 ∧ l.getD k 0 < 9223372036854775808 := fun k hk => by
  obtain ⟨A, cap, _, _, _, _, _, hh⟩ := z
  obtain ⟨a, c, _, _, _, hr⟩ := hh k hk
  have hw : (Lit.int .i64 l[k]).wf = true := hr.2
  have h9 : IntKind.i64.min ≤ l[k] ∧ l[k] ≤ IntKind.i64.max := by simpa [Lit.wf] using hw
  have h8 : IntKind.i64.max = 9223372036854775807 := by rfl
  have h7 : IntKind.i64.min = -9223372036854775808 := by rfl
  rw [List.getD_eq_getElem?_getD, List.getElem?_eq_getElem hk]
  simp only [Option.getD_some]
  omega
theorem logEpochs_walk (W : World) (A : Option Addr) (n c : Nat) (x : (Kd.sl 3 (.int .i64)).T) (z : Rd Try.prog W (.sl 3 (.int .i64)) [.slice A n c] x) (A2 : Option Addr) (n2 c2 : Nat) (x2 : (Kd.sl 3 (.int .i64)).T) (z2 : Rd Try.prog W (.sl 3 (.int .i64)) [.slice A2 n2 c2] x2) :
    Calls Try.prog 12 #[.slice A n c, .slice A2 n2 c2] W fun e w' => e = .returned (.bool true) ∧ Below W.heap.size W w' := by
  have hwf := rd_ints z
  have hv := rd_view_flat rfl z
  obtain ⟨A', c', e, _, _⟩ := View.cells hv
  injection e with e1 e2 e3
  subst e1 e2 e3
  rw [int_enc x] at hv
  have hv2 := rd_view_flat rfl z2
  obtain ⟨A', c', e, _, _⟩ := View.cells hv2
  injection e with e1 e2 e3
  subst e1 e2 e3
  rw [int_enc x2] at hv2
  exact epochs_core W A A2 c c2 x x2 hwf hv hv2
end Go.Proofs.Ytbfcaapompkjhaa
