/-
  TreeLong: an array of bools in a box of its own, and the walk.
-/
import Derived.Test.YtegomkgfmaclkaaTz
set_option linter.unusedVariables false
set_option linter.unusedSimpArgs false
namespace Go.Proofs.Ytegomkgfmaclkaa
open Go.RowKit Go.Proofs.PosteOrd Go.Proofs.PosteMem Go.Proofs.PosteOpen
theorem zero85 : Try.zeroCells85 = ((List.replicate 8000 false).map Value.bool).toArray := by
  rw [List.map_replicate]
  kernel_rfl
/-- The law's array, in a box of its own. -/
def HB (W : World) (c : Nat) (had : List Bool) : Prop := Whole W c 85 (had.map Value.bool).toArray ∧ had.length = 8000
theorem HB.cell {W : World} {c : Nat} {had : List Bool} (h : HB W c had) {k : Nat} (hk : k < 8000) : W.cell? ⟨c, k, none⟩ = some (.bool (had.getD k false)) := by
  rw [h.1.cell k]
  have := h.2
  simp [List.getD_eq_getElem?_getD, show k < had.length by omega]
theorem HB.set {W : World} {c : Nat} {had : List Bool} (h : HB W c had) (k : Nat) (b : Bool) : HB (W.setCell ⟨c, k, none⟩ (.bool b)) c (had.set k b) := by
  refine ⟨?_, by rw [List.length_set]; exact h.2⟩
  have := h.1.set k (.bool b)
  rw [List.map_set]
  simpa using this
theorem HB.upd {W W' : World} {c : Nat} {had : List Bool} {S : Nat → Prop} (h : HB W c had) (k : Upd S W W') (hS : ¬ S c) : HB W' c had := ⟨h.1.upd k hS, h.2⟩
theorem HB.below {W W' : World} {c : Nat} {had : List Bool} (h : HB W c had) (k : Below W.heap.size W W') : HB W' c had := ⟨h.1.below k, h.2⟩

set_option maxRecDepth 100000 in
set_option maxHeartbeats 8000000 in
theorem treeLong_core (w : World) (n step cut : Nat) (g1 : 1 ≤ n) (g2 : n ≤ 700) (g3 : 1 ≤ step) (g4 : step ≤ 700) (g6 : cut ≤ n) :
    Calls Try.prog 12 #[.int .i64 n, .int .i64 step, .int .i64 cut] w fun e w' => e = .returned (.bool true) ∧ Below w.heap.size w w' := by
  have q1 : ¬ (n : Int) < 1 := by omega
  have q2 : ¬ (700 : Int) < (n : Int) := by omega
  have q3 : ¬ (step : Int) < 1 := by omega
  have q4 : ¬ (700 : Int) < (step : Int) := by omega
  have q5 : ¬ (cut : Int) < 0 := by omega
  have q6 : ¬ (n : Int) < (cut : Int) := by omega
  go_enter Try.func12, Try.ntmps12
  go_wp2_with fail
  refine (alive8 _).mono ?_; rintro e w1 ⟨rfl, hb1⟩
  have kN := Lib.hid (tnew_any (w := w1) (v := .slice none 0 0) (L := []) (View.nil _ _) (by decide))
  replace hb1 := Lib.hid hb1
  go_wp2_with fail
  refine kN.out.mono ?_; rintro e w2 ⟨gt, rfl, hg, hT, hb2⟩
  have hT : Tr w2 gt [] := hT
  have hB2 := hb1.out.trans (hb2.mono hb1.out.size)
  have hgw : w.heap.size ≤ gt := Nat.le_trans hb1.out.size hg
  have hba := (Below.refl w2.heap.size w2).alloc (Nat.le_refl _) (.cells Try.zeroCells85 85)
  have hgc := hT.lt
  have hT3 := (hT.ahead (Nat.le_refl w2.heap.size)).below' hba
  have hH : HB (w2.alloc (.cells Try.zeroCells85 85)) w2.heap.size (List.replicate 8000 false) := ⟨by rw [← zero85]; exact Whole.new w2 _ _, List.length_replicate⟩
  have hB3 := hB2.trans (hba.mono hB2.size)
  have hcw := hB2.size
  go_upto_region 8 with fail
  generalize w2.alloc (.cells Try.zeroCells85 85) = w3 at *
  generalize w2.heap.size = c at *
  clear kN hb1 hb2 hg hT hba hB2
  have e1 : decide ((n : Int) < 1) = false := decide_eq_false (by omega)
  have e2 : decide ((700 : Int) < (n : Int)) = false := decide_eq_false (by omega)
  have e3 : decide ((step : Int) < 1) = false := decide_eq_false (by omega)
  have e4 : decide ((700 : Int) < (step : Int)) = false := decide_eq_false (by omega)
  have e5 : decide ((cut : Int) < 0) = false := decide_eq_false (by omega)
  have e6 : decide ((n : Int) < (cut : Int)) = false := decide_eq_false (by omega)
  simp only [e1, e2, e3, e4, e5, e6, Bool.or_self]
  clear e1 e2 e3 e4 e5 e6
  have hF0 : Full (List.replicate 8000 false) [] := fun y => ⟨fun h => (by cases h), fun ⟨j, hj, hp, _⟩ => by
    have h0 : (List.replicate 8000 false)[j]? = some false := by rw [List.getElem?_replicate, if_pos hj]
    rw [List.getD_eq_getElem?_getD, h0] at hp
    cases hp⟩
  have hst1 : 1 ≤ step := g3
  have hst2 : step ≤ 700 := g4
  clear q1 q2 q3 q4 q5 q6
  go_loopw [10, 11] (fun cc i wr => ∃ (k : Nat) (had : List Bool) (L : List Row), k ≤ n ∧ i = .int .i64 k ∧ cc = .int .i64 L.length ∧ L.length ≤ k ∧ Full had L ∧ HB wr c had ∧ Tr2 wr gt c L ∧ Below w.heap.size w wr) (fun _ i _ => n - (intOf i).toNat)
  case atStart => exact ⟨0, _, [], by omega, rfl, rfl, Nat.le_refl _, hF0, hH, hT3, hB3⟩
  case round =>
    clear hF0 hH hT3 hB3
    obtain ⟨k, had, L, hk, rfl, rfl, hL, hF, hH, hT, hB⟩ := hrel
    have hL' := Lib.hid hL
    by_cases hlt : k < n
    · have q1 : (k : Int) < (n : Int) := by omega
      have hm : k * step ≤ 700 * 700 := Nat.mul_le_mul (by omega) (by omega)
      have ew : IntKind.i64.wrap ((k : Int) * (step : Int)) = (k : Int) * (step : Int) := by rw [← Int.natCast_mul, IntKind.wrap_i64]; omega
      have et : Int.tmod ((k : Int) * (step : Int)) 8000 = ((k * step % 8000 : Nat) : Int) := by rw [← Int.natCast_mul, Int.tmod_eq_emod_of_nonneg (by omega)]; omega
      have hK : k * step % 8000 < 8000 := Nat.mod_lt _ (by decide)
      generalize k * step % 8000 = K at *
      clear hm
      have kK := Lib.hid (keyN_any wr K hK)
      have d0 := hH.cell hK
      have hP := Lib.hid (hF.put hK hH.2)
      have hlen := Lib.hid (putS_len L (RL K))
      have hh := hF.hit hT.tr.srt hK
      replace hT := Lib.hid hT
      replace hB := Lib.hid hB
      replace hH := Lib.hid hH
      go_wp2_with fail
      refine kK.out.mono ?_; rintro e w5 ⟨rfl, m5, rfl⟩
      have hb5 := below_dn m5 (Below.refl wr.heap.size wr)
      have hT5 := hT.out.below' hb5
      have hH5 := Lib.hid (hH.out.below hb5)
      have hB5 := Lib.hid (hB.out.trans (hb5.mono hB.out.size))
      have kP := tput2_any hH5.out.1.lt hT5 ⟨keyN K, ⟨#[118]⟩⟩ (by omega)
      have hlen2 : (putS L (RL K)).length = if hit L (keyN K) = true then L.length else L.length + 1 := hlen.out
      rw [hh] at hlen2
      simp only at kP
      rw [hh] at kP
      clear d0 hlen hT hH hB kK hb5 hT5 hh
      generalize wr.drewN m5 = w6 at *
      cases hv : had.getD K false with
      | true =>
        rw [hv] at kP hlen2
        simp only [Bool.false_eq_true, if_true, if_false, Bool.not_true, Bool.not_false] at kP hlen2
        replace hlen2 := Lib.hid hlen2
        replace kP := Lib.hid kP
        go_wp2_with fail
        refine kP.out.mono ?_; rintro e w7 ⟨rfl, hT7, hu7⟩
        have hH7 := hH5.out.upd hu7 (by omega)
        have hB7 := hB5.out.trans (hu7.below hB5.out.size (fun b hb => by omega))
        have d0 := hH7.cell hK
        rw [hv] at d0
        have f0 := hH7.1.frozen K
        have hc7 := hH7.1.lt
        have hH8 := Lib.hid (hH7.set K true)
        have hT8 := Lib.hid (hT7.upd (show gt ≠ c by omega) ((Upd.refl (fun b => b = c) w7).setCell (p := ⟨c, K, none⟩) (.inr rfl) (.bool true)))
        have hB8 := Lib.hid (hB7.setCell (p := ⟨c, K, none⟩) (by show w.heap.size ≤ c; omega) (.bool true))
        clear hH5 hB5 kP hu7 hH7 hB7 hT7
        go_wp2_with fail
        go_roundw
        case rel => exact ⟨k + 1, _, _, by omega, by go_num, (by rw [hlen2.out]; try go_num), (by rw [hlen2.out]; have := hL'.out; omega), hP.out, hH8.out, hT8.out, hB8.out⟩
        case measure => simp [intOf]; omega
      | false =>
        rw [hv] at kP hlen2
        simp only [Bool.false_eq_true, if_true, if_false, Bool.not_true, Bool.not_false] at kP hlen2
        replace hlen2 := Lib.hid hlen2
        replace kP := Lib.hid kP
        go_wp2_with fail
        refine kP.out.mono ?_; rintro e w7 ⟨rfl, hT7, hu7⟩
        have hH7 := hH5.out.upd hu7 (by omega)
        have hB7 := hB5.out.trans (hu7.below hB5.out.size (fun b hb => by omega))
        have d0 := hH7.cell hK
        rw [hv] at d0
        have f0 := hH7.1.frozen K
        have hc7 := hH7.1.lt
        have hH8 := Lib.hid (hH7.set K true)
        have hT8 := Lib.hid (hT7.upd (show gt ≠ c by omega) ((Upd.refl (fun b => b = c) w7).setCell (p := ⟨c, K, none⟩) (.inr rfl) (.bool true)))
        have hB8 := Lib.hid (hB7.setCell (p := ⟨c, K, none⟩) (by show w.heap.size ≤ c; omega) (.bool true))
        clear hH5 hB5 kP hu7 hH7 hB7 hT7
        go_wp2_with fail
        go_roundw
        case rel => exact ⟨k + 1, _, _, by omega, by go_num, (by rw [hlen2.out]; try go_num), (by rw [hlen2.out]; have := hL'.out; omega), hP.out, hH8.out, hT8.out, hB8.out⟩
        case measure => simp [intOf]; omega
    · obtain rfl : n = k := by omega
      go_upto_region 18 with fail
      have hq : ∀ L : List Row, L.length ≤ 700 → True := fun _ _ => trivial
      have hL0 : L.length ≤ 700 := by omega
      clear hL hL'
      go_loopw [10, 14] (fun cc i wr => ∃ (k : Nat) (had : List Bool) (L : List Row), k ≤ cut ∧ i = .int .i64 k ∧ cc = .int .i64 L.length ∧ L.length ≤ 700 ∧ Full had L ∧ HB wr c had ∧ Tr2 wr gt c L ∧ Below w.heap.size w wr) (fun _ i _ => cut - (intOf i).toNat)
      case atStart => exact ⟨0, _, _, by omega, rfl, rfl, hL0, hF, hH, hT, hB⟩
      case round =>
        clear hF hH hT hB hL0 hq hk
        obtain ⟨k, had, L, hk, rfl, rfl, hL, hF, hH, hT, hB⟩ := hrel
        by_cases hlt : k < cut
        · have q1 : (k : Int) < (cut : Int) := by omega
          have hm : k * step ≤ 700 * 700 := Nat.mul_le_mul (by omega) (by omega)
          have ew : IntKind.i64.wrap ((k : Int) * (step : Int)) = (k : Int) * (step : Int) := by rw [← Int.natCast_mul, IntKind.wrap_i64]; omega
          have et : Int.tmod ((k : Int) * (step : Int)) 8000 = ((k * step % 8000 : Nat) : Int) := by rw [← Int.natCast_mul, Int.tmod_eq_emod_of_nonneg (by omega)]; omega
          have hK : k * step % 8000 < 8000 := Nat.mod_lt _ (by decide)
          generalize k * step % 8000 = K at *
          clear hm
          have kK := Lib.hid (keyN_any wr K hK)
          have hP := Lib.hid (hF.cut hT.tr.srt hK hH.2)
          have hlen2 := cutS_len L (keyN K)
          have hh := hF.hit hT.tr.srt hK
          have hln : hit L (keyN K) = true → 1 ≤ L.length := hit_len
          rw [hh] at hlen2 hln
          replace hlen2 := Lib.hid hlen2
          replace hT := Lib.hid hT
          replace hB := Lib.hid hB
          replace hH := Lib.hid hH
          go_wp2_with fail
          refine kK.out.mono ?_; rintro e w5 ⟨rfl, m5, rfl⟩
          have hb5 := below_dn m5 (Below.refl wr.heap.size wr)
          have hT5 := hT.out.below' hb5
          have hH5 := Lib.hid (hH.out.below hb5)
          have hB5 := Lib.hid (hB.out.trans (hb5.mono hB.out.size))
          have kP := tcut2_any hH5.out.1.lt hT5 (keyN K) (by omega)
          rw [hh] at kP
          replace hlen2 := hlen2.out
          clear hT hH hB kK hb5 hT5 hh
          generalize wr.drewN m5 = w6 at *
          cases hv : had.getD K false with
          | true =>
            have hl1 := hln hv
            have ew2 : IntKind.i64.wrap ((L.length : Int) - 1) = ((L.length - 1 : Nat) : Int) := by rw [IntKind.wrap_i64]; omega
            rw [hv] at kP hlen2
            simp only [Bool.false_eq_true, if_true, if_false] at kP hlen2
            replace hlen2 := Lib.hid hlen2
            replace kP := Lib.hid kP
            clear hln
            go_wp2_with fail
            refine kP.out.mono ?_; rintro e w7 ⟨rfl, hT7, hu7⟩
            have hH7 := hH5.out.upd hu7 (by omega)
            have hB7 := hB5.out.trans (hu7.below hB5.out.size (fun b hb => by omega))
            have d0 := hH7.cell hK
            rw [hv] at d0
            have f0 := hH7.1.frozen K
            have hc7 := hH7.1.lt
            have hH8 := Lib.hid (hH7.set K false)
            have hT8 := Lib.hid (hT7.upd (show gt ≠ c by omega) ((Upd.refl (fun b => b = c) w7).setCell (p := ⟨c, K, none⟩) (.inr rfl) (.bool false)))
            have hB8 := Lib.hid (hB7.setCell (p := ⟨c, K, none⟩) (by show w.heap.size ≤ c; omega) (.bool false))
            clear hH5 hB5 kP hu7 hH7 hB7 hT7
            go_wp2_with fail
            go_roundw
            case rel => exact ⟨k + 1, _, _, by omega, by go_num, (by rw [hlen2.out]; try go_num), (by rw [hlen2.out]; omega), hP.out, hH8.out, hT8.out, hB8.out⟩
            case measure => simp [intOf]; omega
          | false =>
            rw [hv] at kP hlen2
            simp only [Bool.false_eq_true, if_true, if_false] at kP hlen2
            replace hlen2 := Lib.hid hlen2
            replace kP := Lib.hid kP
            clear hln
            go_wp2_with fail
            refine kP.out.mono ?_; rintro e w7 ⟨rfl, hT7, hu7⟩
            have hH7 := hH5.out.upd hu7 (by omega)
            have hB7 := hB5.out.trans (hu7.below hB5.out.size (fun b hb => by omega))
            have d0 := hH7.cell hK
            rw [hv] at d0
            have f0 := hH7.1.frozen K
            have hc7 := hH7.1.lt
            have hH8 := Lib.hid (hH7.set K false)
            have hT8 := Lib.hid (hT7.upd (show gt ≠ c by omega) ((Upd.refl (fun b => b = c) w7).setCell (p := ⟨c, K, none⟩) (.inr rfl) (.bool false)))
            have hB8 := Lib.hid (hB7.setCell (p := ⟨c, K, none⟩) (by show w.heap.size ≤ c; omega) (.bool false))
            clear hH5 hB5 kP hu7 hH7 hB7 hT7
            go_wp2_with fail
            go_roundw
            case rel => exact ⟨k + 1, _, _, by omega, by go_num, (by rw [hlen2.out]; try go_num), (by rw [hlen2.out]; omega), hP.out, hH8.out, hT8.out, hB8.out⟩
            case measure => simp [intOf]; omega
        · obtain rfl : cut = k := by omega
          have q1 : ¬ (cut : Int) < (cut : Int) := by omega
          have hris : risesB L = true := (risesB_iff L).2 fun i hi => srt_lt hT.tr.srt (Nat.lt_succ_self i) hi
          have hok : RowsOk L := fun r hr => by
            obtain ⟨j, _, _, rfl⟩ := (hF r).1 hr
            show (keyN j).size ≤ _
            exact Nat.le_trans (Nat.le_of_eq (show (keyN j).size = 3 from rfl)) (by decide)
          have kA := Lib.hid (tall_tr hT.tr (by omega))
          replace hT := Lib.hid hT
          replace hB := Lib.hid hB
          clear hH hF
          go_wp2_with fail
          refine kA.out.mono ?_; rintro e w5 ⟨v5, rfl, ho5, hb5⟩
          obtain ⟨A5, c5, rfl, _, _, _⟩ := own_shape ho5
          have hT5 := hT.out.below' hb5
          have hB5 := Lib.hid (hB.out.trans (hb5.mono hB.out.size))
          have kL := Lib.hid (tlen_tr hT5.tr)
          replace hT5 := Lib.hid hT5
          replace ho5 := Lib.hid ho5
          clear kA hT hB hb5
          go_wp2_with fail
          refine kL.out.mono ?_; rintro e w6 ⟨rfl, hb6⟩
          have kR := refRises_any w6 _ L (View.of_own (own_below ho5.out hb6)) (by omega) hok
          rw [hris] at kR
          have hT6 := Lib.hid (hT5.out.below' hb6)
          have hB6 := Lib.hid (hB5.out.trans (hb6.mono hB5.out.size))
          replace kR := Lib.hid kR
          clear kL hT5 hB5 hb6 ho5
          go_wp2_with fail
          refine kR.out.mono ?_; rintro e w7 ⟨rfl, m7, rfl⟩
          have hb7 := below_dn m7 (Below.refl w6.heap.size w6)
          have hT7 := hT6.out.below' hb7
          have hB7 := Lib.hid (hB6.out.trans (hb7.mono hB6.out.size))
          clear kR hT6 hB6 hb7
          generalize w6.drewN m7 = w7 at *
          obtain ⟨m, hm2, hm1, kH⟩ := theight_tr hT7.tr (by omega)
          have qh : (m : Int) ≤ ((2 + d3 L.length : Nat) : Int) := by omega
          replace kH := Lib.hid kH
          clear hT7
          go_wp2_with fail
          refine kH.out.mono ?_; rintro e w8 ⟨rfl, hb8⟩
          have hB8 := hB7.out.trans (hb8.mono hB7.out.size)
          have kT := Lib.hid (refTall_any w8 L.length (by omega))
          clear kH hb8
          go_wp2_with fail
          refine kT.out.mono ?_; rintro e w9 ⟨rfl, rfl⟩
          go_wp2_with fail
          go_ret
          exact ⟨ret_bool (decide_eq_true (by omega)), hB8⟩
set_option maxRecDepth 100000 in
set_option maxHeartbeats 8000000 in
theorem treeLong_walk (w : World) (n : Int) (_ : (Lit.int .i64 n).wf = true) (step : Int) (_ : (Lit.int .i64 step).wf = true) (cut : Int) (_ : (Lit.int .i64 cut).wf = true) :
    Calls Try.prog 12 #[.int .i64 n, .int .i64 step, .int .i64 cut] w fun e w' => e = .returned (.bool true) ∧ Below w.heap.size w w' := by
  by_cases g1 : n < 1
  · have qz : True := trivial
    go_enter Try.func12, Try.ntmps12
    go_wp2_with fail
    refine (alive8 _).mono ?_; rintro e w1 ⟨rfl, hb1⟩
    go_wp2
    go_ret
    exact ⟨rfl, hb1⟩
  by_cases g2 : 700 < n
  · have qz : True := trivial
    go_enter Try.func12, Try.ntmps12
    go_wp2_with fail
    refine (alive8 _).mono ?_; rintro e w1 ⟨rfl, hb1⟩
    go_wp2
    go_ret
    exact ⟨rfl, hb1⟩
  by_cases g3 : step < 1
  · have qz : True := trivial
    go_enter Try.func12, Try.ntmps12
    go_wp2_with fail
    refine (alive8 _).mono ?_; rintro e w1 ⟨rfl, hb1⟩
    go_wp2
    go_ret
    exact ⟨rfl, hb1⟩
  by_cases g4 : 700 < step
  · have qz : True := trivial
    go_enter Try.func12, Try.ntmps12
    go_wp2_with fail
    refine (alive8 _).mono ?_; rintro e w1 ⟨rfl, hb1⟩
    go_wp2
    go_ret
    exact ⟨rfl, hb1⟩
  by_cases g5 : cut < 0
  · have qz : True := trivial
    go_enter Try.func12, Try.ntmps12
    go_wp2_with fail
    refine (alive8 _).mono ?_; rintro e w1 ⟨rfl, hb1⟩
    go_wp2
    go_ret
    exact ⟨rfl, hb1⟩
  by_cases g6 : n < cut
  · have qz : True := trivial
    go_enter Try.func12, Try.ntmps12
    go_wp2_with fail
    refine (alive8 _).mono ?_; rintro e w1 ⟨rfl, hb1⟩
    go_wp2
    go_ret
    exact ⟨rfl, hb1⟩
  obtain ⟨n, rfl⟩ := Int.eq_ofNat_of_zero_le (by omega : 0 ≤ n)
  obtain ⟨step, rfl⟩ := Int.eq_ofNat_of_zero_le (by omega : 0 ≤ step)
  obtain ⟨cut, rfl⟩ := Int.eq_ofNat_of_zero_le (by omega : 0 ≤ cut)
  exact treeLong_core w n step cut (by omega) (by omega) (by omega) (by omega) (by omega)
end Go.Proofs.Ytegomkgfmaclkaa
