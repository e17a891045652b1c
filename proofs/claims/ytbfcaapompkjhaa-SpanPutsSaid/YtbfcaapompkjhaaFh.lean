/-
  The reference's Put by its contract.
-/
import Derived.Test.YtbfcaapompkjhaaFg
set_option linter.unusedVariables false
set_option linter.unusedSimpArgs false
namespace Go.Proofs.Ytbfcaapompkjhaa
open Go.RowKit Go.Proofs.PosteMem
attribute [local go_sem ↓] Go.wp_at_zero Go.wp_at_succ

theorem chunk_at {b : List Int} {i m : Nat} (hi : i < need b.length) (hm : m < 64) (hl : 64 * i + m < b.length) : (chunk b i)[m]'(by rw [chunk_len hi]; exact hm) = b[64 * i + m] := by
  unfold chunk fillB
  rw [List.getElem_take, List.getElem_drop, List.getElem_append_left hl]
theorem chunk_zero {b : List Int} {i j : Nat} (hi : i < need b.length) (hj : j < 64) (hl : b.length ≤ 64 * i + j) : (chunk b i)[j]'(by rw [chunk_len hi]; exact hj) = 0 := by
  unfold chunk fillB
  rw [List.getElem_take, List.getElem_drop, List.getElem_append_right hl, List.getElem_replicate]
theorem chunk_end {b : List Int} {i m : Nat} (hi : i < need b.length) (hm : m ≤ 64) (he : m = 64 ∨ b.length ≤ 64 * i + m) : (chunk b i).take m ++ List.replicate (64 - m) 0 = chunk b i := by
  have hl := chunk_len hi
  refine List.ext_getElem (by simp [hl]; omega) (fun j h1 h2 => ?_)
  by_cases hj : j < m
  · rw [List.getElem_append_left (by simp [hl]; omega), List.getElem_take]
  · rw [List.getElem_append_right (by simp [hl]; omega), List.getElem_replicate]
    exact (chunk_zero hi (by omega) (by omega)).symm
theorem chunk_next {L : List Int} {m : Nat} (hL : L.length = 64) (hm : m < 64) : ((L.take m ++ List.replicate (64 - m) 0).map bv).set m (bv (L[m]'(by omega))) = (L.take (m + 1) ++ List.replicate (64 - (m + 1)) 0).map bv := by
  rw [← List.map_set]
  congr 1
  rw [List.set_append_right _ _ (by simp; omega)]
  have e : m - (L.take m).length = 0 := by simp; omega
  rw [e, show 64 - m = 64 - (m + 1) + 1 by omega, List.replicate_succ, List.set_cons_zero, List.take_succ_eq_append_getElem (by omega), List.append_assoc]
  rfl
set_option maxRecDepth 100000 in
set_option maxHeartbeats 16000000 in
theorem hr_put {w W : World} {p : Nat} {R : Rk} {C : Nat → Prop} (h : Hr w W p R C) (hk : R.ok) (at' : Int) {A : Option Addr} {cap : Nat} {b : List Int} (hvb : ∀ W', Below w.heap.size w W' → Keeps C W W' → VB W' (.slice A b.length cap) b) (hbl : b.length ≤ 1000000) (hw : R.count ≤ 100000000) (hu : R.uns.length ≤ 100000) :
    Calls Try.prog 37 #[.pointer (some ⟨p, 0, none⟩), .int .i64 at', .slice A b.length cap] W fun e w' => e = .returned (.bool (R.put at' b).2) ∧ Hr w w' p (R.put at' b).1 C ∧ Keeps C W w' := by
  obtain ⟨j0, hj0, hy0, hy1, hy2⟩ := info_parts infoByte
  have hm := hk.max
  have kN := Lib.hid (rneed_any W b.length (by omega))
  rw [needI_nat] at kN
  have hnb : need b.length ≤ 20000 := by unfold need; omega
  obtain ⟨K, hK⟩ : ∃ K, need b.length = K := ⟨_, rfl⟩
  unfold Rk.put
  rw [hK] at kN hnb ⊢
  replace hvb := Lib.hid hvb
  by_cases h0 : K = 0
  · rw [if_pos h0]
    rw [h0] at kN
    replace h := Lib.hid h
    go_enter Try.func37, Try.ntmps37
    go_wp2_with fail
    refine kN.out.mono ?_; rintro e w1 ⟨rfl, hw1⟩
    have hw2 := hw1.symm
    subst hw2
    clear hw1
    go_wp2_with fail
    go_ret
    exact ⟨rfl, h.out, Keeps.refl _ _⟩
  rw [if_neg h0]
  have q0 : ((K : Int) == 0) = false := beq_eq_false_iff_ne.2 (by omega)
  have kL := Lib.hid (hr_len h)
  have qw : IntKind.i64.wrap ((R.sure.length : Int) - K) = (R.sure.length : Int) - K := IntWalk.i64_in _ (by omega)
  by_cases h1 : at' < 0
  · rw [if_pos (.inl h1)]
    replace h := Lib.hid h
    go_enter Try.func37, Try.ntmps37
    go_wp2_with fail
    refine kN.out.mono ?_; rintro e w1 ⟨rfl, hw1⟩
    have hw2 := hw1.symm
    subst hw2
    clear hw1
    go_wp2_with fail
    go_ret
    exact ⟨rfl, h.out, Keeps.refl _ _⟩
  by_cases h2 : (R.sure.length : Int) - K < at'
  · rw [if_pos (.inr h2)]
    replace h := Lib.hid h
    go_enter Try.func37, Try.ntmps37
    go_wp2_with fail
    refine kN.out.mono ?_; rintro e w1 ⟨rfl, hw1⟩
    have hw2 := hw1.symm
    subst hw2
    clear hw1
    go_wp2_with fail
    refine kL.out.mono ?_; rintro e w1 ⟨rfl, hw1⟩
    have hw2 := hw1.symm
    subst hw2
    clear hw1
    go_wp2_with fail
    go_ret
    exact ⟨rfl, h.out, Keeps.refl _ _⟩
  rw [if_neg (by omega)]
  have hch := Lib.hid (fun k (hk : k < K) => chunk_len (b := b) (k := k) (by rw [hK]; exact hk))
  have hpk := Lib.hid (rputN_ok hk at' b)
  replace h := Lib.hid h
  replace hK := Lib.hid hK
  go_enter Try.func37, Try.ntmps37
  go_wp2_with fail
  refine kN.out.mono ?_; rintro e w1 ⟨rfl, hw1⟩
  have hw2 := hw1.symm
  subst hw2
  clear hw1
  go_wp2_with fail
  refine kL.out.mono ?_; rintro e w1 ⟨rfl, hw1⟩
  have hw2 := hw1.symm
  subst hw2
  clear hw1 kL kN
  go_upto_region 7 with fail
  go_loopw [8] (fun q wr => ∃ i : Nat, i ≤ K ∧ q = .int .i64 i ∧ (rputN R at' b i).2 = true ∧ Hr w wr p (rputN R at' b i).1 C ∧ Keeps C W wr) (fun q _ => K - (intOf q).toNat)
  case atStart => exact ⟨0, by omega, rfl, rfl, h.out, Keeps.refl _ _⟩
  clear h
  case round =>
    obtain ⟨i, hi, rfl, hp, hr, kp⟩ := hrel
    by_cases hlt : i < K
    · have q1 : (i : Int) < (K : Int) := by omega
      obtain ⟨hok, hsl, hcn, hun⟩ := hpk.out i
      have hstep : rputN R at' b (i + 1) = (rputN R at' b i).1.write (at' + i) (chunk b i) := by rw [rputN, if_pos hp]
      have hcl := hch.out i hlt
      have hKi : i < need b.length := by rw [hK.out]; exact hlt
      have q64 : IntKind.i64.wrap (64 * (i : Int)) = ((64 * i : Nat) : Int) := by rw [IntWalk.i64_in _ (by omega)]; omega
      replace hr := Lib.hid hr
      replace kp := Lib.hid kp
      go_upto_region 11 with (at_make; refine wpList_make_full _ rfl _ _ 27 rfl wr.heap.size 5 j0 (.int .u8 0) 1 Try.underlying27 hj0 hy0 hy1 .i64 .i64 _ _ 64 rfl rfl rfl rfl (by rw [hy2]; omega) (by unfold maxLen; omega) (Nat.le_refl _) ?_; intro w3 hown3 hg3; rw [made_bytes] at hown3)
      have hb3 : Below wr.heap.size wr w3 := (Below.refl wr.heap.size wr).grown hg3 (Nat.le_refl _) (by intro k hk; cases hk)
      have h3 := hr.out.client hb3
      have hlt3 := (own_lt hown3 rfl).2
      have hgw := hr.out.acc.size
      have kp3 : Keeps C W w3 := kp.out.trans (Keeps.of_below hb3)
      replace h3 := h3.mono (C' := fun x => C x ∨ x = wr.heap.size) (fun x e => by rcases e with e | e; exact .inl e; exact .inr ⟨by omega, by rw [e]; exact hlt3⟩)
      have hCg : ¬ C wr.heap.size := fun c => by obtain ⟨F, _, _, h3', _⟩ := hr.out; have := h3' _ c; omega
      generalize wr.heap.size = g at *
      have hown0 : w3.ownsRow g 5 1 (.slice (some ⟨g, 0, none⟩) 64 64) 64 (((chunk b i).take 0 ++ List.replicate (64 - 0) 0).map bv) := by
        rw [List.take_zero, List.nil_append, List.map_replicate]; exact hown3
      replace h3 := Lib.hid h3
      replace hown0 := Lib.hid hown0
      replace kp3 := Lib.hid kp3
      clear hown3 hg3 hb3 hr kp
      go_loopw [10] (fun q wi => ∃ m : Nat, m ≤ 64 ∧ q = .int .i64 m ∧ wi.ownsRow g 5 1 (.slice (some ⟨g, 0, none⟩) 64 64) 64 (((chunk b i).take m ++ List.replicate (64 - m) 0).map bv) ∧ Hr w wi p (rputN R at' b i).1 (fun x => C x ∨ x = g) ∧ Keeps C W wi) (fun q _ => 64 - (intOf q).toNat)
      case atStart => exact ⟨0, by omega, rfl, hown0.out, h3.out, kp3.out⟩
      clear h3 hown0 kp3
      case round =>
        obtain ⟨m, hm2, rfl, ho, hr, kp⟩ := hrel
        have qm : IntKind.i64.wrap (((64 * i : Nat) : Int) + m) = ((64 * i + m : Nat) : Int) := by rw [IntWalk.i64_in _ (by omega)]; omega
        by_cases hin : m < 64 ∧ 64 * i + m < b.length
        · obtain ⟨hm64, hmb⟩ := hin
          have q2 : (m : Int) < 64 := by omega
          have hvw := hvb.out _ hr.acc kp
          obtain ⟨bb, bo, cc, e, _, _, _, fb⟩ := View.at_ hvw (by omega)
          injection e with e1 e2 e3
          subst e1 e3
          have lb := fb (64 * i + m) (bv b[64 * i + m]) (by simp [List.getElem?_eq_getElem hmb])
          have hca := chunk_at hKi hm64 hmb
          obtain ⟨u1, z1⟩ : ∃ u, wr.cell? ⟨g, m, none⟩ = some u := ⟨_, own_cell ho m (by omega)⟩
          have z2 := own_free ho m
          have ho2 := own_set ho m (by omega) (bv b[64 * i + m])
          rw [← hca, chunk_next hcl hm64, hca] at ho2
          have hr2 := hr.store (a := ⟨g, m, none⟩) (.inr rfl) hgw (bv b[64 * i + m])
          have kp2 : Keeps C W (wr.setCell ⟨g, m, none⟩ (bv b[64 * i + m])) := kp.trans ⟨fun x => x = g, Upd.setCell (S := fun x => x = g) (p := ⟨g, m, none⟩) (Upd.refl _ _) (.inr rfl) _, fun x c e => hCg (e ▸ c)⟩
          generalize b[64 * i + m] = x at *
          unfold bv at ho2 hr2 kp2 lb
          obtain ⟨N, hN⟩ : ∃ N, 64 * i + m = N := ⟨_, rfl⟩
          have q5 : (N : Int) < (b.length : Int) := by omega
          rw [hN] at qm lb
          obtain ⟨M, hM⟩ : ∃ M, 64 * i = M := ⟨_, rfl⟩
          rw [hM] at q64 qm
          replace ho2 := Lib.hid ho2
          replace hr2 := Lib.hid hr2
          replace kp2 := Lib.hid kp2
          replace hN := Lib.hid hN
          replace hM := Lib.hid hM
          clear ho hr kp hvw fb hca
          go_wp2_with fail
          go_roundw
          case rel => exact ⟨m + 1, by omega, by go_num, ho2.out, hr2.out, kp2.out⟩
          case measure => simp [intOf]; omega
        · have hend := chunk_end hKi hm2 (by omega)
          rw [hend] at ho
          have hv2 : VB wr (.slice (some ⟨g, 0, none⟩) 64 64) (chunk b i) := by unfold VB; rw [hcl]; exact View.of_own ho
          have kW := hr_write hr hok (at' + i) hv2 (by omega) (by omega)
          rw [← hstep] at kW
          have q9 : IntKind.i64.wrap (at' + i) = at' + i := IntWalk.i64_in _ (by omega)
          have qd : (decide ((m : Int) < 64) && decide (((64 * i + m : Nat) : Int) < (b.length : Int))) = false := by
            rw [Bool.eq_false_iff]; intro hh; rw [Bool.and_eq_true, decide_eq_true_eq, decide_eq_true_eq] at hh; omega
          obtain ⟨N, hN⟩ : ∃ N, 64 * i + m = N := ⟨_, rfl⟩
          rw [hN] at qm qd
          obtain ⟨M, hM⟩ : ∃ M, 64 * i = M := ⟨_, rfl⟩
          rw [hM] at q64 qm
          have hnin : m = 64 ∨ (m < 64 ∧ ¬ (N : Int) < (b.length : Int)) := by omega
          replace kW := Lib.hid kW
          replace kp := Lib.hid kp
          replace hN := Lib.hid hN
          replace hM := Lib.hid hM
          clear ho hr hv2 hend
          cases hb2 : (rputN R at' b (i + 1)).2 with
          | false =>
            rw [hb2] at kW
            replace hb2 := Lib.hid hb2
            rcases hnin with rfl | ⟨hn1, hn2⟩
            all_goals
              go_wp2_with fail
              refine kW.out.mono ?_; rintro e w5 ⟨rfl, h5, k5⟩
              have e9 : rputN R at' b K = rputN R at' b (i + 1) := rputN_stay hb2.out K (by omega)
              replace h5 := Lib.hid h5
              replace k5 := Lib.hid k5
              replace e9 := Lib.hid e9
              go_wp2_with fail
              go_ret
              rw [e9.out, hb2.out]
              exact ⟨rfl, h5.out.mono (fun b e => .inl e), kp.out.trans (k5.out.mono (fun b e => .inl e))⟩
          | true =>
            rw [hb2] at kW
            replace hb2 := Lib.hid hb2
            rcases hnin with rfl | ⟨hn1, hn2⟩
            all_goals
              go_wp2_with fail
              refine kW.out.mono ?_; rintro e w5 ⟨rfl, h5, k5⟩
              replace h5 := Lib.hid (h5.mono (C' := C) (fun b e => .inl e))
              replace k5 := Lib.hid (kp.out.trans (k5.mono (fun b e => .inl e)))
              go_wp2_with fail
              go_roundw
              case rel => exact ⟨i + 1, by omega, by go_num, hb2.out, h5.out, k5.out⟩
              case measure => simp [intOf]; omega
    · have q1 : ¬ (i : Int) < (K : Int) := by omega
      obtain rfl : i = K := by omega
      replace hr := Lib.hid hr
      replace kp := Lib.hid kp
      replace hp := Lib.hid hp
      go_wp2_with fail
      go_ret
      rw [hp.out]
      exact ⟨rfl, hr.out, kp.out⟩
end Go.Proofs.Ytbfcaapompkjhaa
