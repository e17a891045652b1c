/-
  The reference's Get by its contract.
-/
import Derived.Test.YtbfcaapompkjhaaFh
set_option linter.unusedVariables false
set_option linter.unusedSimpArgs false
namespace Go.Proofs.Ytbfcaapompkjhaa
open Go.RowKit Go.Proofs.PosteMem
attribute [local go_sem ↓] Go.wp_at_zero Go.wp_at_succ

theorem cutI_cutN (n : Int) : cutI n 0 262144 = (cutN n : Int) := by
  unfold cutI cutN
  by_cases h : n < 0
  · rw [if_pos h, if_pos (by omega)]; rfl
  · rw [if_neg h]
    by_cases h2 : 262144 < n
    · rw [if_pos h2, if_neg (by omega), if_pos h2]; rfl
    · rw [if_neg h2]
      by_cases h3 : n ≤ 0
      · rw [if_pos h3]; omega
      · rw [if_neg h3, if_neg h2]; omega
theorem cutN_le (n : Int) : cutN n ≤ 262144 := by unfold cutN; split; omega; split; omega; omega
theorem lastOf_len {U : List (Nat × List Int)} (hU : ∀ x ∈ U, x.2.length = 64) {i : Nat} {b : List Int} (hb : b.length = 64) : ∀ k, k ≤ U.length → (lastOf U i b k).length = 64
  | 0, _ => hb
  | k + 1, hk => by
    rw [lastOf, List.getElem?_eq_getElem (by omega)]
    split
    · exact hU _ (List.getElem_mem _)
    · exact lastOf_len hU hb k (by omega)
theorem rread_len {D : Rk} (hk : D.ok) {i : Int} (h0 : 0 ≤ i) (h1 : i < D.sure.length) : (D.read i).length = 64 := by
  unfold Rk.read
  rw [dif_pos ⟨h0, by omega⟩]
  exact lastOf_len hk.ubytes (hk.sbytes _ (List.getElem_mem _)) _ (Nat.le_refl _)
theorem rgetN_len {D : Rk} (hk : D.ok) {at' : Int} : ∀ {k : Nat}, 0 ≤ at' → at' + k ≤ D.sure.length → (rgetN D at' k).length = 64 * k
  | 0, _, _ => rfl
  | k + 1, h0, h1 => by
    rw [rgetN, List.length_append, rgetN_len hk h0 (by omega), rread_len hk (by omega) (by omega)]
    omega
set_option maxRecDepth 100000 in
set_option maxHeartbeats 8000000 in
theorem hr_get {w W : World} {p : Nat} {D : Rk} {C : Nat → Prop} (h : Hr w W p D C) (hk : D.ok) (hu : D.uns.length ≤ 1000000) (at' n : Int) :
    Calls Try.prog 38 #[.pointer (some ⟨p, 0, none⟩), .int .i64 at', .int .i64 n] W fun e w' => ∃ v, e = .returned v ∧ VB w' v (D.get at' n) ∧ Below W.heap.size W w' := by
  obtain ⟨j0, hj0, hy0, hy1, hy2⟩ := info_parts infoByte
  have hm := hk.max
  have kC := Lib.hid (fun W => cut_any W n 0 262144)
  rw [cutI_cutN] at kC
  have hN2 := cutN_le n
  obtain ⟨N, hN⟩ : ∃ N, cutN n = N := ⟨_, rfl⟩
  unfold Rk.get
  rw [hN] at kC hN2 ⊢
  have kN := Lib.hid (fun W => rneed_any W (N : Int) (by omega))
  rw [needI_nat] at kN
  have hlo := need_lo N
  have hhi := need_hi N
  have hKle : need N ≤ 4096 := by unfold need; omega
  generalize hK : need N = K at *
  have kL := Lib.hid (hr_len h)
  have qw : IntKind.i64.wrap ((D.sure.length : Int) - K) = (D.sure.length : Int) - K := IntWalk.i64_in _ (by omega)
  replace hN := Lib.hid hN
  replace hK := Lib.hid hK
  by_cases h0 : K = 0
  · rw [if_pos (.inl h0)]
    rw [h0] at kN
    clear h
    go_enter Try.func38, Try.ntmps38
    go_wp2_with fail
    refine (kC.out _).mono ?_; rintro e w1 ⟨rfl, hw1⟩
    have hw2 := hw1.symm
    subst hw2
    clear hw1
    go_wp2_with fail
    refine (kN.out _).mono ?_; rintro e w1 ⟨rfl, hw1⟩
    have hw2 := hw1.symm
    subst hw2
    clear hw1
    go_wp2_with fail
    go_ret
    exact ⟨_, rfl, View.nil _ _, Below.refl _ _⟩
  have q0 : ((K : Int) == 0) = false := beq_eq_false_iff_ne.2 (by omega)
  by_cases h1 : at' < 0
  · rw [if_pos (.inr (.inl h1))]
    clear h
    go_enter Try.func38, Try.ntmps38
    go_wp2_with fail
    refine (kC.out _).mono ?_; rintro e w1 ⟨rfl, hw1⟩
    have hw2 := hw1.symm
    subst hw2
    clear hw1
    go_wp2_with fail
    refine (kN.out _).mono ?_; rintro e w1 ⟨rfl, hw1⟩
    have hw2 := hw1.symm
    subst hw2
    clear hw1
    go_wp2_with fail
    go_ret
    exact ⟨_, rfl, View.nil _ _, Below.refl _ _⟩
  by_cases h2 : (D.sure.length : Int) - K < at'
  · rw [if_pos (.inr (.inr h2))]
    clear h
    go_enter Try.func38, Try.ntmps38
    go_wp2_with fail
    refine (kC.out _).mono ?_; rintro e w1 ⟨rfl, hw1⟩
    have hw2 := hw1.symm
    subst hw2
    clear hw1
    go_wp2_with fail
    refine (kN.out _).mono ?_; rintro e w1 ⟨rfl, hw1⟩
    have hw2 := hw1.symm
    subst hw2
    clear hw1
    go_wp2_with fail
    refine kL.out.mono ?_; rintro e w1 ⟨rfl, hw1⟩
    have hw2 := hw1.symm
    subst hw2
    clear hw1
    go_wp2_with fail
    go_ret
    exact ⟨_, rfl, View.nil _ _, Below.refl _ _⟩
  rw [if_neg (by omega)]
  have hgl := Lib.hid (fun k (hk2 : k ≤ K) => rgetN_len hk (at' := at') (k := k) (by omega) (by omega))
  replace h := Lib.hid h
  go_enter Try.func38, Try.ntmps38
  go_wp2_with fail
  refine (kC.out _).mono ?_; rintro e w1 ⟨rfl, hw1⟩
  have hw2 := hw1.symm
  subst hw2
  clear hw1
  go_wp2_with fail
  refine (kN.out _).mono ?_; rintro e w1 ⟨rfl, hw1⟩
  have hw2 := hw1.symm
  subst hw2
  clear hw1
  go_wp2_with fail
  refine kL.out.mono ?_; rintro e w1 ⟨rfl, hw1⟩
  have hw2 := hw1.symm
  subst hw2
  clear hw1
  go_upto_region 7 with fail
  go_loopw [8, 9] (fun ov j wr => ∃ (k : Nat) (Av : Option Addr) (cv : Nat), k ≤ K ∧ j = .int .i64 k ∧ ov = .slice Av (64 * k) cv ∧ wr.ownsRow W.heap.size 5 1 (.slice Av (64 * k) cv) (64 * k) ((rgetN D at' k).map bv) ∧ Below W.heap.size W wr) (fun _ j _ => K - (intOf j).toNat)
  case atStart => exact ⟨0, none, 0, by omega, rfl, rfl, World.ownsRow_nil _ _ _ _, Below.refl _ _⟩
  case round =>
    obtain ⟨k, Av, cv, hkK, rfl, rfl, ho, hb⟩ := hrel
    by_cases hlt : k < K
    · have q1 : (k : Int) < (K : Int) := by omega
      have q2 : IntKind.i64.wrap (at' + k) = at' + k := IntWalk.i64_in _ (by omega)
      have hr := rread_len hk (i := at' + k) (by omega) (by omega)
      have kR := Lib.hid (hr_read (h.out.below hb) hk hu (at' + k))
      have eg : rgetN D at' (k + 1) = rgetN D at' k ++ D.read (at' + k) := rfl
      have hsz := hb.size
      generalize D.read (at' + k) = rb at *
      obtain ⟨M, hM⟩ : ∃ M, 64 * k = M := ⟨_, rfl⟩
      rw [hM] at ho ⊢
      replace ho := Lib.hid ho
      replace hb := Lib.hid hb
      replace hM := Lib.hid hM
      replace eg := Lib.hid eg
      go_wp2_with fail
      refine kR.out.mono ?_; rintro e w2 ⟨v2, rfl, ho2, hb2⟩
      unfold OB at ho2
      rw [hr] at ho2
      obtain ⟨g2, c2, rfl, _⟩ := own_some ho2 (by decide)
      have hv2 := View.of_own ho2
      have ho3 := own_below ho.out hb2
      have hMk := hM.out
      replace ho3 := Lib.hid ho3
      replace hv2 := Lib.hid hv2
      go_wp2_with (at_builtin; refine wpList_append_view _ rfl (.tmp 33) (.tmp 38) _ rfl W.heap.size 5 j0 (.int .u8 0) 1 1 Try.underlying27 hj0 hy0 hy1 hy2 rfl (by omega) (.slice Av M cv) M _ rfl ho3.out (.slice (some ⟨g2, 0, none⟩) 64 c2) 64 (rb.map bv) rfl hv2.out (bv_one rb) (by omega) (by simp only [maxLen]; omega) (by have := hb2.size; omega) ?_; intro v3 w3 hown3 hg3 hat3; obtain ⟨A3, c3, rfl, _, _, _⟩ := own_shape hown3)
      have hb3 : Below W.heap.size W w3 := (below_then hb.out hb2).grown hg3 (by have := hb2.size; omega) (fun x e => (own_lt ho3.out e).1)
      have hown4 : w3.ownsRow W.heap.size 5 1 (.slice A3 (M + 64) c3) (M + 64) ((rgetN D at' (k + 1)).map bv) := by rw [eg.out, List.map_append]; exact hown3
      replace hown4 := Lib.hid hown4
      replace hb3 := Lib.hid hb3
      clear hown3 hg3 hat3 ho3 hv2 hb2 ho2 ho hb kR eg
      go_wp2_with fail
      go_roundw
      case rel =>
        have e64 : M + 64 = 64 * (k + 1) := by omega
        rw [e64] at hown4 ⊢
        exact ⟨k + 1, A3, c3, by omega, by go_num, rfl, hown4.out, hb3.out⟩
      case measure => simp [intOf]; omega
    · have q1 : ¬ (k : Int) < (K : Int) := by omega
      obtain rfl : k = K := by omega
      obtain ⟨g, cv', e, hcv, hcm, _⟩ := own_some ho (by omega)
      injection e with e1 e2 e3
      subst e1 e3
      have q5 : (N : Int) ≤ (cv : Int) := by omega
      have hvv := View.take (View.of_own ho) (k := N) (by omega)
      rw [Nat.mul_one, ← List.map_take] at hvv
      have hl : ((rgetN D at' k).take N).length = N := by rw [List.length_take, hgl.out k (by omega)]; omega
      obtain ⟨M, hM⟩ : ∃ M, 64 * k = M := ⟨_, rfl⟩
      rw [hM] at ⊢ hcv
      replace hvv := Lib.hid hvv
      replace hb := Lib.hid hb
      replace hl := Lib.hid hl
      replace hM := Lib.hid hM
      clear ho
      go_wp2_with fail
      go_ret
      refine ⟨_, rfl, ?_, hb.out⟩
      unfold VB
      rw [hl.out]
      exact hvv.out
end Go.Proofs.Ytbfcaapompkjhaa
