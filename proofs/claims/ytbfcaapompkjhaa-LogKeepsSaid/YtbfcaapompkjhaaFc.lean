/-
  span: Get by its contract.
-/
import Derived.Test.YtbfcaapompkjhaaFb
set_option linter.unusedVariables false
set_option linter.unusedSimpArgs false
namespace Go.Proofs.Ytbfcaapompkjhaa
open Go.RowKit Go.Proofs.PosteMem
attribute [local go_sem ↓] Go.wp_at_zero Go.wp_at_succ

def getN (D : Dk) (at' : Int) : Nat → List Int
  | 0 => []
  | k + 1 => getN D at' k ++ D.read (at' + k)
def cutN (n : Int) : Nat := if n ≤ 0 then 0 else if 262144 < n then 262144 else n.toNat
def Dk.get (D : Dk) (at' n : Int) : List Int := if isB D.now.length at' (need (cutN n) : Nat) = true then (getN D at' (need (cutN n))).take (cutN n) else []
theorem read_len {D : Dk} (hk : D.ok) {i : Int} (h0 : 0 ≤ i) (h1 : i < D.now.length) : (D.read i).length = 64 := by
  unfold Dk.read
  rw [dif_pos ⟨h0, by omega⟩]
  exact hk.bytes _ (List.getElem_mem _)
theorem getN_len {D : Dk} (hk : D.ok) {at' : Int} : ∀ {k : Nat}, 0 ≤ at' → at' + k ≤ D.now.length → (getN D at' k).length = 64 * k
  | 0, _, _ => rfl
  | k + 1, h0, h1 => by
    rw [getN, List.length_append, getN_len hk h0 (by omega), read_len hk (by omega) (by omega)]
    omega
set_option maxRecDepth 100000 in
set_option maxHeartbeats 8000000 in
theorem hd_get {w W : World} {p : Nat} {D : Dk} {C : Nat → Prop} (h : Hd w W p D C) (hk : D.ok) (at' n : Int) :
    Calls Try.prog 35 #[.pointer (some ⟨p, 0, none⟩), .int .i64 at', .int .i64 n] W fun e w' => ∃ v, e = .returned v ∧ VB w' v (D.get at' n) ∧ Below W.heap.size W w' ∧ ∀ x, blockOf v = some x → W.heap.size ≤ x ∧ x < w'.heap.size := by
  obtain ⟨j0, hj0, hy0, hy1, hy2⟩ := info_parts infoByte
  have hm := hk.max
  have hn : n ≤ 0 ∨ (∃ k : Nat, n = k ∧ 0 < k ∧ k ≤ 262144) ∨ 262144 < n := by
    rcases Int.lt_trichotomy 0 n with h | h | h
    · by_cases h2 : 262144 < n
      · exact .inr (.inr h2)
      · exact .inr (.inl ⟨n.toNat, by omega, by omega, by omega⟩)
    · exact .inl (by omega)
    · exact .inl (by omega)
  rcases hn with hn | ⟨N, rfl, hn1, hn2⟩ | hn
  · have hN : cutN n = 0 := by unfold cutN; rw [if_pos hn]
    have kN := Lib.hid (fun W => need_any W 0 (by decide))
    rw [show needI 0 = 0 from rfl] at kN
    have kI := Lib.hid (is_any h hk at' 0)
    unfold Dk.get
    rw [hN, show need 0 = 0 from rfl, show ((0 : Nat) : Int) = 0 from rfl]
    have e0 : (if isB D.now.length at' 0 = true then List.take 0 (getN D at' 0) else []) = [] := by split <;> rfl
    rw [e0]
    have q1 : n ≤ 262144 := by omega
    cases hI : isB D.now.length at' 0 with
    | false =>
      rw [hI] at kI
      clear h
      go_enter Try.func35, Try.ntmps35
      go_upto_region 2 with fail
      all_goals
        go_wp2_with fail
        refine (kN.out _).mono ?_; rintro e w1 ⟨rfl, hw1⟩
        have hw2 := hw1.symm
        subst hw2
        clear hw1
        go_wp2_with fail
        refine kI.out.mono ?_; rintro e w1 ⟨rfl, hw1⟩
        have hw2 := hw1.symm
        subst hw2
        clear hw1
        go_wp2_with fail
        go_ret
        exact ⟨_, rfl, View.nil _ _, Below.refl _ _, fun x e => by cases e⟩
    | true =>
      rw [hI] at kI
      clear h
      go_enter Try.func35, Try.ntmps35
      go_upto_region 2 with fail
      all_goals
        go_wp2_with fail
        refine (kN.out _).mono ?_; rintro e w1 ⟨rfl, hw1⟩
        have hw2 := hw1.symm
        subst hw2
        clear hw1
        go_wp2_with fail
        refine kI.out.mono ?_; rintro e w1 ⟨rfl, hw1⟩
        have hw2 := hw1.symm
        subst hw2
        clear hw1
        go_wp2_with fail
        refine (kN.out _).mono ?_; rintro e w1 ⟨rfl, hw1⟩
        have hw2 := hw1.symm
        subst hw2
        clear hw1
        go_upto_region 6 with fail
        go_loopw [7, 20] (fun ov j wr => ov = .slice none 0 0 ∧ j = .int .i64 0 ∧ wr = W) (fun _ _ _ => 0)
        case atStart => exact ⟨rfl, rfl, rfl⟩
        case round =>
          obtain ⟨rfl, rfl, hwr⟩ := hrel
          obtain rfl : W = wr := hwr.symm
          go_wp2_with fail
          go_ret
          exact ⟨_, rfl, View.nil _ _, Below.refl _ _, fun x e => by cases e⟩
  · have hN : cutN (N : Int) = N := by unfold cutN; rw [if_neg (by omega), if_neg (by omega)]; rfl
    have q1 : (N : Int) ≤ 262144 := by omega
    have q2 : (0 : Int) ≤ N := by omega
    have kN := Lib.hid (fun W => need_any W (N : Int) (by omega))
    rw [needI_nat] at kN
    have kI := Lib.hid (is_any h hk at' (need N : Nat))
    have hlo := need_lo N
    have hhi := need_hi N
    have hpos : 0 < need N := by unfold need; omega
    unfold Dk.get
    rw [hN]
    cases hI : isB D.now.length at' (need N : Nat) with
    | false =>
      rw [if_neg (by decide)]
      rw [hI] at kI
      clear h
      go_enter Try.func35, Try.ntmps35
      go_upto_region 2 with fail
      go_wp2_with fail
      refine (kN.out _).mono ?_; rintro e w1 ⟨rfl, hw1⟩
      have hw2 := hw1.symm
      subst hw2
      clear hw1
      go_wp2_with fail
      refine kI.out.mono ?_; rintro e w1 ⟨rfl, hw1⟩
      have hw2 := hw1.symm
      subst hw2
      clear hw1
      go_wp2_with fail
      go_ret
      exact ⟨_, rfl, View.nil _ _, Below.refl _ _, fun x e => by cases e⟩
    | true =>
      rw [if_pos rfl]
      rw [hI] at kI
      unfold isB at hI
      rw [decide_eq_true_eq] at hI
      generalize need N = K at *
      have hgl := fun k (hk2 : k ≤ K) => getN_len hk (at' := at') (k := k) hI.1 (by omega)
      have h0 := h
      replace h := Lib.hid h
      replace hgl := Lib.hid hgl
      replace hN := Lib.hid hN
      go_enter Try.func35, Try.ntmps35
      go_upto_region 2 with fail
      go_wp2_with fail
      refine (kN.out _).mono ?_; rintro e w1 ⟨rfl, hw1⟩
      have hw2 := hw1.symm
      subst hw2
      clear hw1
      go_wp2_with fail
      refine kI.out.mono ?_; rintro e w1 ⟨rfl, hw1⟩
      have hw2 := hw1.symm
      subst hw2
      clear hw1
      go_wp2_with fail
      refine (kN.out _).mono ?_; rintro e w1 ⟨rfl, hw1⟩
      have hw2 := hw1.symm
      subst hw2
      clear hw1
      go_upto_region 6 with fail
      go_loopw [7, 8, 20] (fun ov _ j wr => ∃ (k : Nat) (Av : Option Addr) (cv : Nat), k ≤ K ∧ j = .int .i64 k ∧ ov = .slice Av (64 * k) cv ∧ wr.ownsRow W.heap.size 5 1 (.slice Av (64 * k) cv) (64 * k) ((getN D at' k).map bv) ∧ Below W.heap.size W wr) (fun _ _ j _ => K - (intOf j).toNat)
      case atStart => exact ⟨0, none, 0, by omega, rfl, rfl, World.ownsRow_nil _ _ _ _, Below.refl _ _⟩
      case round =>
        obtain ⟨k, Av, cv, hkK, rfl, rfl, ho, hb⟩ := hrel
        by_cases hlt : k < K
        · have q1 : (k : Int) < (K : Int) := by omega
          have q2 : IntKind.i64.wrap (at' + k) = at' + k := IntWalk.i64_in _ (by omega)
          have hr := read_len hk (i := at' + k) (by omega) (by omega)
          have kR := Lib.hid (hd_read (h.out.below hb) hk (at' + k))
          have eg : getN D at' (k + 1) = getN D at' k ++ D.read (at' + k) := rfl
          have hsz := hb.size
          generalize D.read (at' + k) = rb at *
          obtain ⟨M, hM⟩ : ∃ M, 64 * k = M := ⟨_, rfl⟩
          rw [hM] at ho ⊢
          replace ho := Lib.hid ho
          replace hb := Lib.hid hb
          replace hM := Lib.hid hM
          replace eg := Lib.hid eg
          go_wp2_with fail
          refine kR.out.mono ?_; rintro e w2 ⟨v2, rfl, ho2, hb2⟩
          unfold OB at ho2
          rw [hr] at ho2
          obtain ⟨g2, c2, rfl, _⟩ := own_some ho2 (by decide)
          have hv2 := View.of_own ho2
          have ho3 := own_below ho.out hb2
          have hMk := hM.out
          replace ho3 := Lib.hid ho3
          replace hv2 := Lib.hid hv2
          go_wp2_with (at_builtin; refine wpList_append_view _ rfl (.tmp 23) (.tmp 28) _ rfl W.heap.size 5 j0 (.int .u8 0) 1 1 Try.underlying27 hj0 hy0 hy1 hy2 rfl (by omega) (.slice Av M cv) M _ rfl ho3.out (.slice (some ⟨g2, 0, none⟩) 64 c2) 64 (rb.map bv) rfl hv2.out (bv_one rb) (by omega) (by simp only [maxLen]; omega) (by have := hb2.size; omega) ?_; intro v3 w3 hown3 hg3 hat3; obtain ⟨A3, c3, rfl, _, _, _⟩ := own_shape hown3)
          have hb3 : Below W.heap.size W w3 := (below_then hb.out hb2).grown hg3 (by have := hb2.size; omega) (fun x e => (own_lt ho3.out e).1)
          have hown4 : w3.ownsRow W.heap.size 5 1 (.slice A3 (M + 64) c3) (M + 64) ((getN D at' (k + 1)).map bv) := by rw [eg.out, List.map_append]; exact hown3
          replace hown4 := Lib.hid hown4
          replace hb3 := Lib.hid hb3
          clear hown3 hg3 hat3 ho3 hv2 hb2 ho2 ho hb kR eg
          go_wp2_with fail
          go_roundw
          case rel =>
            have e64 : M + 64 = 64 * (k + 1) := by omega
            rw [e64] at hown4 ⊢
            exact ⟨k + 1, A3, c3, by omega, by go_num, rfl, hown4.out, hb3.out⟩
          case measure => simp [intOf]; omega
        · have q1 : ¬ (k : Int) < (K : Int) := by omega
          obtain rfl : k = K := by omega
          obtain ⟨g, cv', e, hcv, hcm, _⟩ := own_some ho (by omega)
          injection e with e1 e2 e3
          subst e1 e3
          have q5 : (N : Int) ≤ (cv : Int) := by omega
          have hgb := own_lt ho rfl
          have hvv := View.take (View.of_own ho) (k := N) (by omega)
          rw [Nat.mul_one, ← List.map_take] at hvv
          have hl : ((getN D at' k).take N).length = N := by rw [List.length_take, hgl.out k (by omega)]; omega
          obtain ⟨M, hM⟩ : ∃ M, 64 * k = M := ⟨_, rfl⟩
          rw [hM] at ⊢ hcv
          replace hvv := Lib.hid hvv
          replace hb := Lib.hid hb
          replace hl := Lib.hid hl
          replace hM := Lib.hid hM
          clear ho
          go_wp2_with fail
          go_ret
          refine ⟨_, rfl, ?_, hb.out, fun x e => by injection e with e; subst e; exact hgb⟩
          unfold VB
          rw [hl.out]
          exact hvv.out
  · obtain ⟨N, hNN⟩ : ∃ N : Nat, N = 262144 := ⟨_, rfl⟩
    have hN : cutN n = N := by unfold cutN; rw [if_neg (by omega), if_pos hn, hNN]
    have hNl : N ≤ 262144 ∧ 0 < N := by omega
    obtain ⟨hn2, hn1⟩ := hNl
    have hNi : (262144 : Int) = (N : Int) := by omega
    replace hNN := Lib.hid hNN
    replace hNi := Lib.hid hNi
    have q1 : ¬ n ≤ 262144 := by omega
    have kN := Lib.hid (fun W => need_any W (N : Int) (by omega))
    rw [needI_nat] at kN
    have kI := Lib.hid (is_any h hk at' (need N : Nat))
    have hlo := need_lo N
    have hhi := need_hi N
    have hpos : 0 < need N := by unfold need; omega
    unfold Dk.get
    rw [hN]
    cases hI : isB D.now.length at' (need N : Nat) with
    | false =>
      rw [if_neg (by decide)]
      rw [hI] at kI
      clear h
      go_enter Try.func35, Try.ntmps35
      go_upto_region 2 with fail
      rw [hNi.out]
      go_wp2_with fail
      refine (kN.out _).mono ?_; rintro e w1 ⟨rfl, hw1⟩
      have hw2 := hw1.symm
      subst hw2
      clear hw1
      go_wp2_with fail
      refine kI.out.mono ?_; rintro e w1 ⟨rfl, hw1⟩
      have hw2 := hw1.symm
      subst hw2
      clear hw1
      go_wp2_with fail
      go_ret
      exact ⟨_, rfl, View.nil _ _, Below.refl _ _, fun x e => by cases e⟩
    | true =>
      rw [if_pos rfl]
      rw [hI] at kI
      unfold isB at hI
      rw [decide_eq_true_eq] at hI
      generalize need N = K at *
      have hgl := fun k (hk2 : k ≤ K) => getN_len hk (at' := at') (k := k) hI.1 (by omega)
      have h0 := h
      replace h := Lib.hid h
      replace hgl := Lib.hid hgl
      replace hN := Lib.hid hN
      go_enter Try.func35, Try.ntmps35
      go_upto_region 2 with fail
      rw [hNi.out]
      go_wp2_with fail
      refine (kN.out _).mono ?_; rintro e w1 ⟨rfl, hw1⟩
      have hw2 := hw1.symm
      subst hw2
      clear hw1
      go_wp2_with fail
      refine kI.out.mono ?_; rintro e w1 ⟨rfl, hw1⟩
      have hw2 := hw1.symm
      subst hw2
      clear hw1
      go_wp2_with fail
      refine (kN.out _).mono ?_; rintro e w1 ⟨rfl, hw1⟩
      have hw2 := hw1.symm
      subst hw2
      clear hw1
      go_upto_region 6 with fail
      go_loopw [7, 8, 20] (fun ov _ j wr => ∃ (k : Nat) (Av : Option Addr) (cv : Nat), k ≤ K ∧ j = .int .i64 k ∧ ov = .slice Av (64 * k) cv ∧ wr.ownsRow W.heap.size 5 1 (.slice Av (64 * k) cv) (64 * k) ((getN D at' k).map bv) ∧ Below W.heap.size W wr) (fun _ _ j _ => K - (intOf j).toNat)
      case atStart => exact ⟨0, none, 0, by omega, rfl, rfl, World.ownsRow_nil _ _ _ _, Below.refl _ _⟩
      case round =>
        obtain ⟨k, Av, cv, hkK, rfl, rfl, ho, hb⟩ := hrel
        by_cases hlt : k < K
        · have q1 : (k : Int) < (K : Int) := by omega
          have q2 : IntKind.i64.wrap (at' + k) = at' + k := IntWalk.i64_in _ (by omega)
          have hr := read_len hk (i := at' + k) (by omega) (by omega)
          have kR := Lib.hid (hd_read (h.out.below hb) hk (at' + k))
          have eg : getN D at' (k + 1) = getN D at' k ++ D.read (at' + k) := rfl
          have hsz := hb.size
          generalize D.read (at' + k) = rb at *
          obtain ⟨M, hM⟩ : ∃ M, 64 * k = M := ⟨_, rfl⟩
          rw [hM] at ho ⊢
          replace ho := Lib.hid ho
          replace hb := Lib.hid hb
          replace hM := Lib.hid hM
          replace eg := Lib.hid eg
          go_wp2_with fail
          refine kR.out.mono ?_; rintro e w2 ⟨v2, rfl, ho2, hb2⟩
          unfold OB at ho2
          rw [hr] at ho2
          obtain ⟨g2, c2, rfl, _⟩ := own_some ho2 (by decide)
          have hv2 := View.of_own ho2
          have ho3 := own_below ho.out hb2
          have hMk := hM.out
          replace ho3 := Lib.hid ho3
          replace hv2 := Lib.hid hv2
          go_wp2_with (at_builtin; refine wpList_append_view _ rfl (.tmp 23) (.tmp 28) _ rfl W.heap.size 5 j0 (.int .u8 0) 1 1 Try.underlying27 hj0 hy0 hy1 hy2 rfl (by omega) (.slice Av M cv) M _ rfl ho3.out (.slice (some ⟨g2, 0, none⟩) 64 c2) 64 (rb.map bv) rfl hv2.out (bv_one rb) (by omega) (by simp only [maxLen]; omega) (by have := hb2.size; omega) ?_; intro v3 w3 hown3 hg3 hat3; obtain ⟨A3, c3, rfl, _, _, _⟩ := own_shape hown3)
          have hb3 : Below W.heap.size W w3 := (below_then hb.out hb2).grown hg3 (by have := hb2.size; omega) (fun x e => (own_lt ho3.out e).1)
          have hown4 : w3.ownsRow W.heap.size 5 1 (.slice A3 (M + 64) c3) (M + 64) ((getN D at' (k + 1)).map bv) := by rw [eg.out, List.map_append]; exact hown3
          replace hown4 := Lib.hid hown4
          replace hb3 := Lib.hid hb3
          clear hown3 hg3 hat3 ho3 hv2 hb2 ho2 ho hb kR eg
          go_wp2_with fail
          go_roundw
          case rel =>
            have e64 : M + 64 = 64 * (k + 1) := by omega
            rw [e64] at hown4 ⊢
            exact ⟨k + 1, A3, c3, by omega, by go_num, rfl, hown4.out, hb3.out⟩
          case measure => simp [intOf]; omega
        · have q1 : ¬ (k : Int) < (K : Int) := by omega
          obtain rfl : k = K := by omega
          obtain ⟨g, cv', e, hcv, hcm, _⟩ := own_some ho (by omega)
          injection e with e1 e2 e3
          subst e1 e3
          have q5 : (N : Int) ≤ (cv : Int) := by omega
          have hgb := own_lt ho rfl
          have hvv := View.take (View.of_own ho) (k := N) (by omega)
          rw [Nat.mul_one, ← List.map_take] at hvv
          have hl : ((getN D at' k).take N).length = N := by rw [List.length_take, hgl.out k (by omega)]; omega
          obtain ⟨M, hM⟩ : ∃ M, 64 * k = M := ⟨_, rfl⟩
          rw [hM] at ⊢ hcv
          replace hvv := Lib.hid hvv
          replace hb := Lib.hid hb
          replace hl := Lib.hid hl
          replace hM := Lib.hid hM
          clear ho
          go_wp2_with fail
          go_ret
          refine ⟨_, rfl, ?_, hb.out, fun x e => by injection e with e; subst e; exact hgb⟩
          unfold VB
          rw [hl.out]
          exact hvv.out
end Go.Proofs.Ytbfcaapompkjhaa
