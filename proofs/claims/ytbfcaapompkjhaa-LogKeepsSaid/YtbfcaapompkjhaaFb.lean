/-
  span: Put by its contract.
-/
import Derived.Test.YtbfcaapompkjhaaFa
set_option linter.unusedVariables false
set_option linter.unusedSimpArgs false
namespace Go.Proofs.Ytbfcaapompkjhaa
open Go.RowKit Go.Proofs.PosteMem
attribute [local go_sem ↓] Go.wp_at_zero Go.wp_at_succ

def chunk (b : List Int) (k : Nat) : List Int := ((fillB b).drop (64 * k)).take 64
theorem chunk_len {b : List Int} {k : Nat} (h : k < need b.length) : (chunk b k).length = 64 := by
  unfold chunk
  rw [List.length_take, List.length_drop, fillB_len]
  omega
/-- A disk when k of the sectors are put. -/
def putN (D : Dk) (at' : Int) (b : List Int) : Nat → Dk × Bool
  | 0 => (D, true)
  | k + 1 => if (putN D at' b k).2 = true then (putN D at' b k).1.write (at' + k) (chunk b k) else putN D at' b k
def Dk.put (D : Dk) (at' : Int) (b : List Int) : Dk × Bool := if b.length = 0 then (D, true) else if isB D.now.length at' (need b.length : Nat) = true then putN D at' b (need b.length) else (D, false)
theorem putN_stay {D : Dk} {at' : Int} {b : List Int} {k : Nat} (h : (putN D at' b k).2 = false) : ∀ m, k ≤ m → putN D at' b m = putN D at' b k
  | m, hm => by
    induction m with
    | zero => have : k = 0 := by omega
              subst this; rfl
    | succ m ih =>
      rcases Nat.lt_or_ge k (m + 1) with h1 | h1
      · have e := ih (by omega)
        rw [putN, e, if_neg (by rw [h]; decide)]
      · have : k = m + 1 := by omega
        subst this; rfl
theorem write_len (D : Dk) (i : Int) (bs : List Int) : (D.write i bs).1.now.length = D.now.length := by
  unfold Dk.write; split <;> simp
theorem write_few (D : Dk) (i : Int) (bs : List Int) : (D.write i bs).1.written ≤ D.written + 1 ∧ (D.write i bs).1.uns.length ≤ D.uns.length + 1 := by
  unfold Dk.write; split <;> simp
theorem putN_ok {D : Dk} (h : D.ok) (at' : Int) (b : List Int) : ∀ k, (putN D at' b k).1.ok ∧ (putN D at' b k).1.now.length = D.now.length ∧ (putN D at' b k).1.written ≤ D.written + k ∧ (putN D at' b k).1.uns.length ≤ D.uns.length + k
  | 0 => ⟨h, rfl, Nat.le_refl _, Nat.le_refl _⟩
  | k + 1 => by
    obtain ⟨h1, h2, h3, h4⟩ := putN_ok h at' b k
    unfold putN
    split
    · have h5 := write_few (putN D at' b k).1 (at' + k) (chunk b k)
      exact ⟨write_ok h1 _ _, by rw [write_len]; exact h2, by omega, by omega⟩
    · exact ⟨h1, h2, by omega, by omega⟩
theorem Keeps.mono {C C' : Nat → Prop} {W W' : World} (k : Keeps C W W') (h : ∀ b, C' b → C b) : Keeps C' W W' := let ⟨S, h1, h2⟩ := k; ⟨S, h1, fun b c => h2 b (h b c)⟩
theorem Keeps.trans {C : Nat → Prop} {W W1 W2 : World} (k : Keeps C W W1) (k' : Keeps C W1 W2) : Keeps C W W2 := by
  obtain ⟨S, h1, h2⟩ := k
  obtain ⟨S', h1', h2'⟩ := k'
  exact ⟨fun b => S b ∨ S' b, (h1.mono fun b _ s => .inl s).trans h1' (fun b _ s => .inr s), fun b c s => by rcases s with s | s; exact h2 b c s; exact h2' b c s⟩
theorem hd_drew {w W : World} {p : Nat} {D : Dk} {C : Nat → Prop} (h : Hd w W p D C) : Hd w W.drew p D C := h.drew

set_option maxRecDepth 100000 in
set_option maxHeartbeats 8000000 in
theorem hd_put {w W : World} {p : Nat} {D : Dk} {C : Nat → Prop} (h : Hd w W p D C) (hk : D.ok) (at' : Int) {v : Value} {b : List Int} (hv : VB W v b) (hbl : b.length ≤ 1000000) (hw : D.written ≤ 100000000) (hu : D.uns.length ≤ 100000) :
    Calls Try.prog 34 #[.pointer (some ⟨p, 0, none⟩), .int .i64 at', v] W fun e w' => e = .returned (.bool (D.put at' b).2) ∧ Hd w w' p (D.put at' b).1 C ∧ Keeps C W w' := by
  obtain ⟨A, cap, rfl, _, _⟩ := hv.cells
  have hm := hk.max
  by_cases h0 : b.length = 0
  · have e : D.put at' b = (D, true) := by unfold Dk.put; rw [if_pos h0]
    rw [e, h0]
    replace h := Lib.hid h
    clear hv
    go_enter Try.func34, Try.ntmps34
    go_wp2_with fail
    go_ret
    exact ⟨rfl, h.out, Keeps.refl _ _⟩
  have q0 : ((b.length : Int) == 0) = false := beq_eq_false_iff_ne.2 (by omega)
  have kN := Lib.hid (need_any W b.length (by omega))
  rw [needI_nat] at kN
  have kI := Lib.hid (is_any h hk at' (need b.length : Nat))
  cases hI : isB D.now.length at' (need b.length : Nat) with
  | false =>
    have e : D.put at' b = (D, false) := by unfold Dk.put; rw [if_neg h0, if_neg (by rw [hI]; decide)]
    rw [e]
    rw [hI] at kI
    replace h := Lib.hid h
    clear hv
    go_enter Try.func34, Try.ntmps34
    go_wp2_with fail
    refine kN.out.mono ?_; rintro e w1 ⟨rfl, hw1⟩
    have hw2 := hw1.symm
    subst hw2
    clear hw1
    go_wp2_with fail
    refine kI.out.mono ?_; rintro e w1 ⟨rfl, hw1⟩
    have hw2 := hw1.symm
    subst hw2
    clear hw1
    go_wp2_with fail
    go_ret
    exact ⟨rfl, h.out, Keeps.refl _ _⟩
  | true =>
    have e : D.put at' b = putN D at' b (need b.length) := by unfold Dk.put; rw [if_neg h0, if_pos hI]
    rw [e]
    rw [hI] at kI
    unfold isB at hI
    rw [decide_eq_true_eq] at hI
    have kF := Lib.hid (fillS W _ b hv hbl)
    have hpos : 0 < need b.length := by unfold need; omega
    have hfl := fillB_len b
    obtain ⟨K, hK⟩ : ∃ K, need b.length = K := ⟨_, rfl⟩
    rw [hK] at hI kI kN hpos hfl ⊢
    have hch := fun k (hk : k < K) => chunk_len (b := b) (k := k) (by rw [hK]; exact hk)
    have hpk := putN_ok hk at' b
    replace h := Lib.hid h
    replace hK := Lib.hid hK
    replace hfl := Lib.hid hfl
    replace hch := Lib.hid hch
    replace hpk := Lib.hid hpk
    clear hv
    go_enter Try.func34, Try.ntmps34
    go_wp2_with fail
    refine kN.out.mono ?_; rintro e w1 ⟨rfl, hw1⟩
    have hw2 := hw1.symm
    subst hw2
    clear hw1
    go_wp2_with fail
    refine kI.out.mono ?_; rintro e w1 ⟨rfl, hw1⟩
    have hw2 := hw1.symm
    subst hw2
    clear hw1
    go_wp2_with fail
    refine kF.out.mono ?_; rintro e w1 ⟨v1, rfl, ho1, hb1⟩
    have h1 := h.out.client hb1
    have ho1' := ho1
    unfold OB at ho1
    rw [hfl.out] at ho1
    obtain ⟨g, c1, rfl, _⟩ := own_some ho1 (by omega)
    have hgl := own_lt ho1 rfl
    have hv1 : View w1 1 (.slice (some ⟨g, 0, none⟩) (64 * K) c1) (64 * K) ((fillB b).map bv) := View.of_own ho1
    have kp1 : Keeps C W w1 := Keeps.of_below hb1
    replace h1 := Lib.hid h1
    replace hv1 := Lib.hid hv1
    replace kp1 := Lib.hid kp1
    clear kN kI kF ho1 ho1' h
    go_upto_region 6 with fail
    go_loopw [1, 7] (fun ia al wr => ∃ (k : Nat) (A' : Option Addr) (cap' : Nat), k ≤ K ∧ ia = .int .i64 (at' + k) ∧ al = .slice A' (64 * (K - k)) cap' ∧ (∀ a, A' = some a → a.block = g) ∧ View wr 1 (.slice A' (64 * (K - k)) cap') (64 * (K - k)) (((fillB b).drop (64 * k)).map bv) ∧ (putN D at' b k).2 = true ∧ Hd w wr p (putN D at' b k).1 (fun b => C b ∨ (W.heap.size ≤ b ∧ b < w1.heap.size)) ∧ Keeps C W wr) (fun ia _ _ => (at' + K).toNat - (intOf ia).toNat)
    case atStart => exact ⟨0, _, _, by omega, by simp, by rw [Nat.sub_zero], fun a e => by injection e with e; rw [← e], by rw [Nat.sub_zero, Nat.mul_zero, List.drop_zero]; exact hv1.out, rfl, h1.out, kp1.out⟩
    clear h1 hv1 kp1
    case round =>
      obtain ⟨k, A', cap', hkK, rfl, rfl, hA, hva, hp, hd, kp⟩ := hrel
      by_cases hlt : k < K
      · have q1 : (0 : Int) < ((64 * (K - k) : Nat) : Int) := by omega
        obtain ⟨g', off, cap'', e, hcap, hcapm, hgw, fc⟩ := hva.at_ (by omega)
        injection e with e1 e2 e3
        subst e1 e3
        obtain rfl : g' = g := hA _ rfl
        obtain ⟨M, hM⟩ : ∃ M, 64 * (K - k) = M := ⟨_, rfl⟩
        rw [hM] at q1 hva hcap ⊢
        have q2 : (64 : Int) ≤ (M : Int) := by omega
        have q3 : (64 : Int) ≤ (cap' : Int) := by omega
        obtain ⟨hok, hnl, hwr, hun⟩ := hpk.out k
        have hVB : VB wr (.slice (some ⟨g', off, none⟩) 64 cap') (chunk b k) := by
          unfold VB
          rw [hch.out k hlt]
          have := View.take hva (k := 64) (by omega)
          unfold chunk
          rw [← List.map_take, Nat.mul_one] at this
          exact this
        have kW := hd_write hd hok (at' + k) hVB (fun x e => by injection e with e; subst e; exact .inr hgl) (by omega) (by omega)
        have hstep : putN D at' b (k + 1) = (putN D at' b k).1.write (at' + k) (chunk b k) := by rw [putN, if_pos hp]
        rw [← hstep] at kW
        replace kW := Lib.hid kW
        replace hva := Lib.hid hva
        replace kp := Lib.hid kp
        replace hM := Lib.hid hM
        clear hVB hd hok hnl hwr hun fc
        cases hb2 : (putN D at' b (k + 1)).2 with
        | false =>
          rw [hb2] at kW
          go_wp2_with fail
          refine kW.out.mono ?_; rintro e w5 ⟨rfl, h5, k5⟩
          have e9 : putN D at' b K = putN D at' b (k + 1) := putN_stay hb2 K (by omega)
          replace h5 := Lib.hid h5
          replace k5 := Lib.hid k5
          replace e9 := Lib.hid e9
          replace hb2 := Lib.hid hb2
          go_wp2_with fail
          go_ret
          rw [e9.out, hb2.out]
          exact ⟨rfl, h5.out.mono (fun b e => .inl e), kp.out.trans (k5.out.mono (fun b e => .inl e))⟩
        | true =>
          rw [hb2] at kW
          go_wp2_with fail
          refine kW.out.mono ?_; rintro e w5 ⟨rfl, h5, k5⟩
          have hv5 := k5.view hva.out (fun x e => by injection e with e; subst e; exact .inr hgl)
          replace h5 := Lib.hid h5
          replace k5 := Lib.hid k5
          replace hb2 := Lib.hid hb2
          replace hv5 := Lib.hid hv5
          have q4 : IntKind.i64.wrap (at' + k + 1) = at' + k + 1 := IntWalk.i64_in _ (by omega)
          go_wp2_with fail
          go_roundw
          case rel =>
            have hMk := hM.out
            have hd := View.drop hv5.out (k := 64) (by omega)
            have ev : (Option.map (fun x : Addr => x.add (64 * 1)) (some ⟨g', off, none⟩)) = some ⟨g', off + 64, none⟩ := by simp [Addr.add]
            rw [ev, ← List.map_drop, List.drop_drop, show 64 * k + 64 * 1 = 64 * (k + 1) by omega] at hd
            have eM : M - 64 = 64 * (K - (k + 1)) := by omega
            rw [eM] at hd ⊢
            refine ⟨k + 1, _, _, by omega, by congr 1; omega, rfl, fun a e => ?_, hd, hb2.out, h5.out, kp.out.trans (k5.out.mono (fun b e => .inl e))⟩
            split at e
            · injection e with e; rw [← e]
            · injection e with e; rw [← e]
          case measure => simp [intOf]; omega
      · have q1 : ¬ (0 : Int) < ((64 * (K - k) : Nat) : Int) := by omega
        obtain rfl : k = K := by omega
        replace hd := Lib.hid hd
        replace kp := Lib.hid kp
        replace hp := Lib.hid hp
        clear hva
        obtain ⟨M, hM⟩ : ∃ M, 64 * (k - k) = M := ⟨_, rfl⟩
        rw [hM] at q1 ⊢
        go_wp2_with fail
        go_ret
        rw [hp.out]
        exact ⟨rfl, hd.out.mono (fun b e => .inl e), kp.out⟩
end Go.Proofs.Ytbfcaapompkjhaa
