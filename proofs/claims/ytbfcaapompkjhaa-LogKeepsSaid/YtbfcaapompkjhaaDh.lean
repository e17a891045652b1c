/-
  postelaw3.alive by its contract.
-/
import Derived.Test.YtbfcaapompkjhaaDg
set_option linter.unusedVariables false
set_option linter.unusedSimpArgs false
namespace Go.Proofs.Ytbfcaapompkjhaa
open Go.RowKit Go.Proofs.PosteMem
attribute [local go_sem ↓] Go.wp_at_zero Go.wp_at_succ

theorem write_yes {D : Dk} {i : Int} {bs : List Int} (h0 : 0 ≤ i) (h1 : i < D.now.length) (h2 : bs.length = 64) (h3 : D.broken = false) :
    D.write i bs = (⟨D.sure, D.now.set i.toNat bs, D.uns ++ [(i.toNat, bs)], if 0 < D.left then D.left - 1 else D.left, decide (D.left = 1), D.written + 1⟩, true) := by
  unfold Dk.write
  rw [if_neg]
  simp only [not_or]
  exact ⟨by omega, by omega, fun e => e h2, by simp [h3]⟩
theorem read_in {D : Dk} {i : Nat} (h : i < D.now.length) : D.read i = D.now[i] := by
  unfold Dk.read
  rw [dif_pos (by simp; omega)]
  simp
def dA : Dk := ⟨List.replicate 3 z64, (List.replicate 3 z64).set 1 z64, [(1, z64)], -1, false, 1⟩
theorem dA_eq : (Dk.new 3).write 1 z64 = (dA, true) := by
  rw [write_yes (by decide) (by simp [Dk.new]) z64_len rfl]
  rfl
theorem dA_len : dA.now.length = 3 := by simp [dA]
theorem dA_read : (dA.read 1).length = 64 := by
  have h := read_in (D := dA) (i := 1) (by rw [dA_len]; decide)
  rw [show ((1 : Nat) : Int) = 1 from rfl] at h
  rw [h]
  simp [dA, z64_len]
set_option maxRecDepth 100000 in
set_option maxHeartbeats 4000000 in
theorem alive_any (w : World) : Calls Try.prog 15 #[] w fun e w' => e = .returned (.bool true) ∧ Below w.heap.size w w' := by
  obtain ⟨j0, hj0, hy0, hy1, hy2⟩ := info_parts infoByte
  go_enter Try.func15, Try.ntmps15
  go_wp2_with fail
  refine (hd_new (Below.refl w.heap.size w) 3).mono ?_; rintro e w1 ⟨rfl, h1, hb1⟩
  rw [show many 3 = 3 from rfl] at h1
  replace h1 := Lib.hid h1
  go_wp2_with (at_make; refine wpList_make_full _ rfl _ _ 27 rfl 0 5 j0 (.int .u8 0) 1 Try.underlying27 hj0 hy0 hy1 .i64 .i64 _ _ 64 rfl rfl rfl rfl (by rw [hy2]; omega) (by unfold maxLen; omega) (Nat.zero_le _) ?_; intro w2 hown2 hg2; rw [made_bytes] at hown2)
  have h2 := h1.out.client ((Below.refl w1.heap.size w1).grown hg2 (Nat.le_refl _) (by intro k hk; cases hk))
  have hv : VB w2 (.slice (some ⟨w1.heap.size, 0, none⟩) 64 64) z64 := by
    unfold VB
    rw [z64_len, z64_bytes]
    exact View.of_own hown2
  have hlt := (own_lt hown2 rfl).2
  refine (hd_write h2 (new_ok 3 (by decide)) 1 hv (fun b e => by injection e with e; subst e; exact .inr ⟨Nat.le_refl _, hlt⟩) (by simp [Dk.new]) (by simp [Dk.new])).mono ?_
  rintro e w3 ⟨rfl, h3, _⟩
  rw [dA_eq] at h3 ⊢
  have hok : dA.ok := by have := write_ok (new_ok 3 (by decide)) 1 z64; rwa [dA_eq] at this
  simp only at h3 ⊢
  have k1 := Lib.hid (hd_len h3)
  have k2 := Lib.hid (hd_read h3 hok 1)
  rw [dA_len] at k1
  replace h3 := Lib.hid h3
  clear h2 hv hlt hown2 hg2 hok h1
  go_wp2_with fail
  refine k1.out.mono ?_; rintro e w4 ⟨rfl, rfl⟩
  go_wp2_with fail
  refine k2.out.mono ?_; rintro e w5 ⟨v5, rfl, ho5, hb5⟩
  have h5 := h3.out.below hb5
  unfold OB at ho5
  rw [dA_read] at ho5
  obtain ⟨A5, c5, rfl, _⟩ := own_shape ho5
  have k3 := Lib.hid (hd_writes h5)
  have hacc := Lib.hid h5.acc
  clear ho5 h5 hb5
  go_wp2_with fail
  refine k3.out.mono ?_; rintro e w6 ⟨rfl, rfl⟩
  go_wp2_with fail
  go_ret
  exact ⟨rfl, hacc.out⟩
end Go.Proofs.Ytbfcaapompkjhaa
