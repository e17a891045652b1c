/-
  span: what was put is got; postelaw4.alive by its contract.
-/
import Derived.Test.YtbfcaapompkjhaaFc
import Derived.Lib.SlBytesConst
set_option linter.unusedVariables false
set_option linter.unusedSimpArgs false
namespace Go.Proofs.Ytbfcaapompkjhaa
open Go.RowKit Go.Proofs.PosteMem
attribute [local go_sem ↓] Go.wp_at_zero Go.wp_at_succ

theorem read_write {D : Dk} {i : Int} {bs : List Int} (h : (D.write i bs).2 = true) (j : Int) : (D.write i bs).1.read j = if j = i then bs else D.read j := by
  unfold Dk.write at h ⊢
  split at h
  · cases h
  · rename_i hc
    rw [if_neg hc]
    simp only [not_or] at hc
    obtain ⟨h1, h2, h3, h4⟩ := hc
    show (if h : 0 ≤ j ∧ j.toNat < (D.now.set i.toNat bs).length then (D.now.set i.toNat bs)[j.toNat] else []) = _
    by_cases e : j = i
    · subst e
      rw [if_pos rfl, dif_pos ⟨by omega, by rw [List.length_set]; omega⟩, List.getElem_set_self]
    · rw [if_neg e]
      unfold Dk.read
      by_cases hj : 0 ≤ j ∧ j.toNat < D.now.length
      · rw [dif_pos hj, dif_pos (by rw [List.length_set]; exact hj), List.getElem_set_ne (by omega)]
      · rw [dif_neg hj, dif_neg (by rw [List.length_set]; exact hj)]
theorem read_putN {D : Dk} {at' : Int} {b : List Int} : ∀ {k : Nat}, (putN D at' b k).2 = true → ∀ j : Int, (putN D at' b k).1.read j = if at' ≤ j ∧ j < at' + k then chunk b (j - at').toNat else D.read j
  | 0, _, j => by rw [if_neg (by omega)]; rfl
  | k + 1, h, j => by
    have hp : (putN D at' b k).2 = true := by
      cases e : (putN D at' b k).2 with
      | true => rfl
      | false => rw [putN_stay e (k + 1) (by omega), e] at h; cases h
    have ih := read_putN hp j
    have e1 : putN D at' b (k + 1) = (putN D at' b k).1.write (at' + k) (chunk b k) := by rw [putN, if_pos hp]
    rw [e1] at h ⊢
    rw [read_write h, ih]
    by_cases e : j = at' + k
    · rw [if_pos e, if_pos (by omega), show (j - at').toNat = k by omega]
    · rw [if_neg e]
      by_cases e2 : at' ≤ j ∧ j < at' + k
      · rw [if_pos e2, if_pos (by omega)]
      · rw [if_neg e2, if_neg (by omega)]
theorem getN_of {D : Dk} {at' : Int} {b : List Int} : ∀ {k : Nat}, k ≤ need b.length → (∀ j : Nat, j < k → D.read (at' + j) = chunk b j) → getN D at' k = (fillB b).take (64 * k)
  | 0, _, _ => by simp [getN]
  | k + 1, hk, h => by
    rw [getN, getN_of (by omega) (fun j hj => h j (by omega)), h k (by omega)]
    unfold chunk
    rw [show 64 * (k + 1) = 64 * k + 64 by omega, List.take_add]
theorem put_get {D : Dk} {at' : Int} {b : List Int} (hb : 0 < b.length) (hbl : b.length ≤ 262144) (h : (D.put at' b).2 = true) : (D.put at' b).1.get at' b.length = b := by
  unfold Dk.put at h ⊢
  rw [if_neg (by omega)] at h ⊢
  split at h
  · rename_i hI
    rw [if_pos hI]
    have hlen : (putN D at' b (need b.length)).1.now.length = D.now.length := by
      have : ∀ k, (putN D at' b k).1.now.length = D.now.length := fun k => by
        induction k with
        | zero => rfl
        | succ k ih => unfold putN; split; rw [write_len]; exact ih; exact ih
      exact this _
    have hc : cutN b.length = b.length := by unfold cutN; rw [if_neg (by omega), if_neg (by omega)]; rfl
    unfold Dk.get
    rw [hc, hlen, if_pos hI, getN_of (Nat.le_refl _) (fun j hj => by
      rw [read_putN h, if_pos (by omega)]
      congr 1
      omega)]
    rw [List.take_take, Nat.min_eq_left (need_lo _)]
    unfold fillB
    rw [List.take_append_of_le_length (Nat.le_refl _), List.take_length]
  · cases h
theorem put_read {D : Dk} {at' : Int} {b : List Int} (h : (D.put at' b).2 = true) {j : Int} (hj : j < at' ∨ at' + need b.length ≤ j) : (D.put at' b).1.read j = D.read j := by
  unfold Dk.put at h ⊢
  split at h
  · rename_i h0; rw [if_pos h0]
  · rename_i h0
    rw [if_neg h0]
    split at h
    · rename_i hI
      rw [if_pos hI, read_putN h, if_neg (by omega)]
    · cases h
/-- A disk that goes on for ever takes all. -/
structure Free (D : Dk) : Prop where
  ok : D.ok
  broken : D.broken = false
  left : D.left = -1
theorem free_write {D : Dk} (h : Free D) {i : Int} {bs : List Int} (h0 : 0 ≤ i) (h1 : i < D.now.length) (h2 : bs.length = 64) : (D.write i bs).2 = true ∧ Free (D.write i bs).1 := by
  have hok := write_ok h.ok i bs
  have hl := h.left
  rw [write_yes h0 h1 h2 h.broken] at hok ⊢
  exact ⟨rfl, hok, by show decide (D.left = 1) = false; rw [hl]; rfl, by show (if 0 < D.left then D.left - 1 else D.left) = -1; rw [if_neg (by omega), hl]⟩
theorem free_putN {D : Dk} (h : Free D) {at' : Int} {b : List Int} (h0 : 0 ≤ at') : ∀ {k : Nat}, k ≤ need b.length → at' + k ≤ D.now.length → (putN D at' b k).2 = true ∧ Free (putN D at' b k).1 ∧ (putN D at' b k).1.now.length = D.now.length
  | 0, _, _ => ⟨rfl, h, rfl⟩
  | k + 1, hk, h1 => by
    obtain ⟨h2, h3, h4⟩ := free_putN h h0 (b := b) (k := k) (by omega) (by omega)
    have e1 : putN D at' b (k + 1) = (putN D at' b k).1.write (at' + k) (chunk b k) := by rw [putN, if_pos h2]
    rw [e1]
    obtain ⟨h5, h6⟩ := free_write h3 (i := at' + k) (bs := chunk b k) (by omega) (by rw [h4]; omega) (chunk_len (b := b) (k := k) (by omega))
    exact ⟨h5, h6, by rw [write_len]; exact h4⟩
theorem free_put {D : Dk} (h : Free D) {at' : Int} {b : List Int} (h0 : 0 ≤ at') (h1 : at' + need b.length ≤ D.now.length) : (D.put at' b).2 = true ∧ Free (D.put at' b).1 ∧ (D.put at' b).1.now.length = D.now.length := by
  unfold Dk.put
  split
  · exact ⟨rfl, h, rfl⟩
  · rw [if_pos (by unfold isB; rw [decide_eq_true_eq]; omega)]
    exact free_putN h h0 (Nat.le_refl _) h1
theorem free_new (K : Nat) (h : K ≤ 4096) : Free (Dk.new K) := ⟨new_ok K h, rfl, rfl⟩
theorem new_len (K : Nat) : (Dk.new K).now.length = K := by simp [Dk.new]
theorem put_few {D : Dk} (h : D.ok) (at' : Int) (b : List Int) : (D.put at' b).1.written ≤ D.written + need b.length ∧ (D.put at' b).1.uns.length ≤ D.uns.length + need b.length ∧ (D.put at' b).1.ok := by
  unfold Dk.put
  split
  · exact ⟨by simp, by simp, h⟩
  · split
    · obtain ⟨h1, _, h3, h4⟩ := putN_ok h at' b (need b.length)
      exact ⟨h3, h4, h1⟩
    · exact ⟨by simp, by simp, h⟩
def abc : List Int := [97, 98, 99]
theorem str_abc : strOf abc = ⟨#[97, 98, 99]⟩ := by decide
theorem lit_view (w : World) (bs : List Int) (fr : Nat × Nat) (hl : bs.length ≤ maxLen) : VB (w.alloc (.cells (bs.map bv).toArray 5 fr)) (.slice (some ⟨w.heap.size, 0, none⟩) bs.length bs.length) bs := by
  refine ⟨by simp, _, _, rfl, Nat.le_refl _, hl, (fun h => by cases h), fun a ha j u hu => ?_⟩
  cases ha
  have e : (⟨w.heap.size, 0, none⟩ : Addr).add j = ⟨w.heap.size, j, none⟩ := by unfold Addr.add; split <;> simp_all
  rw [e, cell_new]
  simpa using hu
set_option maxRecDepth 100000 in
set_option maxHeartbeats 4000000 in
theorem alive4 (w : World) : Calls Try.prog 32 #[] w fun e w' => e = .returned (.bool true) ∧ Below w.heap.size w w' := by
  have f0 := free_new 2 (by decide)
  obtain ⟨f1, f2, f3⟩ := free_put f0 (at' := 0) (b := abc) (by decide) (by rw [new_len]; decide)
  have fg := put_get (D := Dk.new 2) (at' := 0) (b := abc) (by decide) (by decide) f1
  rw [show ((abc.length : Nat) : Int) = 3 from rfl] at fg
  have kN := Lib.hid (fun W => need_any W 65 (by decide))
  rw [show needI 65 = 2 from rfl] at kN
  go_enter Try.func32, Try.ntmps32
  go_wp2_with fail
  refine (hd_new (Below.refl w.heap.size w) 2).mono ?_; rintro e w1 ⟨rfl, h1, hb1⟩
  rw [show many 2 = 2 from rfl] at h1
  replace h1 := Lib.hid h1
  have hv : VB (w1.alloc (.cells #[.int .u8 97, .int .u8 98, .int .u8 99] 5 (3, 4))) (.slice (some ⟨w1.heap.size, 0, none⟩) 3 3) abc := lit_view w1 abc (3, 4) (by decide)
  have h2 := h1.out.below ((Below.refl w1.heap.size w1).alloc (Nat.le_refl _) (.cells #[.int .u8 97, .int .u8 98, .int .u8 99] 5 (3, 4)))
  have kP := Lib.hid (hd_put h2 f0.ok 0 hv (by decide) (by simp [Dk.new]) (by simp [Dk.new]))
  rw [f1] at kP
  generalize ((Dk.new 2).put 0 abc).1 = D1 at *
  have kcs := fun (w : World) (C : Array Value) (n c : Nat) => Lib.run_convert_bytes_const (P := Try.prog) w 27 5 C n c Try.underlying27 Try.underlying5
  clear hv h2 h1 f0
  go_wp2_with fail
  refine kP.out.mono ?_; rintro e w3 ⟨rfl, h3, _⟩
  have kG := hd_get h3 f2.ok 0 3
  rw [fg] at kG
  replace kG := Lib.hid kG
  replace h3 := Lib.hid h3
  clear kP
  go_wp2_with fail
  refine (kN.out _).mono ?_; rintro e w4 ⟨rfl, hw1⟩
  have hw2 := hw1.symm
  subst hw2
  clear hw1
  go_wp2_with fail
  refine kG.out.mono ?_; rintro e w5 ⟨v5, rfl, hv5, hb5, _⟩
  have h5 := h3.out.below hb5
  have hc := conv_any w5 _ _ hv5
  rw [str_abc] at hc
  obtain ⟨A5, c5, rfl, _⟩ := hv5.cells
  have hacc := Lib.hid h5.acc
  clear hv5 h5 hb5
  go_wp2_with fail
  go_ret
  exact ⟨rfl, hacc.out⟩
end Go.Proofs.Ytbfcaapompkjhaa
