/-
  SectorsPlay: plain facts. The disk and the reference's disk go side by side.
-/
import Derived.Test.YtbfcaapompkjhaaEd
set_option linter.unusedVariables false
set_option linter.unusedSimpArgs false
namespace Go.Proofs.Ytbfcaapompkjhaa
open Go.RowKit Go.Proofs.PosteMem

theorem lastOf_snoc (U : List (Nat × List Int)) (x : Nat × List Int) (j : Nat) (b : List Int) : ∀ k, k ≤ U.length → lastOf (U ++ [x]) j b k = lastOf U j b k
  | 0, _ => rfl
  | k + 1, hk => by
    rw [lastOf, lastOf, lastOf_snoc U x j b k (by omega), List.getElem?_append_left (by omega)]
theorem lastOf_new (U : List (Nat × List Int)) (i : Nat) (bs : List Int) (j : Nat) (b : List Int) : lastOf (U ++ [(i, bs)]) j b (U.length + 1) = if i = j then bs else lastOf U j b U.length := by
  rw [lastOf, lastOf_snoc U _ j b U.length (Nat.le_refl _)]
  rw [List.getElem?_append_right (Nat.le_refl _)]
  simp
theorem settleA_len (U : List (Nat × List Int)) (S : List (List Int)) (i : Nat) : (settleA U S i).length = S.length := by
  rw [← settleX_true []]; exact settleX_len _ _ _ _ _
theorem settleA_at (U : List (Nat × List Int)) (S : List (List Int)) (j : Nat) (hj : j < S.length) : ∀ k (h : k ≤ U.length), (settleA U S k)[j]'(by rw [settleA_len]; exact hj) = lastOf U j S[j] k
  | 0, _ => rfl
  | k + 1, h => by
    have hk : k < U.length := by omega
    have e1 : settleA U S (k + 1) = (settleA U S k).set U[k].1 U[k].2 := by
      rw [settleA, List.getElem?_eq_getElem hk]; rfl
    have e2 : lastOf U j S[j] (k + 1) = if U[k].1 = j then U[k].2 else lastOf U j S[j] k := by
      rw [lastOf, List.getElem?_eq_getElem hk]
      by_cases e : U[k].1 = j
      · rw [if_pos e, if_pos (by simp [e])]; rfl
      · rw [if_neg e, if_neg (fun h => e (by simpa using h))]
    have ih := settleA_at U S j hj k (by omega)
    rw [e2]
    simp only [e1]
    by_cases e : U[k].1 = j
    · subst e
      rw [if_pos rfl, List.getElem_set_self]
    · rw [if_neg e, List.getElem_set_ne e, ih]

structure Rel (k : Nat) (D : Dk) (R : Rk) : Prop where
  sure : R.sure = D.sure
  uns : R.uns = D.uns
  len : D.now.length = D.sure.length
  now : ∀ j (h : j < D.now.length), D.now[j] = lastOf D.uns j (D.sure[j]'(by omega)) D.uns.length
  count : R.count = D.written
  brk : D.broken = R.broken
  left : if R.ends = true then (D.left = R.left ∨ ((1073741824 : Int) - k ≤ D.left ∧ (1073741824 : Int) - k ≤ R.left)) else D.left = -1
theorem rel_new (K : Nat) : Rel 0 (Dk.new K) (Rk.new K) := ⟨rfl, rfl, rfl, fun j h => by simp [Dk.new, lastOf], rfl, rfl, by simp [Rk.new, Dk.new]⟩
theorem Rel.weak {k : Nat} {D : Dk} {R : Rk} (h : Rel k D R) : Rel (k + 1) D R := by
  refine ⟨h.sure, h.uns, h.len, h.now, h.count, h.brk, ?_⟩
  have := h.left
  split
  · rename_i he; rw [if_pos he] at this; omega
  · rename_i he; rw [if_neg he] at this; exact this
theorem rel_read {k : Nat} {D : Dk} {R : Rk} (h : Rel k D R) (i : Int) : D.read i = R.read i := by
  have hl := h.len
  unfold Dk.read Rk.read
  by_cases hc : 0 ≤ i ∧ i.toNat < D.now.length
  · rw [dif_pos hc, dif_pos (by rw [h.sure]; omega), h.now]
    simp only [h.uns, h.sure]
  · rw [dif_neg hc, dif_neg (by rw [h.sure]; omega)]
theorem rel_write {k : Nat} {D : Dk} {R : Rk} (h : Rel k D R) (ok : R.ok) (hk : k ≤ 1000) (i : Int) (bs : List Int) : (D.write i bs).2 = (R.write i bs).2 ∧ Rel (k + 1) (D.write i bs).1 (R.write i bs).1 := by
  have hl := h.len
  have hb := h.brk
  have hw := h.weak
  unfold Dk.write Rk.write
  by_cases hc : i < 0 ∨ (D.now.length : Int) ≤ i ∨ bs.length ≠ 64 ∨ D.broken = true
  · rw [if_pos hc, if_pos (by rw [h.sure, ← hl, ← hb]; exact hc)]
    exact ⟨rfl, hw⟩
  · have hc' : ¬ (i < 0 ∨ (R.sure.length : Int) ≤ i ∨ bs.length ≠ 64 ∨ R.broken = true) := by rw [h.sure, ← hl, ← hb]; exact hc
    rw [if_neg hc, if_neg hc']
    simp only [not_or] at hc
    obtain ⟨h1, h2, h3, h4⟩ := hc
    have hleft := h.left
    have hlow := ok.low
    refine ⟨rfl, h.sure, by show R.uns ++ _ = D.uns ++ _; rw [h.uns], by show (D.now.set _ _).length = _; rw [List.length_set]; exact hl, fun j hj => ?_, by show R.count + 1 = D.written + 1; rw [h.count], ?_, ?_⟩
    · have hj2 : j < D.now.length := by simpa using hj
      show (D.now.set i.toNat bs)[j]'hj = lastOf (D.uns ++ [(i.toNat, bs)]) j (D.sure[j]'(by omega)) (D.uns ++ [(i.toNat, bs)]).length
      rw [List.length_append, List.length_singleton, lastOf_new]
      by_cases e : i.toNat = j
      · subst e
        rw [if_pos rfl, List.getElem_set_self]
      · rw [if_neg e, List.getElem_set_ne e]
        exact h.now j (by simpa using hj)
    · show decide (D.left = 1) = (R.ends && decide ((if R.ends = true then R.left - 1 else R.left) = 0))
      by_cases he : R.ends = true
      · rw [if_pos he] at hleft ⊢
        have hr0 : R.left ≠ 0 := by
          intro e
          apply h4
          rw [hb]
          unfold Rk.broken
          rw [he, e]
          rfl
        rw [he, Bool.true_and, Bool.eq_iff_iff, decide_eq_true_eq, decide_eq_true_eq]
        omega
      · rw [if_neg he] at hleft ⊢
        have he' : R.ends = false := by simpa using he
        rw [he', hleft]
        rfl
    · show if R.ends = true then ((if 0 < D.left then D.left - 1 else D.left) = (if R.ends = true then R.left - 1 else R.left) ∨ _) else (if 0 < D.left then D.left - 1 else D.left) = -1
      by_cases he : R.ends = true
      · have hr0 : R.left ≠ 0 := by
          intro e
          apply h4
          rw [hb]
          unfold Rk.broken
          rw [he, e]
          rfl
        simp only [he, if_true] at hleft ⊢
        split <;> omega
      · simp only [if_neg he] at hleft ⊢
        rw [if_neg (by omega), hleft]
theorem rel_sync {k : Nat} {D : Dk} {R : Rk} (h : Rel k D R) : D.sync.2 = R.sync.2 ∧ Rel (k + 1) D.sync.1 R.sync.1 := by
  have hb := h.brk
  have hl := h.len
  have hw := h.weak
  have hleft := hw.left
  unfold Dk.sync Rk.sync
  by_cases hc : D.broken = true
  · rw [if_pos hc, if_pos (by rw [← hb]; exact hc)]
    exact ⟨rfl, hw⟩
  · rw [if_neg hc, if_neg (by rw [← hb]; exact hc)]
    refine ⟨rfl, ?_, rfl, rfl, fun j hj => rfl, h.count, hb, hleft⟩
    show settleA R.uns R.sure R.uns.length = D.now
    rw [h.uns, h.sure]
    refine List.ext_getElem (by rw [settleA_len, hl]) (fun j h1 h2 => ?_)
    rw [settleA_at _ _ j (by omega) _ (Nat.le_refl _), h.now j h2]
theorem rel_crash {k : Nat} {D : Dk} {R : Rk} (h : Rel k D R) (kp : List Bool) : Rel (k + 1) (D.crash kp) (R.crash kp) := by
  unfold Dk.crash Rk.crash
  rw [h.uns, h.sure]
  exact ⟨rfl, rfl, rfl, fun j hj => rfl, h.count, rfl, by simp⟩
theorem rel_brk {k : Nat} {D : Dk} {R : Rk} (h : Rel k D R) (n : Int) : Rel (k + 1) (D.brk n) (R.brk n) := by
  have hb := h.brk
  unfold Dk.brk Rk.brk
  by_cases hc : D.broken = true
  · rw [if_pos hc, if_pos (by rw [← hb]; exact hc)]
    exact h.weak
  · have hc' : ¬ R.broken = true := by rw [← hb]; exact hc
    rw [if_neg hc, if_neg hc']
    refine ⟨h.sure, h.uns, h.len, h.now, h.count, ?_, ?_⟩
    · show decide (n ≤ 0) = (true && decide (cutI n 0 1073741824 = 0))
      rw [Bool.true_and, Bool.eq_iff_iff, decide_eq_true_eq, decide_eq_true_eq]
      unfold cutI
      split
      · omega
      · split <;> omega
    · simp only [if_true]
      unfold cutI
      split
      · exact .inl rfl
      · split
        · right; omega
        · exact .inl rfl
/-- How much was written. -/
structure Few (k : Nat) (D : Dk) : Prop where
  ok : D.ok
  written : D.written ≤ k
  uns : D.uns.length ≤ k
theorem few_new (K : Nat) (h : K ≤ 4096) : Few 0 (Dk.new K) := ⟨new_ok K h, by simp [Dk.new], by simp [Dk.new]⟩
theorem few_write {k : Nat} {D : Dk} (h : Few k D) (i : Int) (bs : List Int) : Few (k + 1) (D.write i bs).1 := by
  refine ⟨write_ok h.ok i bs, ?_, ?_⟩
  · have := h.written
    unfold Dk.write; split
    · exact Nat.le_succ_of_le this
    · show D.written + 1 ≤ _; omega
  · have := h.uns
    unfold Dk.write; split
    · exact Nat.le_succ_of_le this
    · show (D.uns ++ [_]).length ≤ _; simp; omega
theorem Few.weak {k : Nat} {D : Dk} (h : Few k D) : Few (k + 1) D := ⟨h.ok, Nat.le_succ_of_le h.written, Nat.le_succ_of_le h.uns⟩
theorem few_sync {k : Nat} {D : Dk} (h : Few k D) : Few (k + 1) D.sync.1 := by
  refine ⟨sync_ok h.ok, ?_, ?_⟩
  · have := h.written
    unfold Dk.sync; split <;> exact Nat.le_succ_of_le this
  · have := h.uns
    unfold Dk.sync; split
    · exact Nat.le_succ_of_le this
    · exact Nat.zero_le _
theorem few_crash {k : Nat} {D : Dk} (h : Few k D) (kp : List Bool) : Few (k + 1) (D.crash kp) := ⟨crash_ok h.ok kp, Nat.le_succ_of_le h.written, Nat.zero_le _⟩
theorem few_brk {k : Nat} {D : Dk} (h : Few k D) (n : Int) (hn : n < 9223372036854775808) : Few (k + 1) (D.brk n) := by
  refine ⟨brk_ok h.ok hn, ?_, ?_⟩
  · have := h.written
    unfold Dk.brk; split <;> exact Nat.le_succ_of_le this
  · have := h.uns
    unfold Dk.brk; split <;> exact Nat.le_succ_of_le this
end Go.Proofs.Ytbfcaapompkjhaa
