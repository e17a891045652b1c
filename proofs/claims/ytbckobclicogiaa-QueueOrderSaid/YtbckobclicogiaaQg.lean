/-
  QueueOrder: plain facts on messages put in order one by one.
-/
import Derived.Test.YtbckobclicogiaaQc
set_option linter.unusedVariables false
namespace Go.Proofs.Ytbckobclicogiaa
open Go.RowKit Go.Proofs.PosteMem

theorem ordM_cases (x y : Msg) : (x.pri < y.pri ∧ ordM x y = -1) ∨ (y.pri < x.pri ∧ ordM x y = 1) ∨ (x.pri = y.pri ∧ x.id < y.id ∧ ordM x y = -1) ∨ (x.pri = y.pri ∧ y.id < x.id ∧ ordM x y = 1) ∨ (x.pri = y.pri ∧ x.id = y.id ∧ ordM x y = 0) := by
  unfold ordM orI cmpI
  by_cases h1 : x.pri < y.pri
  · left; simp [h1]
  · by_cases h2 : y.pri < x.pri
    · right; left; simp [h1, h2]
    · have e : x.pri = y.pri := by omega
      by_cases h3 : x.id < y.id
      · right; right; left; simp [e, h3]
      · by_cases h4 : y.id < x.id
        · right; right; right; left; simp [e, h3, h4]
        · right; right; right; right
          have e2 : x.id = y.id := by omega
          simp [e, e2]
theorem ordM_trans {x y z : Msg} (h : ordM x y < 0) (k : ordM y z < 0) : ordM x z < 0 := by
  rcases ordM_cases x y with h1 | h1 | h1 | h1 | h1 <;> rcases ordM_cases y z with h2 | h2 | h2 | h2 | h2 <;> rcases ordM_cases x z with h3 | h3 | h3 | h3 | h3 <;> omega
theorem ordM_swap {x y : Msg} (h : 0 < ordM x y) : ordM y x < 0 := by
  rcases ordM_cases x y with h1 | h1 | h1 | h1 | h1 <;> rcases ordM_cases y x with h3 | h3 | h3 | h3 | h3 <;> omega
theorem ordM_ne {x y : Msg} (h : x.id ≠ y.id) (h2 : ¬ 0 < ordM x y) : ordM x y < 0 := by
  rcases ordM_cases x y with h1 | h1 | h1 | h1 | h1 <;> omega

/-- Messages in order, each number once. -/
def Up (L : List Msg) : Prop := L.Pairwise fun x y => ordM x y < 0 ∧ x.id ≠ y.id
theorem add_mem {L : List Msg} {m x : Msg} (h : x ∈ addM L m) : x = m ∨ x ∈ L := by
  unfold addM at h
  rcases List.mem_append.1 h with h | h
  · exact .inr (List.mem_of_mem_take h)
  · rcases List.mem_cons.1 h with h | h
    · exact .inl h
    · exact .inr (List.mem_of_mem_drop h)
theorem add_len (L : List Msg) (m : Msg) : (addM L m).length = L.length + 1 := by
  unfold addM
  exact insert_len L _ m List.findIdx_le_length
theorem take_before {L : List Msg} {m x : Msg} (h : x ∈ L.take (L.findIdx (behind m))) : ¬ 0 < ordM x m := by
  obtain ⟨j, hj, rfl⟩ := List.getElem_of_mem h
  rw [List.length_take] at hj
  rw [List.getElem_take]
  have := List.not_of_lt_findIdx (p := behind m) (xs := L) (i := j) (by omega)
  simpa [behind] using this
theorem add_up {L : List Msg} {m : Msg} (h : Up L) (hne : ∀ x ∈ L, x.id ≠ m.id) : Up (addM L m) := by
  unfold Up addM at *
  have h1 := h
  rw [← List.take_append_drop (L.findIdx (behind m)) L, List.pairwise_append] at h1
  obtain ⟨ht, hd, hx⟩ := h1
  rw [List.pairwise_append, List.pairwise_cons]
  have hdr : ∀ y ∈ L.drop (L.findIdx (behind m)), ordM m y < 0 ∧ m.id ≠ y.id := by
    intro y hy
    have hym := List.mem_of_mem_drop hy
    refine ⟨?_, fun e => hne y hym e.symm⟩
    obtain ⟨j, hj, rfl⟩ := List.getElem_of_mem hy
    have hl : L.findIdx (behind m) < L.length := by rw [List.length_drop] at hj; omega
    have h0 : 0 < ordM L[L.findIdx (behind m)] m := by
      have := List.findIdx_getElem (p := behind m) (xs := L) (w := hl)
      simpa [behind] using this
    rw [List.getElem_drop]
    cases j with
    | zero => exact ordM_swap h0
    | succ j =>
      have h2 := (List.pairwise_iff_getElem.1 h) (L.findIdx (behind m)) (L.findIdx (behind m) + (j + 1)) hl (by rw [List.length_drop] at hj; omega) (by omega)
      exact ordM_trans (ordM_swap h0) h2.1
  refine ⟨ht, ⟨hdr, hd⟩, fun x hx1 y hy => ?_⟩
  rcases List.mem_cons.1 hy with rfl | hy
  · exact ⟨ordM_ne (hne x (List.mem_of_mem_take hx1)) (take_before hx1), hne x (List.mem_of_mem_take hx1)⟩
  · exact hx x hx1 y hy

/-- The law's k-th message. -/
def mkM (pris : List Int) (k : Nat) : Msg := ⟨(k : Int) + 1, pris.getD k 0 % 4, 0, false, ⟨#[]⟩, ⟨#[]⟩⟩
/-- What has been put so far: of the ones that are not left. -/
structure Put (pris : List Int) (left : List Bool) (L : List Msg) : Prop where
  up : Up L
  all : ∀ x ∈ L, ∃ k, k < left.length ∧ left.getD k true = false ∧ x = mkM pris k
  len : L.length = left.count false
theorem Put.start (pris : List Int) (n : Nat) : Put pris (List.replicate n true) [] := ⟨.nil, fun x h => (by cases h), by rw [List.count_replicate]; rfl⟩
theorem Put.add {pris : List Int} {left : List Bool} {L : List Msg} (h : Put pris left L) {k : Nat} (hk : k < left.length) (hl : left.getD k true = true) : Put pris (left.set k false) (addM L (mkM pris k)) := by
  have hl' : left[k] = true := by simpa [List.getD_eq_getElem?_getD, List.getElem?_eq_getElem hk] using hl
  refine ⟨add_up h.up fun x hx => ?_, fun x hx => ?_, ?_⟩
  · obtain ⟨j, hj, hj2, rfl⟩ := h.all x hx
    intro e
    have : j = k := by simp [mkM] at e; omega
    subst this
    rw [hl] at hj2
    cases hj2
  · rcases add_mem hx with rfl | hx
    · exact ⟨k, by simpa using hk, by simp [List.getD_eq_getElem?_getD, hk], rfl⟩
    · obtain ⟨j, hj, hj2, rfl⟩ := h.all x hx
      refine ⟨j, by simpa using hj, ?_, rfl⟩
      rw [List.getD_eq_getElem?_getD] at hj2 ⊢
      rw [List.getElem?_set]
      split
      · rename_i e
        simp
      · exact hj2
  · rw [add_len, h.len, List.count_set (by exact hk), hl']
    simp
theorem Put.some_left {pris : List Int} {left : List Bool} {L : List Msg} (h : Put pris left L) (hlt : L.length < left.length) : ∃ k, k < left.length ∧ left.getD k true = true := by
  rw [h.len] at hlt
  have h2 : ¬ ∀ b ∈ left, b = false := fun h3 => by
    have : left.count false = left.length := List.count_eq_length.2 fun b hb => (h3 b hb).symm
    omega
  simp only [Classical.not_forall] at h2
  obtain ⟨b, hb, hb2⟩ := h2
  obtain ⟨k, hk, rfl⟩ := List.getElem_of_mem hb
  exact ⟨k, hk, by simp [List.getD_eq_getElem?_getD, hk]; simpa using hb2⟩

/-- How far the next one that is left is. -/
def far (left : List Bool) (k : Nat) : Nat := (List.range left.length).findIdx fun d => left.getD ((k + d) % left.length) true
theorem far_lt {left : List Bool} {k : Nat} (hk : k < left.length) (h : ∃ j, j < left.length ∧ left.getD j true = true) : far left k < left.length ∧ left.getD ((k + far left k) % left.length) true = true := by
  obtain ⟨j, hj, hl⟩ := h
  have h1 : far left k < (List.range left.length).length := by
    refine List.findIdx_lt_length_of_exists ⟨(j + left.length - k) % left.length, ?_, ?_⟩
    · rw [List.mem_range]; exact Nat.mod_lt _ (by omega)
    · have : (k + (j + left.length - k) % left.length) % left.length = j := by
        rw [Nat.add_mod_mod, show k + (j + left.length - k) = j + left.length by omega, Nat.add_mod_right, Nat.mod_eq_of_lt hj]
      show left.getD _ true = true
      rw [this]; exact hl
  refine ⟨by simpa using h1, ?_⟩
  have h2 := List.findIdx_getElem (p := fun d => left.getD ((k + d) % left.length) true) (xs := List.range left.length) (w := h1)
  simpa [far] using h2
theorem far_step {left : List Bool} {k : Nat} (hk : k < left.length) (h : ∃ j, j < left.length ∧ left.getD j true = true) (hl : left.getD k true = false) : far left ((k + 1) % left.length) < far left k := by
  obtain ⟨h1, h2⟩ := far_lt hk h
  have h0 : far left k ≠ 0 := fun e => by
    rw [e, Nat.add_zero, Nat.mod_eq_of_lt hk, hl] at h2
    cases h2
  have h3 : far left ((k + 1) % left.length) ≤ far left k - 1 := by
    rcases Nat.lt_or_ge (far left k - 1) (far left ((k + 1) % left.length)) with h4 | h4
    · have h5 := List.not_of_lt_findIdx (p := fun d => left.getD (((k + 1) % left.length + d) % left.length) true) (xs := List.range left.length) (i := far left k - 1) h4
      simp only [List.getElem_range, Nat.mod_add_mod] at h5
      rw [show k + 1 + (far left k - 1) = k + far left k by omega] at h5
      exact absurd h2 (by simpa using h5)
    · exact h4
  omega
end Go.Proofs.Ytbckobclicogiaa
