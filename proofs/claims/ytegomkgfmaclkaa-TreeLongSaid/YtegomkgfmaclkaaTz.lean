/-
  TreeLong: plain facts.
-/
import Derived.Test.YtegomkgfmaclkaaTy
set_option linter.unusedVariables false
set_option linter.unusedSimpArgs false
namespace Go.Proofs.Ytegomkgfmaclkaa
open Go.RowKit Go.Proofs.PosteOrd Go.Proofs.PosteMem Go.Proofs.PosteOpen

theorem cutS_mem {L : List Row} {key : ByteArray} {y : Row} (hs : Srt L) : y ∈ cutS L key ↔ y ∈ L ∧ y.key ≠ key := by
  induction L with
  | nil => rw [cutS_nil]; simp
  | cons z L ih =>
    obtain ⟨h1, h2⟩ := List.pairwise_cons.1 hs
    rw [cutS_cons]
    split
    · rename_i hl
      rw [List.mem_cons, ih h2, List.mem_cons]
      constructor
      · rintro (rfl | ⟨h3, h4⟩)
        · exact ⟨.inl rfl, fun e => lt_irrefl key (by rw [e] at hl; exact hl)⟩
        · exact ⟨.inr h3, h4⟩
      · rintro ⟨rfl | h3, h4⟩
        · exact .inl rfl
        · exact .inr ⟨h3, h4⟩
    · rename_i hl
      split
      · rename_i he
        have hk : z.key = key := bytes_inj (cmpL_eq.1 he)
        constructor
        · intro h3
          refine ⟨List.mem_cons_of_mem _ h3, fun e => ?_⟩
          have := h1 _ h3
          rw [e, hk] at this
          exact lt_irrefl _ this
        · rintro ⟨h3, h4⟩
          rcases List.mem_cons.1 h3 with rfl | h3
          · exact absurd hk h4
          · exact h3
      · rename_i he
        constructor
        · intro h3
          refine ⟨h3, fun e => ?_⟩
          rcases List.mem_cons.1 h3 with rfl | h3
          · exact he (by rw [e]; exact cmpL_self _)
          · have := h1 _ h3
            rw [e] at this
            exact hl this
        · exact fun h3 => h3.1
/-- The law's row k; a tree's rows are those k with P k. -/
def RL (k : Nat) : Row := ⟨keyN k, ⟨#[118]⟩⟩
def Full (had : List Bool) (L : List Row) : Prop := ∀ y, y ∈ L ↔ ∃ j, j < 8000 ∧ had.getD j false = true ∧ y = RL j
theorem Full.hit {had : List Bool} {L : List Row} (h : Full had L) (hs : Srt L) {k : Nat} (hk : k < 8000) : hit L (keyN k) = had.getD k false := by
  cases hh : had.getD k false with
  | true => exact (hit_mem hs).2 ⟨RL k, (h _).2 ⟨k, hk, hh, rfl⟩, rfl⟩
  | false =>
    rw [Bool.eq_false_iff]
    intro ht
    obtain ⟨r, h1, h2⟩ := (hit_mem hs).1 ht
    obtain ⟨j, hj, hp, rfl⟩ := (h r).1 h1
    obtain rfl := keyN_inj hj hk h2
    rw [hh] at hp
    cases hp
theorem Full.put {had : List Bool} {L : List Row} (h : Full had L) {k : Nat} (hk : k < 8000) (hl : had.length = 8000) : Full (had.set k true) (putS L (RL k)) := fun y => by
  have hg : ∀ j, j < 8000 → ((had.set k true).getD j false = true ↔ j = k ∨ had.getD j false = true) := fun j hj => by
    rw [List.getD_eq_getElem?_getD, List.getD_eq_getElem?_getD, List.getElem?_set]
    by_cases e : k = j
    · subst e; simp [show k < had.length by omega]
    · simp [e, show ¬ j = k from fun x => e x.symm]
  constructor
  · intro hy
    rcases putS_mem hy with rfl | hy
    · exact ⟨k, hk, (hg k hk).2 (.inl rfl), rfl⟩
    · obtain ⟨j, hj, hp, e⟩ := (h y).1 hy
      exact ⟨j, hj, (hg j hj).2 (.inr hp), e⟩
  · rintro ⟨j, hj, hp, rfl⟩
    rcases (hg j hj).1 hp with rfl | hp
    · exact putS_has L _
    · rcases putS_old (x := RL k) ((h (RL j)).2 ⟨j, hj, hp, rfl⟩) with h3 | h3
      · exact h3
      · obtain rfl := keyN_inj hj hk h3
        exact putS_has L _
theorem Full.cut {had : List Bool} {L : List Row} (h : Full had L) (hs : Srt L) {k : Nat} (hk : k < 8000) (hl : had.length = 8000) : Full (had.set k false) (cutS L (keyN k)) := fun y => by
  have hg : ∀ j, j < 8000 → ((had.set k false).getD j false = true ↔ j ≠ k ∧ had.getD j false = true) := fun j hj => by
    rw [List.getD_eq_getElem?_getD, List.getD_eq_getElem?_getD, List.getElem?_set]
    by_cases e : k = j
    · subst e; simp [show k < had.length by omega]
    · simp [e, show ¬ j = k from fun x => e x.symm]
  rw [cutS_mem hs, h y]
  constructor
  · rintro ⟨⟨j, hj, hp, rfl⟩, hne⟩
    exact ⟨j, hj, (hg j hj).2 ⟨fun e => hne (by rw [e]; rfl), hp⟩, rfl⟩
  · rintro ⟨j, hj, hp, rfl⟩
    obtain ⟨h3, h4⟩ := (hg j hj).1 hp
    exact ⟨⟨j, hj, h4, rfl⟩, fun e => h3 (keyN_inj hj hk e)⟩
end Go.Proofs.Ytegomkgfmaclkaa
