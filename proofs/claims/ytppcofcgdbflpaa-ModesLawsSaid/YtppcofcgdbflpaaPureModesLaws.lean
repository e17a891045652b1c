/-
  The pure side of ModesLaws: every mode is one of six, and all cases are reckoned.
-/
import Derived.Test.YtppcofcgdbflpaaPModesLawsx
namespace Go.Proofs.Ytppcofcgdbflpaa.Pure
open Go.RowKit Go.Proofs.Ytppcofcgdbflpaa.PModesLaws Go.Proofs.YtppcofcgdbflpaaW.PrintWords Go.Proofs.YtppcofcgdbflpaaW.PrintLast

theorem laws_few : ∀ a : Fin 6, ∀ b : Fin 6, ∀ c : Fin 6, postelaw10_ModesLaws.f 20 ((a.val : Nat) : Int) ((b.val : Nat) : Int) ((c.val : Nat) : Int) = some true := by decide +kernel
theorem laws_live : postelaw10_alive.f 20 = some true := by decide +kernel
theorem ModesLaws : postelaw10_ModesLaws.Pure := by
  intro a b c _ _ _
  refine ⟨20, ?_⟩
  by_cases h : (0 ≤ a ∧ a ≤ 5) ∧ (0 ≤ b ∧ b ≤ 5) ∧ (0 ≤ c ∧ c ≤ 5)
  · obtain ⟨⟨h1, h2⟩, ⟨h3, h4⟩, h5, h6⟩ := h
    have := laws_few ⟨a.toNat, by omega⟩ ⟨b.toNat, by omega⟩ ⟨c.toNat, by omega⟩
    simp only [Int.toNat_of_nonneg h1, Int.toNat_of_nonneg h3, Int.toNat_of_nonneg h5] at this
    exact this
  · unfold postelaw10_ModesLaws.f
    rw [laws_live]
    simp only [Option.bind_some, if_true]
    by_cases h1 : a < 0
    · rw [if_pos h1]; rfl
    rw [if_neg h1]
    by_cases h2 : a > 5
    · rw [if_pos h2]; rfl
    rw [if_neg h2]
    by_cases h3 : b < 0
    · rw [if_pos h3]; rfl
    rw [if_neg h3]
    by_cases h4 : b > 5
    · rw [if_pos h4]; rfl
    rw [if_neg h4]
    by_cases h5 : c < 0
    · rw [if_pos h5]; rfl
    rw [if_neg h5]
    have h6 : c > 5 := by omega
    rw [decide_eq_true h6]; rfl
end Go.Proofs.Ytppcofcgdbflpaa.Pure
