/-
  The pure side of ModesAbove, ModesLaws, ModesTell: every mode is one of six, and all cases are reckoned.
-/
import Derived.Test.YtppcofcgdbflpaaPModesAbovex
namespace Go.Proofs.Ytppcofcgdbflpaa.Pure
open Go.RowKit Go.Proofs.Ytppcofcgdbflpaa.PModesAbove Go.Proofs.YtppcofcgdbflpaaW.PrintWords Go.Proofs.YtppcofcgdbflpaaW.PrintLast

theorem above_few : ∀ a : Fin 6, ∀ b : Fin 6, postelaw10_ModesAbove.f 20 ((a.val : Nat) : Int) ((b.val : Nat) : Int) = some true := by decide +kernel
theorem above_live : postelaw10_alive.f 20 = some true := by decide +kernel
theorem ModesAbove : postelaw10_ModesAbove.Pure := by
  intro a b _ _
  refine ⟨20, ?_⟩
  by_cases h : (0 ≤ a ∧ a ≤ 5) ∧ (0 ≤ b ∧ b ≤ 5)
  · obtain ⟨⟨h1, h2⟩, h3, h4⟩ := h
    have := above_few ⟨a.toNat, by omega⟩ ⟨b.toNat, by omega⟩
    simp only [Int.toNat_of_nonneg h1, Int.toNat_of_nonneg h3] at this
    exact this
  · unfold postelaw10_ModesAbove.f
    rw [above_live]
    simp only [Option.bind_some, if_true]
    by_cases h1 : a < 0
    · rw [if_pos h1]; rfl
    rw [if_neg h1]
    by_cases h2 : a > 5
    · rw [if_pos h2]; rfl
    rw [if_neg h2]
    by_cases h3 : b < 0
    · rw [if_pos h3]; rfl
    rw [if_neg h3]
    have h4 : b > 5 := by omega
    rw [decide_eq_true h4]; rfl
end Go.Proofs.Ytppcofcgdbflpaa.Pure
