/-
  The pure side of ModesTell: what is no mode counts as the last, so every pair is one of 36, and these are reckoned.
-/
import Derived.Test.YtppcofcgdbflpaaPModesTellx
namespace Go.Proofs.Ytppcofcgdbflpaa.Pure
open Go.RowKit Go.Proofs.Ytppcofcgdbflpaa.PModesTell Go.Proofs.YtppcofcgdbflpaaW.PrintWords Go.Proofs.YtppcofcgdbflpaaW.PrintLast

theorem tell_few : ∀ a : Fin 6, ∀ b : Fin 6, postelaw10_ModesTell.f 20 ((a.val : Nat) : Int) ((b.val : Nat) : Int) = some true := by decide +kernel

/-- A number as a mode. -/
def modeOf (a : Int) : Int := if a < 0 then 5 else if a > 5 then 5 else a
theorem of_eq (a : Int) : modes_Of.f a = some (modeOf a) := by unfold modes_Of.f modeOf; split <;> (try split) <;> rfl
theorem mode_eq (a : Int) : posteref10_mode.f a = some (modeOf a) := by unfold posteref10_mode.f modeOf; split <;> (try split) <;> rfl
theorem modeOf_range (a : Int) : 0 ≤ modeOf a ∧ modeOf a ≤ 5 := by unfold modeOf; split <;> (try split) <;> omega
theorem modeOf_idem (a : Int) : modeOf (modeOf a) = modeOf a := by have := modeOf_range a; generalize modeOf a = b at *; unfold modeOf; rw [if_neg (by omega), if_neg (by omega)]
theorem fits_mode (k : Nat) (a b : Int) : modes_Fits.f k a b = modes_Fits.f k (modeOf a) (modeOf b) := by unfold modes_Fits.f; simp only [of_eq, modeOf_idem]
theorem covers_mode (k : Nat) (a b : Int) : modes_Covers.f k a b = modes_Covers.f k (modeOf a) (modeOf b) := by unfold modes_Covers.f; simp only [of_eq, modeOf_idem]
theorem covers_mode2 (k : Nat) (a b : Int) : modes_Covers.f k a b = modes_Covers.f k a (modeOf b) := by unfold modes_Covers.f; simp only [of_eq, modeOf_idem]
theorem rfits_mode (a b : Int) : posteref10_Fits.f a b = posteref10_Fits.f (modeOf a) (modeOf b) := by unfold posteref10_Fits.f; simp only [mode_eq, modeOf_idem]
theorem rcovers_mode (a b : Int) : posteref10_Covers.f a b = posteref10_Covers.f (modeOf a) (modeOf b) := by unfold posteref10_Covers.f; simp only [mode_eq, modeOf_idem]
theorem rcovers_mode2 (a b : Int) : posteref10_Covers.f a b = posteref10_Covers.f a (modeOf b) := by unfold posteref10_Covers.f; simp only [mode_eq, modeOf_idem]
theorem above_mode (a : Int) : modes_Above.f a = modes_Above.f (modeOf a) := by unfold modes_Above.f; simp only [of_eq, modeOf_idem]
theorem rabove_mode (a : Int) : posteref10_Above.f a = posteref10_Above.f (modeOf a) := by unfold posteref10_Above.f; simp only [mode_eq, modeOf_idem]
theorem join_mode_l (a b : Int) : ∀ (k : Nat) (m : Int), modes_Join.l0 k a b m = modes_Join.l0 k (modeOf a) (modeOf b) m
  | 0, _ => rfl
  | k + 1, m => by simp only [modes_Join.l0]; rw [covers_mode2 k m a, covers_mode2 k m b, join_mode_l a b k]
theorem join_mode (k : Nat) (a b : Int) : modes_Join.f k a b = modes_Join.f k (modeOf a) (modeOf b) := join_mode_l a b k 0
theorem rjoin_mode_l (a b : Int) : ∀ (k : Nat) (m : Int), posteref10_Join.l0 k a b m = posteref10_Join.l0 k (modeOf a) (modeOf b) m
  | 0, _ => rfl
  | k + 1, m => by simp only [posteref10_Join.l0]; rw [rcovers_mode2 m a, rcovers_mode2 m b, rjoin_mode_l a b k]
theorem rjoin_mode (k : Nat) (a b : Int) : posteref10_Join.f k a b = posteref10_Join.f k (modeOf a) (modeOf b) := rjoin_mode_l a b k 0
theorem tell_mode (k : Nat) (a b : Int) : postelaw10_ModesTell.f k a b = postelaw10_ModesTell.f k (modeOf a) (modeOf b) := by
  unfold postelaw10_ModesTell.f
  rw [fits_mode k a b, rfits_mode a b, covers_mode k a b, rcovers_mode a b, join_mode k a b, rjoin_mode k a b, above_mode a, rabove_mode a]
theorem ModesTell : postelaw10_ModesTell.Pure := by
  intro a b _ _
  refine ⟨20, ?_⟩
  rw [tell_mode]
  have h1 := modeOf_range a
  have h2 := modeOf_range b
  have := tell_few ⟨(modeOf a).toNat, by omega⟩ ⟨(modeOf b).toNat, by omega⟩
  simp only [Int.toNat_of_nonneg h1.1, Int.toNat_of_nonneg h2.1] at this
  exact this
end Go.Proofs.Ytppcofcgdbflpaa.Pure
