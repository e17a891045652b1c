/-
  'x & (2^k - 1)' is the rest by 2^k.
-/
import Derived.WalkKit
import Derived.Laws.Bits
import Derived.IntWalk
namespace Go.Proofs.PosteMem
open Go
/-- 'x & (2^k - 1)' of a whole number of 64 bits is its rest by 2^k. -/
theorem bits_mask (x : Int) (k : Nat) (hk : k < 63) : bits .and .i64 x ((2 ^ k - 1 : Nat) : Int) = x % ((2 ^ k : Nat) : Int) := by
  have hp : 0 < 2 ^ k := Nat.two_pow_pos k
  have hlt : 2 ^ k < 2 ^ 63 := Nat.pow_lt_pow_right (by decide) hk
  have e1 : (BitVec.ofInt 64 ((2 ^ k - 1 : Nat) : Int)).toNat = 2 ^ k - 1 := by
    rw [BitVec.ofInt_natCast, BitVec.toNat_ofNat]
    exact Nat.mod_eq_of_lt (by omega)
  have e2 : (BitVec.ofInt 64 x).toNat = (x % (2 ^ 64 : Nat)).toNat := by rw [BitVec.toNat_ofInt]
  have e3 : ((BitVec.ofInt 64 x &&& BitVec.ofInt 64 ((2 ^ k - 1 : Nat) : Int)).toNat : Int) = x % ((2 ^ k : Nat) : Int) := by
    rw [BitVec.toNat_and, e1, e2, Nat.and_two_pow_sub_one_eq_mod, Int.natCast_emod, Int.toNat_of_nonneg (Int.emod_nonneg _ (by decide))]
    refine Int.emod_emod_of_dvd x ?_
    exact Int.natCast_dvd_natCast.2 (Nat.pow_dvd_pow 2 (by omega))
  have h0 : 0 ≤ x % ((2 ^ k : Nat) : Int) := Int.emod_nonneg _ (by omega)
  have h1 : x % ((2 ^ k : Nat) : Int) < ((2 ^ k : Nat) : Int) := Int.emod_lt_of_pos _ (by omega)
  show IntKind.i64.wrap ((BitVec.ofInt 64 x &&& BitVec.ofInt 64 ((2 ^ k - 1 : Nat) : Int)).toNat : Int) = _
  rw [e3]
  exact IntWalk.i64_in _ (by omega)
theorem bits_mask_ex (x : Int) (k : Nat) (hk : k < 63) : ∃ m : Nat, m < 2 ^ k ∧ bits .and .i64 x ((2 ^ k - 1 : Nat) : Int) = (m : Int) ∧ (m : Int) = x % ((2 ^ k : Nat) : Int) := by
  have hp : 0 < 2 ^ k := Nat.two_pow_pos k
  have h0 : 0 ≤ x % ((2 ^ k : Nat) : Int) := Int.emod_nonneg _ (by omega)
  have h1 : x % ((2 ^ k : Nat) : Int) < ((2 ^ k : Nat) : Int) := Int.emod_lt_of_pos _ (by omega)
  refine ⟨(x % ((2 ^ k : Nat) : Int)).toNat, by omega, ?_, by omega⟩
  rw [bits_mask x k hk]
  omega
theorem and3 (x : Int) : ∃ m : Nat, m < 4 ∧ bits .and .i64 x 3 = (m : Int) := by
  obtain ⟨m, h1, h2, _⟩ := bits_mask_ex x 2 (by decide)
  exact ⟨m, h1, h2⟩
end Go.Proofs.PosteMem
