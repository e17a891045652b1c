/-
  Plain facts: bytes in range, what numbers' bytes spell, heads of records and roots.
-/
import Derived.Test.YtbfcaapompkjhaaGa
import Derived.Lib.EndianBits
set_option linter.unusedVariables false
namespace Go.Proofs.Ytbfcaapompkjhaa
open Go.RowKit Go.Proofs.PosteMem

/-- Bytes. -/
def byteL (bs : List Int) : Prop := ∀ x ∈ bs, 0 ≤ x ∧ x < 256
theorem byteL.take {bs : List Int} (h : byteL bs) (n : Nat) : byteL (bs.take n) := fun x hx => h x (List.mem_of_mem_take hx)
theorem byteL.drop {bs : List Int} (h : byteL bs) (n : Nat) : byteL (bs.drop n) := fun x hx => h x (List.mem_of_mem_drop hx)
theorem byteL.app {a b : List Int} (h : byteL a) (k : byteL b) : byteL (a ++ b) := fun x hx => (List.mem_append.1 hx).elim (h x) (k x)
theorem byteL.zeros (n : Nat) : byteL (List.replicate n 0) := fun x hx => by rw [List.eq_of_mem_replicate hx]; omega
theorem byteL.le (n : Int) (k : Nat) : byteL (le n k) := fun x hx => by
  unfold Go.Proofs.Ytbfcaapompkjhaa.le at hx
  obtain ⟨i, _, rfl⟩ := List.mem_map.1 hx
  unfold bt
  omega
theorem byteL.str (s : ByteArray) : byteL (strL s) := fun x hx => by
  unfold strL at hx
  obtain ⟨b, _, rfl⟩ := List.mem_map.1 hx
  have := b.toNat_lt
  omega
theorem byteL.fill {b : List Int} (h : byteL b) : byteL (fillB b) := h.app (.zeros _)
theorem byteL.getD {bs : List Int} (h : byteL bs) (k : Nat) : 0 ≤ bs.getD k 0 ∧ bs.getD k 0 < 256 := by
  rw [List.getD_eq_getElem?_getD]
  rcases Nat.lt_or_ge k bs.length with h1 | h1
  · rw [List.getElem?_eq_getElem h1]; exact h _ (List.getElem_mem h1)
  · rw [List.getElem?_eq_none h1]; decide

/-- What k bytes spell, as a sum. -/
def val (bs : List Int) : Nat → Int
  | 0 => 0
  | k + 1 => val bs k + bs.getD k 0 * 2 ^ (8 * k)
theorem val_range {bs : List Int} (h : byteL bs) : ∀ k, 0 ≤ val bs k ∧ val bs k < 2 ^ (8 * k)
  | 0 => by simp [val]
  | k + 1 => by
    obtain ⟨h1, h2⟩ := val_range h k
    obtain ⟨h3, h4⟩ := h.getD k
    have hp : (0 : Int) < 2 ^ (8 * k) := Int.pow_pos (by decide)
    have e : (2 : Int) ^ (8 * (k + 1)) = 256 * 2 ^ (8 * k) := by rw [Nat.mul_add, Int.pow_add]; omega
    unfold val
    rw [e]
    have h5 : 0 ≤ bs.getD k 0 * 2 ^ (8 * k) := Int.mul_nonneg h3 (by omega)
    have h6 : bs.getD k 0 * 2 ^ (8 * k) ≤ 255 * 2 ^ (8 * k) := Int.mul_le_mul_of_nonneg_right (by omega) (by omega)
    omega
theorem dec_val {bs : List Int} (h : byteL bs) : ∀ k, k ≤ 8 → dec bs k = val bs k
  | 0, _ => rfl
  | k + 1, hk => by
    obtain ⟨h1, h2⟩ := val_range h k
    obtain ⟨h3, h4⟩ := h.getD k
    obtain ⟨h5, h6⟩ := val_range h (k + 1)
    unfold val at h5 h6 ⊢
    unfold dec
    rw [dec_val h k (by omega), wraps_u64 (bs.getD k 0) h3 (by omega)]
    have hp : (0 : Int) < 2 ^ (8 * k) := Int.pow_pos (by decide)
    have hx0 : 0 ≤ bs.getD k 0 * 2 ^ (8 * k) := Int.mul_nonneg h3 (by omega)
    have hle : (2 : Int) ^ (8 * (k + 1)) ≤ 2 ^ 64 := by
      have : (2 : Nat) ^ (8 * (k + 1)) ≤ 2 ^ 64 := Nat.pow_le_pow_right (by decide) (by omega)
      exact_mod_cast this
    have hle2 : (2 : Int) ^ (8 * k) ≤ 2 ^ 64 := by
      have : (2 : Nat) ^ (8 * k) ≤ 2 ^ 64 := Nat.pow_le_pow_right (by decide) (by omega)
      exact_mod_cast this
    rw [wraps_u64 _ hx0 (by omega)]
    exact bits_join_low .u64 64 (by decide) wraps_u64 (8 * k) _ _ h1 h2 (by omega) hx0 (Int.mul_emod_left _ _) (by omega)
theorem le_getD (n : Int) {k i : Nat} (h : i < k) : (le n k).getD i 0 = bt n i := by simp [le, List.getD_eq_getElem?_getD, h]
theorem val_le (n : Nat) {K : Nat} : ∀ k, k ≤ K → val (le n K) k = ((n % 2 ^ (8 * k) : Nat) : Int)
  | 0, _ => by simp [val, Nat.mod_one]
  | k + 1, hk => by
    unfold val
    rw [val_le n k (by omega), le_getD _ (by omega)]
    unfold bt
    have e1 : ((n : Int) / 2 ^ (8 * k) % 256) = ((n / 2 ^ (8 * k) % 256 : Nat) : Int) := by rw [Int.natCast_emod, Int.natCast_ediv, Int.natCast_pow]; rfl
    have e2 : (2 : Nat) ^ (8 * (k + 1)) = 2 ^ (8 * k) * 256 := by rw [Nat.mul_add, Nat.pow_add]
    rw [e1, e2, Nat.mod_mul, Int.natCast_add, Int.natCast_mul, Int.natCast_pow, Int.mul_comm (((2 : Nat) : Int) ^ (8 * k))]
    rfl
theorem dec_le (n : Int) (h0 : 0 ≤ n) (h1 : n < 18446744073709551616) : dec (le n 8) 8 = n := by
  obtain ⟨m, rfl⟩ := Int.eq_ofNat_of_zero_le h0
  rw [dec_val (.le _ _) 8 (by decide), val_le m 8 (by decide), Nat.mod_eq_of_lt (by omega)]
theorem dec_le2 (n : Nat) (h1 : n < 65536) : dec (le n 2) 2 = n := by
  rw [dec_val (.le _ _) 2 (by decide), val_le n 2 (by decide), Nat.mod_eq_of_lt (by omega)]
theorem dec_take (bs : List Int) (k n : Nat) (h : k ≤ n) : dec (bs.take n) k = dec bs k := by
  induction k with
  | zero => rfl
  | succ k ih =>
    unfold dec
    rw [ih (by omega)]
    congr 4
    rw [List.getD_eq_getElem?_getD, List.getD_eq_getElem?_getD, List.getElem?_take_of_lt (by omega)]
/-- A reader in which bytes a stand ahead. -/
theorem rnum_app (a b : List Int) {n : Nat} (h : a.length = n) : rnum (some (a ++ b)) n = dec a n := by
  unfold rnum rtake
  simp only
  rw [if_neg (by rw [List.length_append]; omega)]
  simp only
  rw [List.take_left' h, h]
theorem rtake_app (a b : List Int) {n : Nat} (h : a.length = n) : (rtake (some (a ++ b)) n).2 = some b := by
  unfold rtake
  simp only
  rw [if_neg (by rw [List.length_append]; omega)]
  simp only
  rw [List.drop_left' h]
theorem rnum_range {bs : List Int} (h : byteL bs) : 0 ≤ rnum (some bs) 2 ∧ rnum (some bs) 2 < 65536 := by
  unfold rnum rtake
  by_cases h2 : bs.length < 2
  · simp only [if_pos h2]; omega
  · have hl : (bs.take 2).length = 2 := by rw [List.length_take]; omega
    simp only [if_neg h2]
    rw [hl, dec_val (h.take 2) 2 (by decide)]
    exact val_range (h.take 2) 2
theorem rtext_app (s : ByteArray) (b : List Int) (h : s.size ≤ 1000) : rtext (some (le s.size 2 ++ strL s ++ b)) = some b := by
  unfold rtext
  rw [List.append_assoc, rnum_app _ _ (le_len _ _), rtake_app _ _ (le_len _ _), dec_le2 _ (by omega), Int.toNat_natCast, rtake_app _ _ (strL_len s)]
/-- A number of a machine word, through its bytes. -/
theorem word_back (n : Int) (h0 : -9223372036854775808 ≤ n) (h1 : n < 9223372036854775808) : wrap64 (dec (le (IntKind.u64.wrap n) 8) 8) = n := by
  rw [dec_le _ (by rw [IntKind.wrap_u64]; omega) (by rw [IntKind.wrap_u64]; omega), IntKind.wrap_u64]
  unfold wrap64
  omega
end Go.Proofs.Ytbfcaapompkjhaa
