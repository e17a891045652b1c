-- Plain facts: the lexical order of byte lists as a number (cmpL).
import Derived.Laws.Strings
namespace Go.Proofs.PosteOrd
open Go

/-- The order of two texts' bytes, as a number. -/
def cmpL (a b : List UInt8) : Int := if Op.bytesLess a b = true then -1 else if Op.bytesLess b a = true then 1 else 0

theorem less_irrefl : ∀ a : List UInt8, Op.bytesLess a a = false
  | [] => rfl
  | c :: a => by simp [Op.bytesLess, less_irrefl a]

theorem less_trans : ∀ a b c : List UInt8, Op.bytesLess a b = true → Op.bytesLess b c = true → Op.bytesLess a c = true
  | _, [], _, h, _ => by simp [Op.bytesLess] at h
  | _, _ :: _, [], _, h => by simp [Op.bytesLess] at h
  | [], _ :: _, _ :: _, _, _ => rfl
  | x :: a, y :: b, z :: c, h, k => by
    simp only [Op.bytesLess, Bool.or_eq_true, Bool.and_eq_true, decide_eq_true_eq, beq_iff_eq] at *
    rcases h with h | ⟨rfl, h⟩
    · rcases k with k | ⟨rfl, k⟩
      · exact .inl (UInt8.lt_trans h k)
      · exact .inl h
    · rcases k with k | ⟨rfl, k⟩
      · exact .inl k
      · exact .inr ⟨rfl, less_trans a b c h k⟩

theorem less_total : ∀ a b : List UInt8, Op.bytesLess a b = false → Op.bytesLess b a = false → a = b
  | [], [], _, _ => rfl
  | [], _ :: _, h, _ => by simp [Op.bytesLess] at h
  | _ :: _, [], _, h => by simp [Op.bytesLess] at h
  | x :: a, y :: b, h, k => by
    simp only [Op.bytesLess, Bool.or_eq_false_iff, Bool.and_eq_false_iff, decide_eq_false_iff_not, beq_eq_false_iff_ne] at *
    have e : x = y := by
      have h1 := h.1; have h2 := k.1
      rw [UInt8.lt_iff_toNat_lt] at h1 h2
      exact UInt8.toNat_inj.1 (by omega)
    subst e
    rw [less_total a b (by rcases h.2 with h | h; exact absurd rfl h; exact h) (by rcases k.2 with h | h; exact absurd rfl h; exact h)]

theorem less_asymm (a b : List UInt8) (h : Op.bytesLess a b = true) : Op.bytesLess b a = false := by
  cases k : Op.bytesLess b a with
  | false => rfl
  | true => have := less_trans a b a h k; rw [less_irrefl] at this; cases this

theorem cmpL_lt {a b : List UInt8} : cmpL a b = -1 ↔ Op.bytesLess a b = true := by unfold cmpL; split <;> simp_all; split <;> simp_all
theorem cmpL_neg {a b : List UInt8} : cmpL a b < 0 ↔ Op.bytesLess a b = true := by unfold cmpL; split <;> simp_all; split <;> simp_all
theorem cmpL_nonneg {a b : List UInt8} : 0 ≤ cmpL a b ↔ Op.bytesLess a b = false := by unfold cmpL; split <;> simp_all; split <;> simp_all
theorem cmpL_swap (a b : List UInt8) : cmpL b a = - cmpL a b := by
  unfold cmpL
  cases h : Op.bytesLess a b <;> cases k : Op.bytesLess b a <;> simp
  have := less_asymm _ _ h; simp_all
theorem cmpL_range (a b : List UInt8) : -1 ≤ cmpL a b ∧ cmpL a b ≤ 1 := by unfold cmpL; split <;> (try split) <;> omega
theorem cmpL_self (a : List UInt8) : cmpL a a = 0 := by simp [cmpL, less_irrefl]
theorem cmpL_eq {a b : List UInt8} : cmpL a b = 0 ↔ a = b := by
  constructor
  · intro h
    unfold cmpL at h
    refine less_total a b ?_ ?_ <;> (cases h1 : Op.bytesLess a b <;> cases h2 : Op.bytesLess b a <;> simp_all)
  · rintro rfl; exact cmpL_self a
theorem cmpL_pos {a b : List UInt8} : 0 < cmpL a b ↔ Op.bytesLess b a = true := by
  have := cmpL_swap a b
  rw [← cmpL_neg]; omega
theorem cmpL_le_trans {a b c : List UInt8} (h : cmpL a b ≤ 0) (k : cmpL b c ≤ 0) : cmpL a c ≤ 0 := by
  have h1 : ¬ 0 < cmpL a b := by omega
  have k1 : ¬ 0 < cmpL b c := by omega
  rw [cmpL_pos] at h1 k1
  have : ¬ 0 < cmpL a c := by
    rw [cmpL_pos]
    intro hc
    by_cases e : Op.bytesLess a b = true
    · exact k1 (less_trans _ _ _ hc e)
    · have := less_total a b (by simpa using e) (by simpa using h1)
      subst this
      exact k1 hc
  omega
theorem cmpL_lt_trans {a b c : List UInt8} (h : cmpL a b < 0) (k : cmpL b c < 0) : cmpL a c < 0 := by
  rw [cmpL_neg] at *
  exact less_trans _ _ _ h k
theorem cmpL_lt_of_lt_le {a b c : List UInt8} (h : cmpL a b < 0) (k : cmpL b c ≤ 0) : cmpL a c < 0 := by
  have h1 := cmpL_le_trans (Int.le_of_lt h) k
  by_cases e : cmpL a c = 0
  · rw [cmpL_eq] at e; subst e; have := cmpL_swap a b; omega
  · omega
theorem cmpL_lt_of_le_lt {a b c : List UInt8} (h : cmpL a b ≤ 0) (k : cmpL b c < 0) : cmpL a c < 0 := by
  have h1 := cmpL_le_trans h (Int.le_of_lt k)
  by_cases e : cmpL a c = 0
  · rw [cmpL_eq] at e; subst e; have := cmpL_swap a b; omega
  · omega
/-- Nothing stands between a text and the text with a byte 0 behind it. -/
theorem less_snoc0 : ∀ a : List UInt8, Op.bytesLess a (a ++ [0]) = true
  | [] => rfl
  | c :: a => by simp [Op.bytesLess, less_snoc0 a]
theorem less_snoc0_iff : ∀ a b : List UInt8, Op.bytesLess b (a ++ [0]) = true ↔ (Op.bytesLess b a = true ∨ b = a)
  | [], [] => by decide
  | [], y :: b => by
    have h : ¬ y < 0 := by rw [UInt8.lt_iff_toNat_lt]; simp
    simp only [List.nil_append, Op.bytesLess, decide_eq_false h, Bool.false_or]
    constructor
    · intro h
      cases b <;> simp at h
    · rintro (h | h) <;> cases h
  | x :: a, [] => by simp [Op.bytesLess]
  | x :: a, y :: b => by
    have ih := less_snoc0_iff a b
    simp only [List.cons_append, Op.bytesLess, Bool.or_eq_true, Bool.and_eq_true, decide_eq_true_eq, beq_iff_eq, ih, List.cons.injEq]
    constructor
    · rintro (h | ⟨rfl, h | rfl⟩)
      · exact .inl (.inl h)
      · exact .inl (.inr ⟨rfl, h⟩)
      · exact .inr ⟨rfl, rfl⟩
    · rintro ((h | ⟨rfl, h⟩) | ⟨rfl, rfl⟩)
      · exact .inl h
      · exact .inr ⟨rfl, .inl h⟩
      · exact .inr ⟨rfl, .inr rfl⟩
theorem cmpL_next_iff {a b : List UInt8} : cmpL b (a ++ [0]) < 0 ↔ cmpL b a ≤ 0 := by
  rw [cmpL_neg, less_snoc0_iff]
  constructor
  · rintro (h | rfl)
    · have := cmpL_neg.2 h; omega
    · rw [cmpL_self]; exact Int.le_refl _
  · intro h
    by_cases e : cmpL b a = 0
    · exact .inr (cmpL_eq.1 e)
    · exact .inl (cmpL_neg.1 (by omega))
/-- Two texts with the same beginning stand as what is behind it. -/
theorem cmpL_append (p a b : List UInt8) : cmpL (p ++ a) (p ++ b) = cmpL a b := by
  have h : ∀ (p a b : List UInt8), Op.bytesLess (p ++ a) (p ++ b) = Op.bytesLess a b := by
    intro p
    induction p with
    | nil => intro a b; rfl
    | cons c p ih => intro a b; simp [Op.bytesLess, ih]
  simp [cmpL, h]
theorem cmpL_cons_lt {x y : UInt8} (h : x.toNat < y.toNat) (a b : List UInt8) : cmpL (x :: a) (y :: b) = -1 := by
  rw [cmpL_lt]
  simp only [Op.bytesLess, Bool.or_eq_true, decide_eq_true_eq]
  exact .inl (UInt8.lt_iff_toNat_lt.2 h)
theorem cmpL_cons_gt {x y : UInt8} (h : y.toNat < x.toNat) (a b : List UInt8) : cmpL (x :: a) (y :: b) = 1 := by
  have := cmpL_swap (y :: b) (x :: a)
  rw [cmpL_cons_lt h] at this
  omega
theorem cmpL_nil_cons (y : UInt8) (b : List UInt8) : cmpL [] (y :: b) = -1 := by rw [cmpL_lt]; rfl
theorem cmpL_cons_nil (x : UInt8) (a : List UInt8) : cmpL (x :: a) [] = 1 := by
  have := cmpL_swap [] (x :: a)
  rw [cmpL_nil_cons] at this
  omega
/-- At the first byte where two texts part. -/
theorem cmpL_at {a b : List UInt8} {k : Nat} (hp : a.take k = b.take k) (ha : k < a.length) (hb : k < b.length) :
    (a[k].toNat < b[k].toNat → cmpL a b = -1) ∧ (b[k].toNat < a[k].toNat → cmpL a b = 1) := by
  have ea : a = a.take k ++ a[k] :: a.drop (k + 1) := by rw [← List.drop_eq_getElem_cons ha, List.take_append_drop]
  have eb : b = b.take k ++ b[k] :: b.drop (k + 1) := by rw [← List.drop_eq_getElem_cons hb, List.take_append_drop]
  refine ⟨fun h => ?_, fun h => ?_⟩
  · calc cmpL a b = cmpL (a.take k ++ a[k] :: a.drop (k + 1)) (a.take k ++ b[k] :: b.drop (k + 1)) := by rw [← ea, hp, ← eb]
      _ = -1 := by rw [cmpL_append, cmpL_cons_lt h]
  · calc cmpL a b = cmpL (a.take k ++ a[k] :: a.drop (k + 1)) (a.take k ++ b[k] :: b.drop (k + 1)) := by rw [← ea, hp, ← eb]
      _ = 1 := by rw [cmpL_append, cmpL_cons_gt h]
theorem cmpL_end {a b : List UInt8} {k : Nat} (hp : a.take k = b.take k) (hk : k = a.length ∨ k = b.length) (ha : k ≤ a.length) (hb : k ≤ b.length) :
    (a.length < b.length → cmpL a b = -1) ∧ (b.length < a.length → cmpL a b = 1) ∧ (a.length = b.length → cmpL a b = 0) := by
  have ea : a = a.take k ++ a.drop k := (List.take_append_drop k a).symm
  have eb : b = a.take k ++ b.drop k := by rw [hp]; exact (List.take_append_drop k b).symm
  refine ⟨fun h => ?_, fun h => ?_, fun h => ?_⟩
  · have h1 : a.drop k = [] := List.drop_eq_nil_of_le (by omega)
    have h2 : k < b.length := by omega
    rw [ea, eb, cmpL_append, h1, List.drop_eq_getElem_cons h2, cmpL_nil_cons]
  · have h1 : b.drop k = [] := List.drop_eq_nil_of_le (by omega)
    have h2 : k < a.length := by omega
    rw [ea, eb, cmpL_append, h1, List.drop_eq_getElem_cons h2, cmpL_cons_nil]
  · rw [cmpL_eq]
    have h1 : a.drop k = [] := List.drop_eq_nil_of_le (by omega)
    have h2 : b.drop k = [] := List.drop_eq_nil_of_le (by omega)
    rw [ea, eb, h1, h2]
theorem take_succ_eq {a b : List UInt8} {k : Nat} (hp : a.take k = b.take k) (ha : k < a.length) (hb : k < b.length) (h : a[k] = b[k]) : a.take (k + 1) = b.take (k + 1) := by
  rw [List.take_succ_eq_append_getElem ha, List.take_succ_eq_append_getElem hb, hp, h]
end Go.Proofs.PosteOrd
