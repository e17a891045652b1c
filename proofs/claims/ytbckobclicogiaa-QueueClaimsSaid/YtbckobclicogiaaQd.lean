/-
  QueueClaims: the law's own messages, and what is claimed, least and matched among them.
-/
import Derived.Test.YtbckobclicogiaaQc
set_option linter.unusedVariables false
namespace Go.Proofs.Ytbckobclicogiaa
open Go.RowKit Go.Proofs.PosteMem

/-- The one-letter text at k. -/
def abcAt (k : Nat) : ByteArray := (⟨#[97, 98, 99]⟩ : ByteArray).extract k (k + 1)
theorem abcAt_eq : ∀ j, j < 3 → ∀ c, c < 3 → ((abcAt j).toList == (abcAt c).toList) = decide (j = c) := by
  intro j hj c hc
  rcases (show j = 0 ∨ j = 1 ∨ j = 2 by omega) with rfl | rfl | rfl <;> rcases (show c = 0 ∨ c = 1 ∨ c = 2 by omega) with rfl | rfl | rfl <;> (simp only [ByteArray.toList_eq]; decide)
def qm (c : Nat → Bool) (j : Nat) : Msg := ⟨(j : Int) + 1, 0, 0, c j, abcAt (j % 3), ⟨#[]⟩⟩
def qL (n : Nat) (c : Nat → Bool) : List Msg := (List.range n).map (qm c)
theorem qL_len (n : Nat) (c : Nat → Bool) : (qL n c).length = n := by simp [qL]
theorem qL_at (n : Nat) (c : Nat → Bool) (j : Nat) (h : j < (qL n c).length) : (qL n c)[j] = qm c j := by simp [qL]
theorem qL_snoc (n : Nat) (c : Nat → Bool) : qL (n + 1) c = qL n c ++ [qm c n] := by simp [qL, List.range_succ]
theorem qL_find (n : Nat) (c : Nat → Bool) (i : Nat) (h : i < n) : idxI (byId ((i : Int) + 1)) (qL n c) = i := by
  refine idxI_at (by rw [qL_len]; exact h) ?_ (fun j hj hji => ?_)
  · rw [qL_at]; simp [byId, qm]
  · rw [qL_at]; simp [byId, qm]; omega
def upto (c : Nat → Bool) (i : Nat) (b : Bool) : Nat → Bool := fun j => if j = i then b else c j
theorem qL_set (n : Nat) (c : Nat → Bool) (i : Nat) (h : i < n) (b : Bool) : (qL n c).set i ((qm c i).claim b) = qL n (upto c i b) := by
  refine List.ext_getElem (by rw [List.length_set, qL_len, qL_len]) fun j h1 h2 => ?_
  rw [List.getElem_set, qL_at, qL_at]
  unfold upto qm Msg.claim
  by_cases e : i = j
  · subst e; simp
  · rw [if_neg e]
    have : ¬ j = i := fun h => e h.symm
    simp [this]
theorem q_claim {n : Nat} {c : Nat → Bool} {i : Nat} (h : i < n) (b : Bool) (hc : c i = !b) : Claimed (qL n c) ((i : Int) + 1) b (qL n (upto c i b)) true := by
  have h1 : i < (qL n c).length := by rw [qL_len]; exact h
  have h2 := Claimed.done (on := b) i h1 (qL_find n c i h) (by rw [qL_at]; exact hc)
  rw [qL_at, qL_set n c i h b] at h2
  exact h2
theorem q_again {n : Nat} {c : Nat → Bool} {i : Nat} (h : i < n) (b : Bool) (hc : c i = b) : Claimed (qL n c) ((i : Int) + 1) b (qL n c) false :=
  Claimed.same i (by rw [qL_len]; exact h) (qL_find n c i h) (by rw [qL_at]; exact hc)

/-- The first of which p holds, from i on; -1: none. -/
inductive Fst (p : Nat → Bool) (i n : Nat) : Int → Prop where
  | at (k : Nat) (h1 : i ≤ k) (h2 : k < n) (h : p k = true) (hn : ∀ j, i ≤ j → j < k → p j = false) : Fst p i n k
  | none (hn : ∀ j, i ≤ j → j < n → p j = false) : Fst p i n (-1)
theorem Fst.start (p : Nat → Bool) (n : Nat) : Fst p n n (-1) := .none fun j h1 h2 => by omega
theorem Fst.pass {p : Nat → Bool} {i n : Nat} {r : Int} (h : Fst p (i + 1) n r) (hp : p i = false) : Fst p i n r := by
  have hs : ∀ j, i ≤ j → (i + 1 ≤ j → p j = false) → p j = false := fun j hj h => by
    rcases Nat.lt_or_ge i j with h1 | h1
    · exact h h1
    · obtain rfl : i = j := by omega
      exact hp
  cases h with
  | «at» k h1 h2 h hn => exact .at k (by omega) h2 h fun j hj hk => hs j hj fun h => hn j h hk
  | none hn => exact .none fun j hj hk => hs j hj fun h => hn j h hk
theorem Fst.hit {p : Nat → Bool} {i n : Nat} (hi : i < n) (hp : p i = true) : Fst p i n i := .at i (Nat.le_refl _) hi hp fun j h1 h2 => by omega
theorem Fst.idx {p : Nat → Bool} {n : Nat} {c : Nat → Bool} {r : Int} {q : Msg → Bool} (h : Fst p 0 n r) (hq : ∀ j, j < n → q (qm c j) = p j) : idxI q (qL n c) = r := by
  cases h with
  | «at» k h1 h2 h hn =>
    refine idxI_at (by rw [qL_len]; exact h2) (by rw [qL_at, hq k h2]; exact h) fun j hj hjk => ?_
    rw [qL_at, hq j (by omega)]
    exact hn j (by omega) hjk
  | none hn =>
    refine idxI_none fun j hj => ?_
    rw [qL_at, hq j (by rw [qL_len] at hj; exact hj)]
    exact hn j (by omega) (by rw [qL_len] at hj; exact hj)
/-- What is claimed behind i. -/
def above (l : List Bool) (i : Nat) : Nat → Bool := fun j => if i ≤ j then l.getD j false else false
theorem above_pass {l : List Bool} {i : Nat} (h : l.getD i false = false) : above l i = above l (i + 1) := by
  funext j
  unfold above
  by_cases e : i ≤ j
  · rw [if_pos e]
    by_cases e2 : i + 1 ≤ j
    · rw [if_pos e2]
    · obtain rfl : i = j := by omega
      rw [if_neg e2, h]
  · rw [if_neg e, if_neg (by omega)]
theorem above_hit {l : List Bool} {i : Nat} (h : l.getD i false = true) : upto (above l (i + 1)) i true = above l i := by
  funext j
  show (if j = i then true else if i + 1 ≤ j then l.getD j false else false) = if i ≤ j then l.getD j false else false
  by_cases e : j = i
  · subst e; simp only [if_true, Nat.le_refl]; exact h.symm
  · rw [if_neg e]
    by_cases e2 : i + 1 ≤ j
    · rw [if_pos e2, if_pos (by omega)]
    · rw [if_neg e2, if_neg (by omega)]
theorem above_none (l : List Bool) (i : Nat) : above l (i + 1) i = false := by unfold above; rw [if_neg (by omega)]
def pLeast (l : List Bool) (j : Nat) : Bool := !(l.getD j false)
def pMatch (l : List Bool) (c : Nat) (j : Nat) : Bool := !(l.getD j false) && decide (j % 3 = c)
theorem least_of {l : List Bool} {n : Nat} {r : Int} (h : Fst (pLeast l) 0 n r) : idxI unclaimed (qL n (above l 0)) = r := h.idx fun j hj => by unfold unclaimed pLeast qm above; simp
theorem match_of {l : List Bool} {n c : Nat} {r : Int} (hc : c < 3) (h : Fst (pMatch l c) 0 n r) : idxI (mtch (abcAt c)) (qL n (above l 0)) = r := h.idx fun j hj => by
  unfold mtch pMatch qm above
  simp only [Nat.zero_le, if_true]
  rw [abcAt_eq _ (Nat.mod_lt _ (by decide)) _ hc]
/-- Behind the last claim: the first one is free. -/
theorem first_free {n : Nat} {c : Nat → Bool} (hn : 0 < n) (h : c 0 = false) : idxI unclaimed (qL n c) = 0 :=
  Fst.idx (p := fun j => !(c j)) (r := ((0 : Nat) : Int)) (.hit hn (by simp [h])) fun j hj => rfl
end Go.Proofs.Ytbckobclicogiaa
