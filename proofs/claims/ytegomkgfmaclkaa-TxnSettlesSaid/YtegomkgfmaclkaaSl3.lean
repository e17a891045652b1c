/-
  Slices, still more: the cells of one element.
-/
import Derived.Test.YtegomkgfmaclkaaSl2
namespace Go.Proofs.PosteMem
open Go Go.RowKit
theorem View.elems {α : Type} {w : World} {sz n : Nat} {v : Value} {L : List α} (f : α → List Value) (hf : ∀ x, (f x).length = sz) (h : View w sz v n (L.flatMap f)) (hs : 0 < sz) (hn : 0 < n) :
    ∃ b off cap, v = .slice (some ⟨b, off, none⟩) n cap ∧ n ≤ cap ∧ cap ≤ maxLen ∧ b < w.heap.size ∧ ∀ (k : Nat) (hk : k < L.length) (j : Nat) (u : Value), (f L[k])[j]? = some u → w.cell? ⟨b, off + (k * sz + j), none⟩ = some u := by
  obtain ⟨b, off, cap, e, h1, h2, h4, h3⟩ := h.at_ (Nat.mul_pos hn hs)
  refine ⟨b, off, cap, e, h1, h2, h4, fun k hk j u hu => h3 _ u ?_⟩
  have hj : j < sz := by
    have := (List.getElem?_eq_some_iff.1 hu).1
    rwa [hf] at this
  rw [flatMap_at f sz hf L k hk j hj]
  exact hu
theorem View.count {α : Type} {w : World} {sz n : Nat} {v : Value} {L : List α} (f : α → List Value) (hf : ∀ x, (f x).length = sz) (h : View w sz v n (L.flatMap f)) (hs : 0 < sz) : L.length = n := by
  have h1 := h.1
  rw [flatMap_len f sz hf L] at h1
  exact Nat.eq_of_mul_eq_mul_right hs h1
end Go.Proofs.PosteMem
