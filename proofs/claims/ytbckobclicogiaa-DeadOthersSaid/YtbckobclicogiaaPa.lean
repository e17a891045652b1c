/-
  DeadOthers: plain facts. What a freed queue's messages are, beside those of the queue.
-/
import Derived.Test.YtbckobclicogiaaNd
import Derived.Test.YtbckobclicogiaaQa
set_option linter.unusedVariables false
set_option linter.unusedSimpArgs false
namespace Go.Proofs.Ytbckobclicogiaa
open Go.RowKit Go.Proofs.PosteMem

/-- A turn of the loop at message i: k is the place in the new row, k' the next one. -/
inductive Turn (M N : List Msg) (id : Int) (i k : Nat) (k' : Nat) : Prop
  | other (hi : i < M.length) (hk : k < N.length) (he : N[k] = M[i]) (hn : M[i].id ≠ id) (h' : k' = k + 1)
  | turned (hi : i < M.length) (hk : k < N.length) (h1 : M[i].id = id) (h2 : N[k].id = id) (h' : k' = k + 1)
  | gone (hi : i < M.length) (hk : k < N.length) (h1 : M[i].id = id) (h2 : N[k].id ≠ id) (h' : k' = k)
  | last (hi : i < M.length) (hk : ¬ k < N.length) (h1 : M[i].id = id) (h' : k' = k)
structure Others (M N D E : List Msg) (id : Int) (f : Nat → Nat) : Prop where
  zero : f 0 = 0
  turn : ∀ i, i < M.length → Turn M N id i (f i) (f (i + 1))
  last : f M.length = N.length
  sum : N.length + E.length = M.length + D.length
  dead : ∀ i (h : i < D.length), ∃ h' : i < E.length, E[i] = D[i]

theorem idx_first {M : List Msg} {id : Int} {K : Nat} (hK : K < M.length) (hi : idxI (byId id) M = K) : M[K].id = id := by
  unfold idxI at hi
  split at hi
  · rename_i h1
    have e : M.findIdx (byId id) = K := by omega
    have := List.findIdx_getElem (w := h1)
    simp only [e] at this
    simpa [byId] using this
  · omega
theorem once_ne {M : List Msg} {K i : Nat} (ho : Once M) (hK : K < M.length) (hi : i < M.length) (hne : i ≠ K) : M[i].id ≠ M[K].id := by
  intro e
  have h1 := ho i hi
  have h2 := ho K hK
  rw [e, h2] at h1
  omega
theorem others_set {M D : List Msg} {id : Int} {K : Nat} (ho : Once M) (hK : K < M.length) (hid : M[K].id = id) (y : Msg) (hy : y.id = id) : Others M (M.set K y) D D id (fun i => i) := by
  refine ⟨rfl, fun i hi => ?_, by simp, by simp, fun i h => ⟨h, rfl⟩⟩
  by_cases e : i = K
  · subst e
    exact .turned hi (by simpa using hi) hid (by simp [hy]) rfl
  · refine .other hi (by simpa using hi) (by rw [List.getElem_set_ne (Ne.symm e)]) ?_ rfl
    rw [← hid]
    exact once_ne ho hK hi e
theorem others_erase {M D : List Msg} {id : Int} {K : Nat} (ho : Once M) (hK : K < M.length) (hid : M[K].id = id) (y : Msg) : Others M (M.eraseIdx K) D (D ++ [y]) id (fun i => if i ≤ K then i else i - 1) := by
  have hl : (M.eraseIdx K).length = M.length - 1 := by rw [List.length_eraseIdx, if_pos hK]
  refine ⟨by simp, fun i hi => ?_, ?_, ?_, fun i h => ⟨by simp; omega, by rw [List.getElem_append_left h]⟩⟩
  · rcases Nat.lt_trichotomy i K with h | h | h
    · simp only [if_pos (show i ≤ K by omega), if_pos (show i + 1 ≤ K by omega)]
      refine .other hi (by rw [hl]; omega) (by rw [List.getElem_eraseIdx_of_lt _ h]) ?_ rfl
      rw [← hid]
      exact once_ne ho hK hi (by omega)
    · subst h
      simp only [if_pos (Nat.le_refl i), if_neg (show ¬ i + 1 ≤ i by omega), Nat.add_sub_cancel]
      by_cases hl2 : i < (M.eraseIdx i).length
      · refine .gone hi hl2 hid ?_ rfl
        rw [List.getElem_eraseIdx_of_ge _ (Nat.le_refl i), ← hid]
        exact once_ne ho hK (by omega) (by omega)
      · exact .last hi hl2 hid rfl
    · simp only [if_neg (show ¬ i ≤ K by omega), if_neg (show ¬ i + 1 ≤ K by omega)]
      refine .other hi (by rw [hl]; omega) ?_ ?_ (by omega)
      · rw [List.getElem_eraseIdx_of_ge _ (by omega)]
        simp only [show i - 1 + 1 = i by omega]
      · rw [← hid]
        exact once_ne ho hK hi (by omega)
  · rw [hl]
    by_cases h : M.length ≤ K
    · omega
    · rw [if_neg h]
  · rw [hl, List.length_append, List.length_singleton]
    omega
theorem freeR_ok {o : Ob} {id : Int} {tried : Bool} (ho : Once o.msgs) : freeR o id tried = (o, false) ∨ ∃ x : Ob, freeR o id tried = (x, true) ∧ ∃ f, Others o.msgs x.msgs o.dead x.dead id f := by
  rcases place o.msgs id with hi | ⟨k, hk, hi⟩
  · exact .inl (freeR_none hi)
  · rw [freeR_at hk hi]
    have hid := idx_first hk hi
    unfold freeAt
    split
    · exact .inl rfl
    · split
      · exact .inr ⟨_, rfl, _, others_set ho hk hid _ hid⟩
      · split
        · exact .inr ⟨_, rfl, _, others_erase ho hk hid _⟩
        · exact .inr ⟨_, rfl, _, others_set ho hk hid _ (by unfold triedM; exact hid)⟩
end Go.Proofs.Ytbckobclicogiaa
