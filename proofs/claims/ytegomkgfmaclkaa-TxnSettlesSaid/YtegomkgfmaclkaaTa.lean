/-
  A tree, in plain Lean: parts of one height, what is put in and cut, and that rows stay in order and parts stay wide.
-/
import Derived.Test.YtegomkgfmaclkaaNq
set_option linter.unusedVariables false
namespace Go.Proofs.Ytegomkgfmaclkaa
open Go.RowKit Go.Proofs.PosteOrd Go.Proofs.PosteMem

/-! ### rows in order -/
def lt (a b : ByteArray) : Prop := cmpL a.toList b.toList < 0
theorem lt_irrefl (a : ByteArray) : ¬ lt a a := by unfold lt; rw [cmpL_self]; omega
theorem lt_trans {a b c : ByteArray} (h : lt a b) (k : lt b c) : lt a c := cmpL_lt_trans h k
theorem lt_asymm {a b : ByteArray} (h : lt a b) : ¬ lt b a := fun k => lt_irrefl a (lt_trans h k)
instance (a b : ByteArray) : Decidable (lt a b) := by unfold lt; infer_instance
theorem lt_of_le_lt {a b c : ByteArray} (h : ¬ lt b a) (k : lt b c) : lt a c := by
  refine cmpL_lt_of_le_lt (b := b.toList) ?_ k
  unfold lt at h
  rw [cmpL_swap]
  omega
theorem lt_of_lt_le {a b c : ByteArray} (h : lt a b) (k : ¬ lt c b) : lt a c := by
  refine cmpL_lt_of_lt_le h ?_
  unfold lt at k
  rw [cmpL_swap]
  omega
abbrev Srt (L : List Row) : Prop := L.Pairwise fun a b => lt a.key b.key
/-- The first place whose key is not ahead. -/
def pos (L : List Row) (key : ByteArray) : Nat := (L.takeWhile fun r => decide (lt r.key key)).length
def hit (L : List Row) (key : ByteArray) : Bool := ((L.dropWhile fun r => decide (lt r.key key)).head?.map fun r => decide (cmpL r.key.toList key.toList = 0)).getD false
theorem pos_nil (key : ByteArray) : pos [] key = 0 := rfl
theorem hit_nil (key : ByteArray) : hit [] key = false := rfl
theorem pos_cons (x : Row) (L : List Row) (key : ByteArray) : pos (x :: L) key = if lt x.key key then pos L key + 1 else 0 := by
  unfold pos
  rw [List.takeWhile_cons]
  by_cases h : lt x.key key
  · simp [h]
  · simp [h]
theorem hit_cons (x : Row) (L : List Row) (key : ByteArray) : hit (x :: L) key = if lt x.key key then hit L key else decide (cmpL x.key.toList key.toList = 0) := by
  unfold hit
  rw [List.dropWhile_cons]
  by_cases h : lt x.key key
  · simp [h]
  · simp [h]
theorem pos_le (L : List Row) (key : ByteArray) : pos L key ≤ L.length := by
  induction L with
  | nil => exact Nat.le_refl _
  | cons x L ih => rw [pos_cons]; split <;> simp; omega
theorem found_at (L : List Row) (key : ByteArray) : FoundAt L key (pos L key) (hit L key) := by
  induction L with
  | nil => exact ⟨Nat.zero_le _, fun j hj => absurd hj (Nat.not_lt_zero _), fun hj => absurd hj (Nat.not_lt_zero _), by rw [hit_nil]; exact ⟨fun h => (by cases h), fun ⟨h, _⟩ => absurd h (Nat.not_lt_zero _)⟩⟩
  | cons x L ih =>
    rw [pos_cons, hit_cons]
    by_cases h : lt x.key key
    · rw [if_pos h, if_pos h]
      refine ⟨by have := ih.le; simp; omega, fun j hj hji => ?_, fun hj => ?_, ?_⟩
      · rcases j with _ | j
        · exact h
        · exact ih.lt j (by simp at hj; omega) (by omega)
      · exact ih.ge (by simp at hj; omega)
      · rw [ih.is]
        constructor
        · rintro ⟨a, b⟩; exact ⟨by simp; omega, b⟩
        · rintro ⟨a, b⟩; exact ⟨by simp at a; omega, b⟩
    · rw [if_neg h, if_neg h]
      have h' : 0 ≤ cmpL x.key.toList key.toList := by unfold lt at h; omega
      refine ⟨Nat.zero_le _, fun j hj hji => absurd hji (Nat.not_lt_zero _), fun hj => h', ?_⟩
      rw [decide_eq_true_eq]
      exact ⟨fun e => ⟨by simp, e⟩, fun ⟨_, e⟩ => e⟩
/-- Rows with one put in, and without one. -/
def putS (L : List Row) (x : Row) : List Row := putL L (pos L x.key) (hit L x.key) x
def cutS (L : List Row) (key : ByteArray) : List Row := cutL L (pos L key) (hit L key)
theorem putS_nil (x : Row) : putS [] x = [x] := rfl
theorem cutS_nil (key : ByteArray) : cutS [] key = [] := rfl
theorem putS_cons (y : Row) (L : List Row) (x : Row) : putS (y :: L) x = if lt y.key x.key then y :: putS L x else if cmpL y.key.toList x.key.toList = 0 then x :: L else x :: y :: L := by
  unfold putS putL
  rw [pos_cons, hit_cons]
  by_cases h : lt y.key x.key
  · rw [if_pos h, if_pos h, if_pos h]
    split <;> simp
  · rw [if_neg h, if_neg h, if_neg h]
    by_cases h2 : cmpL y.key.toList x.key.toList = 0
    · simp [h2]
    · simp [h2]
theorem cutS_cons (y : Row) (L : List Row) (key : ByteArray) : cutS (y :: L) key = if lt y.key key then y :: cutS L key else if cmpL y.key.toList key.toList = 0 then L else y :: L := by
  unfold cutS cutL
  rw [pos_cons, hit_cons]
  by_cases h : lt y.key key
  · rw [if_pos h, if_pos h, if_pos h]
    split <;> simp
  · rw [if_neg h, if_neg h, if_neg h]
    by_cases h2 : cmpL y.key.toList key.toList = 0
    · simp [h2]
    · simp [h2]
theorem ne_of_gt {a b : ByteArray} (h : lt b a) : ¬ lt a b ∧ cmpL a.toList b.toList ≠ 0 := by
  refine ⟨lt_asymm h, fun e => ?_⟩
  unfold lt at h
  rw [cmpL_swap, e] at h
  omega
theorem putS_right {M B : List Row} {x : Row} (h : ∀ b ∈ B, lt x.key b.key) : putS (M ++ B) x = putS M x ++ B := by
  induction M with
  | nil =>
    rw [List.nil_append, putS_nil]
    cases B with
    | nil => rfl
    | cons b B =>
      have := ne_of_gt (h b (List.mem_cons_self))
      rw [putS_cons, if_neg this.1, if_neg this.2]
      rfl
  | cons y M ih =>
    rw [List.cons_append, putS_cons, putS_cons]
    split
    · rw [ih]; rfl
    · split <;> rfl
theorem cutS_right {M B : List Row} {key : ByteArray} (h : ∀ b ∈ B, lt key b.key) : cutS (M ++ B) key = cutS M key ++ B := by
  induction M with
  | nil =>
    rw [List.nil_append, cutS_nil]
    cases B with
    | nil => rfl
    | cons b B =>
      have := ne_of_gt (h b (List.mem_cons_self))
      rw [cutS_cons, if_neg this.1, if_neg this.2]
      rfl
  | cons y M ih =>
    rw [List.cons_append, cutS_cons, cutS_cons]
    split
    · rw [ih]; rfl
    · split <;> rfl
theorem hit_right {M B : List Row} {key : ByteArray} (h : ∀ b ∈ B, lt key b.key) : hit (M ++ B) key = hit M key := by
  induction M with
  | nil =>
    rw [List.nil_append, hit_nil]
    cases B with
    | nil => rfl
    | cons b B =>
      have := ne_of_gt (h b (List.mem_cons_self))
      rw [hit_cons, if_neg this.1, decide_eq_false this.2]
  | cons y M ih =>
    rw [List.cons_append, hit_cons, hit_cons]
    split
    · exact ih
    · rfl
theorem putS_left {A M : List Row} {x : Row} (h : ∀ a ∈ A, lt a.key x.key) : putS (A ++ M) x = A ++ putS M x := by
  induction A with
  | nil => rfl
  | cons a A ih => rw [List.cons_append, putS_cons, if_pos (h a (List.mem_cons_self)), ih fun b hb => h b (List.mem_cons_of_mem _ hb)]; rfl
theorem cutS_left {A M : List Row} {key : ByteArray} (h : ∀ a ∈ A, lt a.key key) : cutS (A ++ M) key = A ++ cutS M key := by
  induction A with
  | nil => rfl
  | cons a A ih => rw [List.cons_append, cutS_cons, if_pos (h a (List.mem_cons_self)), ih fun b hb => h b (List.mem_cons_of_mem _ hb)]; rfl
theorem hit_left {A M : List Row} {key : ByteArray} (h : ∀ a ∈ A, lt a.key key) : hit (A ++ M) key = hit M key := by
  induction A with
  | nil => rfl
  | cons a A ih => rw [List.cons_append, hit_cons, if_pos (h a (List.mem_cons_self)), ih fun b hb => h b (List.mem_cons_of_mem _ hb)]
theorem putS_mem {L : List Row} {x y : Row} (h : y ∈ putS L x) : y = x ∨ y ∈ L := by
  induction L with
  | nil => rw [putS_nil] at h; exact .inl (List.mem_singleton.1 h)
  | cons z L ih =>
    rw [putS_cons] at h
    split at h
    · rcases List.mem_cons.1 h with h | h
      · exact .inr (by rw [h]; exact List.mem_cons_self)
      · exact (ih h).imp id (List.mem_cons_of_mem _)
    · split at h
      · rcases List.mem_cons.1 h with h | h
        · exact .inl h
        · exact .inr (List.mem_cons_of_mem _ h)
      · rcases List.mem_cons.1 h with h | h
        · exact .inl h
        · exact .inr h
theorem putS_srt {L : List Row} {x : Row} (h : Srt L) : Srt (putS L x) := by
  induction L with
  | nil => rw [putS_nil]; exact List.pairwise_singleton _ _
  | cons y L ih =>
    rw [putS_cons]
    have h1 := List.pairwise_cons.1 h
    split
    · rename_i hl
      refine List.pairwise_cons.2 ⟨fun z hz => ?_, ih h1.2⟩
      rcases putS_mem hz with rfl | hz
      · exact hl
      · exact h1.1 z hz
    · rename_i hl
      split
      · rename_i he
        rw [cmpL_eq] at he
        refine List.pairwise_cons.2 ⟨fun z hz => ?_, h1.2⟩
        have := h1.1 z hz
        unfold lt at this ⊢
        rw [← he]
        exact this
      · rename_i he
        have hxy : lt x.key y.key := by unfold lt at hl ⊢; rw [cmpL_swap]; omega
        refine List.pairwise_cons.2 ⟨fun z hz => ?_, h⟩
        rcases List.mem_cons.1 hz with rfl | hz
        · exact hxy
        · exact lt_trans hxy (h1.1 z hz)
theorem cutS_sub (L : List Row) (key : ByteArray) : (cutS L key).Sublist L := by
  unfold cutS cutL
  split
  · exact List.eraseIdx_sublist _ _
  · exact List.Sublist.refl _
theorem cutS_srt {L : List Row} (h : Srt L) (key : ByteArray) : Srt (cutS L key) := h.sublist (cutS_sub L key)
theorem putS_len (L : List Row) (x : Row) : (putS L x).length = if hit L x.key = true then L.length else L.length + 1 := putL_len (pos_le _ _)
theorem cutS_len (L : List Row) (key : ByteArray) : (cutS L key).length = if hit L key = true then L.length - 1 else L.length := by
  unfold cutS cutL
  split
  · rename_i h
    have := (found_at L key)
    rw [h] at this
    rw [List.length_eraseIdx_of_lt (found_lt this)]
  · rfl
theorem hit_len {L : List Row} {key : ByteArray} (h : hit L key = true) : 1 ≤ L.length := by
  have := (found_at L key)
  rw [h] at this
  have := found_lt this
  omega

/-! ### parts -/
def halve {α : Type} (l : List α) : List (List α) := if l.length ≤ 6 then [l] else [l.take ((l.length + 1) / 2), l.drop ((l.length + 1) / 2)]
theorem halve_flat {α : Type} (l : List α) : (halve l).flatten = l := by
  unfold halve
  split
  · simp
  · simp
/-- A part of height h: rows, or parts of the height below. -/
def T : Nat → Type
  | 0 => List Row
  | h + 1 => List (T h)
def rowsT : (h : Nat) → T h → List Row
  | 0, l => l
  | h + 1, kids => List.flatMap (rowsT h) kids
def wideT : (h : Nat) → T h → Nat
  | 0, l => List.length (α := Row) l
  | h + 1, kids => List.length (α := T h) kids
def firstT : (h : Nat) → T h → ByteArray
  | 0, l => ((List.head? (α := Row) l).map Row.key).getD ⟨#[]⟩
  | h + 1, kids => ((List.head? (α := T h) kids).map (firstT h)).getD ⟨#[]⟩
/-- The last place, below n, where f holds; or the first place. -/
def lastN {α : Type} (f : α → Bool) (l : List α) : Nat → Nat
  | 0 => 0
  | n + 1 => if (l[n]?.map f).getD false = true then n else lastN f l n
/-- As a list's own words, for a part of a height is a list only by what it means. -/
def at? {α : Type} (l : List α) (i : Nat) : Option α := l[i]?
def All {α : Type} (p : α → Prop) (l : List α) : Prop := ∀ k ∈ l, p k
def kidT (h : Nat) (kids : List (T h)) (key : ByteArray) : Nat := lastN (fun k => decide (¬ lt key (firstT h k))) kids kids.length
def putT : (h : Nat) → T h → Row → List (T h)
  | 0, l, r => halve (putS l r)
  | h + 1, kids, r => match at? (α := T h) kids (kidT h kids r.key) with
    | some k => halve (List.take (kidT h kids r.key) kids ++ putT h k r ++ List.drop (kidT h kids r.key + 1) kids)
    | none => []
def joinT : (h : Nat) → T h → T h → List (T h)
  | 0, a, b => halve (α := Row) (List.append a b)
  | h + 1, a, b => halve (α := T h) (List.append a b)
/-- Kids, of which one was cut: it is joined with the one beside it where it is too small. -/
def cutK (h : Nat) (kids : List (T h)) (i : Nat) (c : T h) : List (T h) :=
  if wideT h c < 3 then
    match (kids.set i c)[min i (kids.length - 2)]?, (kids.set i c)[min i (kids.length - 2) + 1]? with
    | some a, some b => (kids.set i c).take (min i (kids.length - 2)) ++ joinT h a b ++ (kids.set i c).drop (min i (kids.length - 2) + 2)
    | _, _ => kids.set i c
  else kids.set i c
def cutT : (h : Nat) → T h → ByteArray → T h
  | 0, l, key => cutS l key
  | h + 1, kids, key => match at? (α := T h) kids (kidT h kids key) with
    | none => kids
    | some k => cutK h kids (kidT h kids key) (cutT h k key)
def ceilT : (h : Nat) → T h → ByteArray → Option Row
  | 0, l, key => List.find? (fun r : Row => decide (¬ lt r.key key)) l
  | h + 1, kids, key => List.findSome? (fun k => ceilT h k key) (List.drop (kidT h kids key) kids)
/-- Its kids are wide, neither too much nor too little. -/
def OkT : (h : Nat) → T h → Prop
  | 0, _ => True
  | h + 1, kids => All (α := T h) (fun k => OkT h k ∧ 3 ≤ wideT h k ∧ wideT h k ≤ 6) kids
theorem halve_shape {α : Type} {l : List α} (h : l.length ≤ 12) : (l.length ≤ 6 ∧ halve l = [l]) ∨ (7 ≤ l.length ∧ ∃ a b, halve l = [a, b] ∧ l = a ++ b ∧ 3 ≤ a.length ∧ a.length ≤ 6 ∧ 3 ≤ b.length ∧ b.length ≤ 6) := by
  unfold halve
  by_cases h6 : l.length ≤ 6
  · exact .inl ⟨h6, by rw [if_pos h6]⟩
  · refine .inr ⟨by omega, _, _, by rw [if_neg h6], (List.take_append_drop _ _).symm, ?_, ?_, ?_, ?_⟩ <;> simp only [List.length_take, List.length_drop] <;> omega
theorem halve_all {α : Type} {P : List α → Prop} {l : List α} (h : l.length ≤ 12) (h1 : l.length ≤ 6 → P l) (h2 : ∀ a b, l = a ++ b → 3 ≤ a.length → a.length ≤ 6 → 3 ≤ b.length → b.length ≤ 6 → P a ∧ P b) : ∀ k ∈ halve l, P k := by
  intro k hk
  rcases halve_shape h with ⟨h6, e⟩ | ⟨_, a, b, e, e2, b1, b2, b3, b4⟩
  · rw [e, List.mem_singleton] at hk; subst hk; exact h1 h6
  · rw [e] at hk
    have h3 := h2 a b e2 b1 b2 b3 b4
    rcases List.mem_cons.1 hk with rfl | hk
    · exact h3.1
    · rw [List.mem_singleton] at hk; subst hk; exact h3.2
theorem halve_len {α : Type} (l : List α) : 1 ≤ (halve l).length ∧ (halve l).length ≤ 2 := by unfold halve; split <;> simp
theorem flat0 (l : List Row) : List.flatMap (rowsT 0) (halve (α := Row) l) = l := by
  show List.flatMap (fun l : List Row => l) (halve l) = l
  rw [show List.flatMap (fun l : List Row => l) (halve l) = (halve l).flatten by simp [List.flatMap]]
  exact halve_flat l
theorem flatS (h : Nat) (X : List (T h)) : List.flatMap (rowsT (h + 1)) (halve (α := T h) X) = List.flatMap (rowsT h) X := by
  conv => rhs; rw [← halve_flat X]
  rw [show (halve X).flatten = List.flatMap (fun l => l) (halve X) by simp [List.flatMap], List.flatMap_assoc]
  rfl
theorem lastN_spec {α : Type} (f : α → Bool) (l : List α) : ∀ n, n ≤ l.length → (lastN f l n < n ∨ (n = 0 ∧ lastN f l n = 0)) ∧ (lastN f l n = 0 ∨ ∃ h : lastN f l n < l.length, f l[lastN f l n] = true) ∧ ∀ j (h : j < l.length), lastN f l n < j → j < n → f l[j] = false
  | 0, _ => ⟨.inr ⟨rfl, rfl⟩, .inl rfl, fun j _ _ hj => absurd hj (Nat.not_lt_zero _)⟩
  | n + 1, hn => by
    obtain ⟨i1, i2, i3⟩ := lastN_spec f l n (by omega)
    have e : (l[n]?.map f).getD false = f l[n] := by rw [List.getElem?_eq_getElem (by omega)]; rfl
    cases hf : f l[n] with
    | true =>
      have e2 : lastN f l (n + 1) = n := by unfold lastN; rw [e, hf]; rfl
      simp only [e2]
      exact ⟨.inl (by omega), .inr ⟨by omega, hf⟩, fun j _ h1 h2 => by omega⟩
    | false =>
      have e2 : lastN f l (n + 1) = lastN f l n := by
        show (if (l[n]?.map f).getD false = true then n else lastN f l n) = lastN f l n
        rw [e, hf]; rfl
      simp only [e2]
      refine ⟨?_, i2, fun j hj h1 h2 => ?_⟩
      · rcases i1 with i1 | ⟨i1, i4⟩
        · exact .inl (by omega)
        · exact .inl (by omega)
      · by_cases hjn : j = n
        · subst hjn; exact hf
        · exact i3 j hj h1 (by omega)
theorem rows_head : ∀ (h : Nat) (t : T h), OkT h t → 1 ≤ wideT h t → ∃ r L, rowsT h t = r :: L ∧ firstT h t = r.key
  | 0, l, _, hw => by
    cases l with
    | nil => exact absurd hw (by decide)
    | cons r L => exact ⟨r, L, rfl, rfl⟩
  | h + 1, kids, hk, hw => by
    obtain ⟨kids, rfl⟩ : ∃ ks : List (T h), ks = kids := ⟨kids, rfl⟩
    have hk' : ∀ k ∈ kids, OkT h k ∧ 3 ≤ wideT h k ∧ wideT h k ≤ 6 := hk
    have hw' : 1 ≤ List.length (α := T h) kids := hw
    match kids, hk', hw' with
    | [], _, hw' => exact absurd hw' (Nat.not_succ_le_zero 0)
    | k :: ks, hk', _ =>
      obtain ⟨k1, k2, _⟩ := hk' k List.mem_cons_self
      obtain ⟨r, L, e1, e2⟩ := rows_head h k k1 (by omega)
      refine ⟨r, L ++ List.flatMap (rowsT h) ks, ?_, ?_⟩
      · show rowsT h k ++ List.flatMap (rowsT h) ks = _
        rw [e1]
        rfl
      · exact e2
theorem rows_first {h : Nat} {t : T h} (hk : OkT h t) (hw : 1 ≤ wideT h t) (hs : Srt (rowsT h t)) : (∃ r ∈ rowsT h t, r.key = firstT h t) ∧ ∀ r ∈ rowsT h t, ¬ lt r.key (firstT h t) := by
  obtain ⟨r, L, e1, e2⟩ := rows_head h t hk hw
  rw [e1] at hs ⊢
  rw [e2]
  refine ⟨⟨r, List.mem_cons_self, rfl⟩, fun x hx => ?_⟩
  rcases List.mem_cons.1 hx with rfl | hx
  · exact lt_irrefl _
  · exact lt_asymm ((List.pairwise_cons.1 hs).1 x hx)
theorem flat_split {h : Nat} {kids : List (T h)} {i : Nat} (hi : i < kids.length) : List.flatMap (rowsT h) kids = List.flatMap (rowsT h) (kids.take i) ++ (rowsT h kids[i] ++ List.flatMap (rowsT h) (kids.drop (i + 1))) := by
  conv => lhs; rw [← List.take_append_drop i kids, List.drop_eq_getElem_cons hi]
  rw [List.flatMap_append, List.flatMap_cons]
/-- Where a key's kid stands: what is ahead of it, and what is behind. -/
theorem kid_at {h : Nat} {kids : List (T h)} (hk : ∀ k ∈ kids, OkT h k ∧ 3 ≤ wideT h k ∧ wideT h k ≤ 6) (hn : 1 ≤ kids.length) (hs : Srt (List.flatMap (rowsT h) kids)) (key : ByteArray) :
    kidT h kids key < kids.length ∧ (∀ r ∈ List.flatMap (rowsT h) (kids.take (kidT h kids key)), lt r.key key) ∧ ∀ r ∈ List.flatMap (rowsT h) (kids.drop (kidT h kids key + 1)), lt key r.key := by
  obtain ⟨s1, s2, s3⟩ := lastN_spec (fun k => decide (¬ lt key (firstT h k))) kids kids.length (Nat.le_refl _)
  change (kidT h kids key < _ ∨ _ ∧ kidT h kids key = 0) at s1
  change (kidT h kids key = 0 ∨ ∃ h_1 : kidT h kids key < kids.length, decide (¬ lt key (firstT h kids[kidT h kids key])) = true) at s2
  change (∀ j (h_1 : j < kids.length), kidT h kids key < j → j < kids.length → decide (¬ lt key (firstT h kids[j])) = false) at s3
  have hi : kidT h kids key < kids.length := by omega
  generalize kidT h kids key = i at *
  have hsub : ∀ j (hj : j < kids.length), Srt (rowsT h kids[j]) := fun j hj => by
    rw [flat_split hj] at hs
    exact (List.pairwise_append.1 (List.pairwise_append.1 hs).2.1).1
  refine ⟨hi, fun r hr => ?_, fun r hr => ?_⟩
  · rcases s2 with s2 | ⟨_, s2⟩
    · subst s2
      cases hr
    · have hle : ¬ lt key (firstT h kids[i]) := of_decide_eq_true s2
      have hki := hk _ (List.getElem_mem hi)
      obtain ⟨⟨x, x1, x2⟩, _⟩ := rows_first hki.1 (by omega) (hsub i hi)
      rw [flat_split hi] at hs
      have := (List.pairwise_append.1 hs).2.2 r hr x (List.mem_append_left _ x1)
      rw [x2] at this
      exact lt_of_lt_le this hle
  · obtain ⟨k, hk1, hk2⟩ := List.mem_flatMap.1 hr
    obtain ⟨j, hj, e⟩ := List.getElem_of_mem hk1
    rw [List.getElem_drop] at e
    simp only [List.length_drop] at hj
    have hf := s3 (i + 1 + j) (by omega) (by omega) (by omega)
    have hlt : lt key (firstT h kids[i + 1 + j]) := by
      have := of_decide_eq_false hf
      exact Classical.not_not.1 this
    subst e
    have hki := hk _ (List.getElem_mem (show i + 1 + j < kids.length by omega))
    exact lt_of_lt_le hlt ((rows_first hki.1 (by omega) (hsub _ _)).2 r hk2)
theorem sub_srt {h : Nat} {kids : List (T h)} (hs : Srt (List.flatMap (rowsT h) kids)) {j : Nat} (hj : j < kids.length) : Srt (rowsT h kids[j]) := by
  rw [flat_split hj] at hs
  exact (List.pairwise_append.1 (List.pairwise_append.1 hs).2.1).1
/-- What a part may become when a row is put in. -/
def PutOk (h : Nat) (t : T h) (ts : List (T h)) : Prop := (∃ p, ts = [p] ∧ wideT h t ≤ wideT h p ∧ wideT h p ≤ 6 ∧ OkT h p) ∨ ∃ p q, ts = [p, q] ∧ OkT h p ∧ OkT h q ∧ 3 ≤ wideT h p ∧ wideT h p ≤ 6 ∧ 3 ≤ wideT h q ∧ wideT h q ≤ 6
theorem halve_put (h : Nat) {kids ks : List (T h)} (hl : kids.length ≤ ks.length) (h7 : ks.length ≤ 12) (hk : ∀ k ∈ ks, OkT h k ∧ 3 ≤ wideT h k ∧ wideT h k ≤ 6) : PutOk (h + 1) kids (halve ks) := by
  rcases halve_shape h7 with ⟨h6, e⟩ | ⟨_, a, b, e, e2, b1, b2, b3, b4⟩
  · exact .inl ⟨ks, e, hl, h6, hk⟩
  · subst e2
    exact .inr ⟨a, b, e, fun k hk1 => hk k (List.mem_append_left _ hk1), fun k hk1 => hk k (List.mem_append_right _ hk1), b1, b2, b3, b4⟩
theorem putT_succ {h : Nat} {kids : List (T h)} {r : Row} (hi : kidT h kids r.key < kids.length) : putT (h + 1) kids r = halve (List.take (kidT h kids r.key) kids ++ putT h kids[kidT h kids r.key] r ++ List.drop (kidT h kids r.key + 1) kids) := by
  show (match at? (α := T h) kids (kidT h kids r.key) with
    | some k => halve (List.take (kidT h kids r.key) kids ++ putT h k r ++ List.drop (kidT h kids r.key + 1) kids)
    | none => []) = _
  rw [show at? (α := T h) kids (kidT h kids r.key) = some _ from List.getElem?_eq_getElem hi]
theorem putT_ok : ∀ (h : Nat) (t : T h) (r : Row), OkT h t → (1 ≤ h → 1 ≤ wideT h t) → wideT h t ≤ 6 → Srt (rowsT h t) → PutOk h t (putT h t r) ∧ List.flatMap (rowsT h) (putT h t r) = putS (rowsT h t) r
  | 0, l, r, _, _, hw, _ => by
    have hl : (putS l r).length = if hit l r.key = true then List.length l else List.length l + 1 := putS_len l r
    have hw' : List.length (α := Row) l ≤ 6 := hw
    have hl1 : List.length (α := Row) l ≤ (putS l r).length ∧ (putS l r).length ≤ 7 := by rw [hl]; split <;> omega
    refine ⟨?_, ?_⟩
    · show PutOk 0 l (halve (putS l r))
      rcases halve_shape (l := putS l r) (by omega) with ⟨h6, e⟩ | ⟨_, a, b, e, e2, b1, b2, b3, b4⟩
      · exact .inl ⟨putS l r, e, hl1.1, h6, trivial⟩
      · exact .inr ⟨a, b, e, trivial, trivial, b1, b2, b3, b4⟩
    · exact flat0 (putS l r)
  | h + 1, kids, r, hk, hn, hw, hs => by
    obtain ⟨kids, rfl⟩ : ∃ ks : List (T h), ks = kids := ⟨kids, rfl⟩
    have hk' : ∀ k ∈ kids, OkT h k ∧ 3 ≤ wideT h k ∧ wideT h k ≤ 6 := hk
    have hn' : 1 ≤ List.length (α := T h) kids := hn (by omega)
    have hw' : List.length (α := T h) kids ≤ 6 := hw
    have hs' : Srt (List.flatMap (rowsT h) kids) := hs
    obtain ⟨a1, a2, a3⟩ := kid_at hk' hn' hs' r.key
    rw [putT_succ a1]
    have hki := hk' _ (List.getElem_mem a1)
    obtain ⟨p1, p2⟩ := putT_ok h _ r hki.1 (fun _ => by omega) hki.2.2 (sub_srt hs' a1)
    have hP : ∀ k ∈ putT h (kids : List (T h))[kidT h kids r.key] r, OkT h k ∧ 3 ≤ wideT h k ∧ wideT h k ≤ 6 := by
      rcases p1 with ⟨p, e, g1, g2, g3⟩ | ⟨p, q, e, g1, g2, g3, g4, g5, g6⟩
      · rw [e]; intro k hk1; rw [List.mem_singleton] at hk1; subst hk1; exact ⟨g3, by omega, g2⟩
      · rw [e]; intro k hk1
        rcases List.mem_cons.1 hk1 with rfl | hk1
        · exact ⟨g1, g3, g4⟩
        · rw [List.mem_singleton] at hk1; subst hk1; exact ⟨g2, g5, g6⟩
    have hL : 1 ≤ (putT h (kids : List (T h))[kidT h kids r.key] r).length ∧ (putT h (kids : List (T h))[kidT h kids r.key] r).length ≤ 2 := by
      rcases p1 with ⟨p, e, _⟩ | ⟨p, q, e, _⟩ <;> rw [e] <;> simp
    refine ⟨halve_put h ?_ ?_ fun k hk1 => ?_, ?_⟩
    · simp only [List.length_append, List.length_take, List.length_drop]; omega
    · simp only [List.length_append, List.length_take, List.length_drop]; omega
    · rcases List.mem_append.1 hk1 with hk1 | hk1
      · rcases List.mem_append.1 hk1 with hk1 | hk1
        · exact hk' k (List.mem_of_mem_take hk1)
        · exact hP k hk1
      · exact hk' k (List.mem_of_mem_drop hk1)
    · rw [flatS, List.flatMap_append, List.flatMap_append, p2]
      show _ = putS (List.flatMap (rowsT h) kids) r
      rw [flat_split a1, putS_left a2, putS_right a3, List.append_assoc]
theorem cutT_succ {h : Nat} {kids : List (T h)} {key : ByteArray} (hi : kidT h kids key < kids.length) : cutT (h + 1) kids key = cutK h kids (kidT h kids key) (cutT h kids[kidT h kids key] key) := by
  show (match at? (α := T h) kids (kidT h kids key) with
    | none => kids
    | some k => cutK h kids (kidT h kids key) (cutT h k key)) = _
  rw [show at? (α := T h) kids (kidT h kids key) = some _ from List.getElem?_eq_getElem hi]
theorem cutK_small {h : Nat} {kids ks : List (T h)} {i f : Nat} {c : T h} (hc : wideT h c < 3) (hks : kids.set i c = ks) (hf : min i (kids.length - 2) = f) (hf1 : f + 1 < ks.length) : cutK h kids i c = ks.take f ++ joinT h (ks[f]'(by omega)) ks[f + 1] ++ ks.drop (f + 2) := by
  unfold cutK
  rw [if_pos hc, hks, hf, List.getElem?_eq_getElem (by omega), List.getElem?_eq_getElem (by omega)]
theorem joinT_ok (h : Nat) {a b : T h} (ha : OkT h a) (hb : OkT h b) (h3 : 3 ≤ wideT h a + wideT h b) (h12 : wideT h a + wideT h b ≤ 12) : (∀ k ∈ joinT h a b, OkT h k ∧ 3 ≤ wideT h k ∧ wideT h k ≤ 6) ∧ 1 ≤ (joinT h a b).length ∧ (joinT h a b).length ≤ 2 ∧ List.flatMap (rowsT h) (joinT h a b) = rowsT h a ++ rowsT h b := by
  cases h with
  | zero =>
    obtain ⟨a, rfl⟩ : ∃ x : List Row, x = a := ⟨a, rfl⟩
    obtain ⟨b, rfl⟩ : ∃ x : List Row, x = b := ⟨b, rfl⟩
    have h3' : 3 ≤ a.length + b.length := h3
    have h12' : a.length + b.length ≤ 12 := h12
    have hl : (a ++ b).length = a.length + b.length := List.length_append
    refine ⟨halve_all (α := Row) (P := fun k => OkT 0 k ∧ 3 ≤ wideT 0 k ∧ wideT 0 k ≤ 6) (l := a ++ b) (by omega) (fun h6 => ⟨trivial, by show 3 ≤ (a ++ b).length; omega, h6⟩) (fun x y _ b1 b2 b3 b4 => ⟨⟨trivial, b1, b2⟩, ⟨trivial, b3, b4⟩⟩), (halve_len (a ++ b)).1, (halve_len (a ++ b)).2, flat0 (a ++ b)⟩
  | succ h =>
    obtain ⟨a, rfl⟩ : ∃ x : List (T h), x = a := ⟨a, rfl⟩
    obtain ⟨b, rfl⟩ : ∃ x : List (T h), x = b := ⟨b, rfl⟩
    have h3' : 3 ≤ a.length + b.length := h3
    have h12' : a.length + b.length ≤ 12 := h12
    have hl : (a ++ b).length = a.length + b.length := List.length_append
    have hab : ∀ k ∈ a ++ b, OkT h k ∧ 3 ≤ wideT h k ∧ wideT h k ≤ 6 := fun k hk1 => by
      rcases List.mem_append.1 hk1 with hk1 | hk1
      · exact ha k hk1
      · exact hb k hk1
    refine ⟨halve_all (α := T h) (P := fun k => OkT (h + 1) k ∧ 3 ≤ wideT (h + 1) k ∧ wideT (h + 1) k ≤ 6) (l := a ++ b) (by omega) (fun h6 => ⟨hab, by show 3 ≤ (a ++ b).length; omega, h6⟩) (fun x y e b1 b2 b3 b4 => ⟨⟨fun k hk => hab k (by rw [e]; exact List.mem_append_left _ hk), b1, b2⟩, ⟨fun k hk => hab k (by rw [e]; exact List.mem_append_right _ hk), b3, b4⟩⟩), (halve_len (a ++ b)).1, (halve_len (a ++ b)).2, ?_⟩
    exact (flatS h (a ++ b)).trans List.flatMap_append
theorem flat_set {h : Nat} {kids : List (T h)} {i : Nat} (hi : i < kids.length) (c : T h) : List.flatMap (rowsT h) (kids.set i c) = List.flatMap (rowsT h) (kids.take i) ++ (rowsT h c ++ List.flatMap (rowsT h) (kids.drop (i + 1))) := by
  rw [List.set_eq_take_append_cons_drop, if_pos hi, List.flatMap_append, List.flatMap_cons]
theorem flat_two {h : Nat} {ks : List (T h)} {f : Nat} (hf : f + 1 < ks.length) : List.flatMap (rowsT h) ks = List.flatMap (rowsT h) (ks.take f) ++ ((rowsT h ks[f] ++ rowsT h ks[f + 1]) ++ List.flatMap (rowsT h) (ks.drop (f + 2))) := by
  rw [flat_split (i := f) (by omega)]
  rw [show ks.drop (f + 1) = ks[f + 1] :: ks.drop (f + 2) from List.drop_eq_getElem_cons hf, List.flatMap_cons, List.append_assoc]
theorem cutK_ok {h : Nat} {kids : List (T h)} {i : Nat} {c : T h} (hk' : ∀ k ∈ kids, OkT h k ∧ 3 ≤ wideT h k ∧ wideT h k ≤ 6) (hn' : 2 ≤ kids.length) (hw' : kids.length ≤ 6) (hi : i < kids.length) (p2 : OkT h c) (p3 : 2 ≤ wideT h c) (p4 : wideT h c ≤ 6) :
    List.flatMap (rowsT h) (cutK h kids i c) = List.flatMap (rowsT h) (kids.set i c) ∧ (∀ k ∈ cutK h kids i c, OkT h k ∧ 3 ≤ wideT h k ∧ wideT h k ≤ 6) ∧ kids.length ≤ (cutK h kids i c).length + 1 ∧ (cutK h kids i c).length ≤ kids.length := by
  have hat : ∀ j (hj : j < (kids.set i c).length), j ≠ i → OkT h (kids.set i c)[j] ∧ 3 ≤ wideT h (kids.set i c)[j] ∧ wideT h (kids.set i c)[j] ≤ 6 := fun j hj hji => by
    rw [List.getElem_set_ne (fun e => hji e.symm)]
    exact hk' _ (List.getElem_mem _)
  have hic : ∀ (hj : i < (kids.set i c).length), (kids.set i c)[i] = c := fun hj => List.getElem_set_self _
  have hlen : (kids.set i c).length = kids.length := List.length_set
  by_cases hc3 : wideT h c < 3
  · obtain ⟨ks, hks⟩ : ∃ ks, kids.set i c = ks := ⟨_, rfl⟩
    obtain ⟨f, hf⟩ : ∃ f, min i (kids.length - 2) = f := ⟨_, rfl⟩
    rw [hks] at hlen
    rw [cutK_small hc3 hks hf (by omega), hks]
    have hfs : f = i ∨ f + 1 = i := by omega
    have hfb : f + 1 < kids.length := by omega
    subst hks
    generalize kids.set i c = ks at *
    have hJ := joinT_ok h (a := ks[f]'(by omega)) (b := ks[f + 1]'(by omega)) (by
      rcases hfs with e | e
      · subst e; rw [hic]; exact p2
      · exact (hat f (by omega) (by omega)).1) (by
      rcases hfs with e | e
      · exact (hat (f + 1) (by omega) (by omega)).1
      · subst e; rw [hic]; exact p2) (by
      rcases hfs with e | e
      · have := (hat (f + 1) (by omega) (by omega)).2; omega
      · have := (hat f (by omega) (by omega)).2; omega) (by
      rcases hfs with e | e
      · have h1 := (hat (f + 1) (by omega) (by omega)).2
        have h2 : wideT h (ks[f]'(by omega)) = wideT h c := by subst e; rw [hic]
        omega
      · have h1 := (hat f (by omega) (by omega)).2
        have h2 : wideT h (ks[f + 1]'(by omega)) = wideT h c := by subst e; rw [hic]
        omega)
    obtain ⟨j1, j2, j3, j4⟩ := hJ
    have h2 := flat_two (ks := ks) (f := f) (by omega)
    have hmem : ∀ j, j < f ∨ f + 2 ≤ j → ∀ (hj : j < ks.length), OkT h ks[j] ∧ 3 ≤ wideT h ks[j] ∧ wideT h ks[j] ≤ 6 := fun j hjf hj => hat j hj (by omega)
    refine ⟨?_, fun k hk1 => ?_, ?_, ?_⟩
    · rw [List.flatMap_append, List.flatMap_append, j4, h2, List.append_assoc]
    · rcases List.mem_append.1 hk1 with hk1 | hk1
      · rcases List.mem_append.1 hk1 with hk1 | hk1
        · obtain ⟨j, hj, rfl⟩ := List.getElem_of_mem hk1
          rw [List.getElem_take]
          simp only [List.length_take] at hj
          exact hmem j (.inl (by omega)) (by omega)
        · exact j1 k hk1
      · obtain ⟨j, hj, rfl⟩ := List.getElem_of_mem hk1
        rw [List.getElem_drop]
        simp only [List.length_drop] at hj
        exact hmem _ (.inr (by omega)) (by omega)
    · simp only [List.length_append, List.length_take, List.length_drop]
      omega
    · simp only [List.length_append, List.length_take, List.length_drop]
      omega
  · unfold cutK
    rw [if_neg hc3]
    refine ⟨rfl, fun k hk1 => ?_, by omega, by omega⟩
    rcases List.mem_or_eq_of_mem_set hk1 with hk1 | rfl
    · exact hk' k hk1
    · exact ⟨p2, by omega, p4⟩
theorem cutT_ok : ∀ (h : Nat) (t : T h) (key : ByteArray), OkT h t → (1 ≤ h → 2 ≤ wideT h t) → wideT h t ≤ 6 → Srt (rowsT h t) → rowsT h (cutT h t key) = cutS (rowsT h t) key ∧ OkT h (cutT h t key) ∧ wideT h t ≤ wideT h (cutT h t key) + 1 ∧ wideT h (cutT h t key) ≤ wideT h t
  | 0, l, key, _, _, hw, _ => by
    have hl : (cutS l key).length = if hit l key = true then List.length l - 1 else List.length l := cutS_len l key
    refine ⟨rfl, trivial, ?_, ?_⟩
    · show List.length (α := Row) l ≤ (cutS l key).length + 1
      rw [hl]; split <;> omega
    · show (cutS l key).length ≤ List.length (α := Row) l
      rw [hl]; split <;> omega
  | h + 1, kids, key, hk, hn, hw, hs => by
    obtain ⟨kids, rfl⟩ : ∃ ks : List (T h), ks = kids := ⟨kids, rfl⟩
    have hk' : ∀ k ∈ kids, OkT h k ∧ 3 ≤ wideT h k ∧ wideT h k ≤ 6 := hk
    have hn' : 2 ≤ kids.length := hn (by omega)
    have hw' : kids.length ≤ 6 := hw
    have hs' : Srt (List.flatMap (rowsT h) kids) := hs
    obtain ⟨a1, a2, a3⟩ := kid_at hk' (by omega) hs' key
    rw [cutT_succ a1]
    have hki := hk' _ (List.getElem_mem a1)
    obtain ⟨p1, p2, p3, p4⟩ := cutT_ok h _ key hki.1 (fun _ => by omega) hki.2.2 (sub_srt hs' a1)
    obtain ⟨c1, c2, c3, c4⟩ := cutK_ok hk' hn' hw' a1 p2 (by omega) (by omega)
    refine ⟨?_, c2, c3, c4⟩
    show List.flatMap (rowsT h) _ = cutS (List.flatMap (rowsT h) kids) key
    rw [c1, flat_set a1, p1, flat_split a1, cutS_left a2, cutS_right a3]
theorem find_skip {A L : List Row} {key : ByteArray} (h : ∀ a ∈ A, lt a.key key) : (A ++ L).find? (fun r => decide (¬ lt r.key key)) = L.find? (fun r => decide (¬ lt r.key key)) := by
  induction A with
  | nil => rfl
  | cons a A ih =>
    rw [List.cons_append, List.find?_cons_of_neg (by simp [h a List.mem_cons_self])]
    exact ih fun b hb => h b (List.mem_cons_of_mem _ hb)
theorem findSome_flat {h : Nat} (p : Row → Bool) (g : T h → Option Row) : ∀ ks : List (T h), (∀ k ∈ ks, g k = (rowsT h k).find? p) → List.findSome? g ks = (List.flatMap (rowsT h) ks).find? p
  | [], _ => rfl
  | k :: ks, hk => by
    rw [List.flatMap_cons, List.find?_append, ← hk k List.mem_cons_self, List.findSome?_cons, findSome_flat p g ks fun x hx => hk x (List.mem_cons_of_mem _ hx)]
    cases g k <;> rfl
theorem ceilT_eq : ∀ (h : Nat) (t : T h) (key : ByteArray), OkT h t → (1 ≤ h → 1 ≤ wideT h t) → Srt (rowsT h t) → ceilT h t key = (rowsT h t).find? (fun r => decide (¬ lt r.key key))
  | 0, l, key, _, _, _ => rfl
  | h + 1, kids, key, hk, hn, hs => by
    obtain ⟨kids, rfl⟩ : ∃ ks : List (T h), ks = kids := ⟨kids, rfl⟩
    have hk' : ∀ k ∈ kids, OkT h k ∧ 3 ≤ wideT h k ∧ wideT h k ≤ 6 := hk
    have hn' : 1 ≤ List.length (α := T h) kids := hn (by omega)
    have hs' : Srt (List.flatMap (rowsT h) kids) := hs
    obtain ⟨a1, a2, a3⟩ := kid_at hk' hn' hs' key
    show List.findSome? (fun k => ceilT h k key) (List.drop (kidT h kids key) kids) = _
    rw [findSome_flat (fun r => decide (¬ lt r.key key)) _ _ fun k hk1 => ?_]
    · show _ = (List.flatMap (rowsT h) kids).find? _
      conv => rhs; rw [← List.take_append_drop (kidT h kids key) kids]
      rw [List.flatMap_append, find_skip a2]
    · have hm := List.mem_of_mem_drop hk1
      obtain ⟨j, hj, rfl⟩ := List.getElem_of_mem hm
      exact ceilT_eq h _ key (hk' _ hm).1 (fun _ => by have := (hk' _ hm).2; omega) (sub_srt hs' hj)
theorem wide_bound : ∀ (h : Nat) (t : T h), OkT h t → wideT h t * 3 ^ h ≤ (rowsT h t).length
  | 0, l, _ => by show List.length (α := Row) l * 3 ^ 0 ≤ List.length (α := Row) l; omega
  | h + 1, kids, hk => by
    obtain ⟨kids, rfl⟩ : ∃ ks : List (T h), ks = kids := ⟨kids, rfl⟩
    show List.length (α := T h) kids * 3 ^ (h + 1) ≤ (List.flatMap (rowsT h) kids).length
    have hk' : ∀ k ∈ kids, OkT h k ∧ 3 ≤ wideT h k ∧ wideT h k ≤ 6 := hk
    have key : ∀ ks : List (T h), (∀ k ∈ ks, OkT h k ∧ 3 ≤ wideT h k ∧ wideT h k ≤ 6) → ks.length * 3 ^ (h + 1) ≤ (List.flatMap (rowsT h) ks).length := by
      intro ks
      induction ks with
      | nil => intro _; simp
      | cons k ks ih =>
        intro hks
        have h1 := ih fun x hx => hks x (List.mem_cons_of_mem _ hx)
        have h2 := hks k List.mem_cons_self
        have h3 := wide_bound h k h2.1
        have h4 : 3 * 3 ^ h ≤ wideT h k * 3 ^ h := Nat.mul_le_mul_right _ h2.2.1
        rw [List.flatMap_cons, List.length_append, List.length_cons, Nat.add_mul, Nat.pow_succ] at *
        omega
    exact key kids hk'

/-- A tree's root. -/
structure Top (h : Nat) (t : T h) : Prop where
  ok : OkT h t
  six : wideT h t ≤ 6
  two : 1 ≤ h → 2 ≤ wideT h t
  srt : Srt (rowsT h t)
theorem Top.zero : Top 0 ([] : List Row) := ⟨trivial, by decide, fun h => absurd h (by decide), List.Pairwise.nil⟩
theorem Top.put {h : Nat} {t : T h} (H : Top h t) (r : Row) : (∃ p, putT h t r = [p] ∧ Top h p ∧ rowsT h p = putS (rowsT h t) r) ∨ ∃ p q, putT h t r = [p, q] ∧ Top (h + 1) ([p, q] : List (T h)) ∧ rowsT (h + 1) ([p, q] : List (T h)) = putS (rowsT h t) r := by
  obtain ⟨h1, h2⟩ := putT_ok h t r H.ok (fun hh => by have := H.two hh; omega) H.six H.srt
  have hs := putS_srt (x := r) H.srt
  rcases h1 with ⟨p, e, g1, g2, g3⟩ | ⟨p, q, e, g1, g2, g3, g4, g5, g6⟩
  · rw [e] at h2
    have h2' : rowsT h p = putS (rowsT h t) r := by rw [← h2]; simp [List.flatMap]
    exact .inl ⟨p, e, ⟨g3, g2, fun hh => by have := H.two hh; omega, by rw [h2']; exact hs⟩, h2'⟩
  · rw [e] at h2
    refine .inr ⟨p, q, e, ⟨fun k hk => ?_, by show 2 ≤ 6; decide, fun _ => by show 2 ≤ 2; decide, ?_⟩, h2⟩
    · have hk' : k ∈ [p, q] := hk
      rcases List.mem_cons.1 hk' with rfl | hk'
      · exact ⟨g1, g3, g4⟩
      · rw [List.mem_singleton] at hk'; subst hk'; exact ⟨g2, g5, g6⟩
    · show Srt (List.flatMap (rowsT h) [p, q])
      rw [h2]
      exact hs
theorem Top.cut {h : Nat} {t : T h} (H : Top h t) (key : ByteArray) : rowsT h (cutT h t key) = cutS (rowsT h t) key ∧ ((Top h (cutT h t key) ∧ (1 ≤ h → wideT h (cutT h t key) ≠ 1)) ∨ (∃ g, ∃ e : h = g + 1, ∃ k : T g, (e ▸ cutT h t key : T (g + 1)) = ([k] : List (T g)) ∧ Top g k)) := by
  obtain ⟨h1, h2, h3, h4⟩ := cutT_ok h t key H.ok H.two H.six H.srt
  have hs := cutS_srt H.srt key
  refine ⟨h1, ?_⟩
  cases h with
  | zero => exact .inl ⟨⟨h2, by have := H.six; omega, fun hh => absurd hh (by decide), by rw [h1]; exact hs⟩, fun hh => absurd hh (by decide)⟩
  | succ g =>
    have ht := H.two (by omega)
    have h6 := H.six
    by_cases hone : wideT (g + 1) (cutT (g + 1) t key) = 1
    · right
      generalize cutT (g + 1) t key = c at *
      have hl : List.length (α := T g) c = 1 := hone
      match c, hl, h1, h2 with
      | [k], _, h1, h2 =>
        have hk := h2 k List.mem_cons_self
        refine ⟨g, rfl, k, rfl, hk.1, hk.2.2, fun _ => by omega, ?_⟩
        have : rowsT (g + 1) ([k] : List (T g)) = rowsT g k := by show List.flatMap (rowsT g) [k] = _; simp [List.flatMap]
        rw [← this]
        exact h1 ▸ hs
    · exact .inl ⟨⟨h2, by omega, fun _ => by omega, by rw [h1]; exact hs⟩, fun _ => hone⟩
/-- How often a number can be divided by three. -/
def d3 (n : Nat) : Nat := if h : n = 0 then 0 else d3 (n / 3) + 1
theorem d3_zero : d3 0 = 0 := by unfold d3; simp
theorem d3_pos {n : Nat} (h : 0 < n) : d3 n = d3 (n / 3) + 1 := by conv => lhs; unfold d3; rw [dif_neg (by omega)]
theorem d3_ge : ∀ (k n : Nat), 3 ^ k ≤ n → k + 1 ≤ d3 n
  | 0, n, h => by rw [d3_pos (by omega)]; omega
  | k + 1, n, h => by
    have h1 : 3 ^ k ≤ n / 3 := by rw [Nat.le_div_iff_mul_le (by decide)]; rw [Nat.pow_succ] at h; exact h
    have h0 : 0 < 3 ^ k := Nat.pow_pos (by decide)
    rw [d3_pos (by omega)]
    have := d3_ge k (n / 3) h1
    omega
theorem Top.low {h : Nat} {t : T h} (H : Top h t) : h + 1 ≤ 2 + d3 (rowsT h t).length := by
  cases h with
  | zero => omega
  | succ g =>
    have h1 := wide_bound _ _ H.ok
    have h2 := H.two (by omega)
    have h3 : 2 * 3 ^ (g + 1) ≤ wideT (g + 1) t * 3 ^ (g + 1) := Nat.mul_le_mul_right _ h2
    have h4 := d3_ge (g + 1) _ (show 3 ^ (g + 1) ≤ (rowsT (g + 1) t).length by omega)
    omega
end Go.Proofs.Ytegomkgfmaclkaa
