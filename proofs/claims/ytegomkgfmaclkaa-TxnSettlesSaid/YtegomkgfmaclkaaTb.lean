/-
  A tree in memory: parts, each in its box, with all their blocks in K; rows of parts.
-/
import Derived.Test.YtegomkgfmaclkaaTa
import Derived.Test.YtegomkgfmaclkaaSl5
set_option linter.unusedVariables false
set_option linter.unusedSimpArgs false
namespace Go.Proofs.Ytegomkgfmaclkaa
open Go.RowKit Go.Proofs.PosteOrd Go.Proofs.PosteMem

/-- What a call leaves of the blocks C. -/
def Keeps (C : Nat → Prop) (W W' : World) : Prop := ∃ S : Nat → Prop, Upd S W W' ∧ ∀ b, C b → ¬ S b
section
variable {W W' W'' : World} {C C' : Nat → Prop}
theorem Keeps.refl (C : Nat → Prop) (W : World) : Keeps C W W := ⟨fun _ => False, Upd.refl _ _, fun _ _ t => t⟩
theorem Keeps.of_below (k : Below W.heap.size W W') : Keeps C W W' := ⟨fun _ => False, Upd.of_below k, fun _ _ t => t⟩
theorem Keeps.size (k : Keeps C W W') : W.heap.size ≤ W'.heap.size := let ⟨_, h, _⟩ := k; h.size
theorem Keeps.mono (k : Keeps C W W') (h : ∀ b, C' b → C b) : Keeps C' W W' := let ⟨S, h1, h2⟩ := k; ⟨S, h1, fun b hb => h2 b (h b hb)⟩
theorem Keeps.whole (k : Keeps C W W') {g : Nat} {t : TypeId} {cs : Array Value} (h : Whole W g t cs) (hg : C g) : Whole W' g t cs := let ⟨_, h1, h2⟩ := k; h.upd h1 (h2 g hg)
theorem view_upd0 {S : Nat → Prop} {sz n : Nat} {v : Value} {xs : List Value} (h : View W sz v n xs) (k : Upd S W W') (hS : 0 < n → ∀ b, blockOf v = some b → ¬ S b) : View W' sz v n xs := by
  rcases Nat.eq_zero_or_pos n with h0 | h0
  · subst h0
    have hx : xs = [] := by have := h.1; simp at this; exact this
    subst hx
    obtain ⟨hl, A, cap, e, h1, h2, h3, _⟩ := h
    exact ⟨hl, A, cap, e, h1, h2, h3, fun a _ j u hu => by cases hu⟩
  · exact View.upd h k (hS h0)
theorem Keeps.view {sz n : Nat} {v : Value} {xs : List Value} (k : Keeps C W W') (h : View W sz v n xs) (hv : 0 < n → ∀ b, blockOf v = some b → C b) : View W' sz v n xs := let ⟨_, h1, h2⟩ := k; view_upd0 h h1 fun h0 b hb => h2 b (hv h0 b hb)
end

theorem block_own (v : Value) : blockOf v = v.ownBlock := by
  unfold blockOf Value.ownBlock
  split
  · rfl
  · rename_i h
    split
    · exact absurd rfl (h _ _ _)
    · rfl
theorem blockOf_slice (A : Option Addr) (n m c c' : Nat) : blockOf (.slice A n c) = blockOf (.slice A m c') := by cases A <;> rfl
abbrev ptr (q : Nat) : Value := .pointer (some ⟨q, 0, none⟩)
/-- A part's cells: a leaf's box, or an inner node's. -/
def pa : Nat → Nat → Option Addr
  | 0, q => some ⟨q, 0, none⟩
  | _ + 1, _ => none
def pb : Nat → Nat → Option Addr
  | 0, _ => none
  | _ + 1, q => some ⟨q, 0, none⟩
def pcs (h q : Nat) : List Value := [.pointer (pa h q), .pointer (pb h q)]
theorem pcs_len (h q : Nat) : (pcs h q).length = 2 := rfl
theorem pcs_one (h : Nat) (qs : List Nat) : ∀ u ∈ qs.flatMap (pcs h), u.oneCell' = true := by
  intro u hu
  obtain ⟨q, _, hq⟩ := List.mem_flatMap.1 hu
  simp only [pcs, List.mem_cons, List.not_mem_nil, or_false] at hq
  rcases hq with rfl | rfl <;> rfl
def PAt (W : World) (K : Nat → Prop) : (h : Nat) → Nat → T h → Prop
  | 0, q, l => K q ∧ ∃ v, Whole W q 129 #[.int .i64 (List.length (α := Row) l), .string (firstT 0 l), v] ∧ VRows W v l ∧ (0 < List.length (α := Row) l → ∀ b, blockOf v = some b → K b)
  | h + 1, q, kids => K q ∧ ∃ (v : Value) (qs : List Nat), Whole W q 123 #[.int .i64 (rowsT (h + 1) kids).length, .string (firstT (h + 1) kids), v] ∧ qs.length = List.length (α := T h) kids ∧ View W 2 v (List.length (α := T h) kids) (qs.flatMap (pcs h)) ∧ (0 < List.length (α := T h) kids → ∀ b, blockOf v = some b → K b) ∧ ∀ i (h1 : i < qs.length) (k : T h), at? (α := T h) kids i = some k → PAt W K h qs[i] k
/-- A row of parts. -/
def PL (W : World) (K : Nat → Prop) (h : Nat) (v : Value) (ts : List (T h)) : Prop := ∃ qs : List Nat, qs.length = ts.length ∧ View W 2 v ts.length (qs.flatMap (pcs h)) ∧ (0 < ts.length → ∀ b, blockOf v = some b → K b) ∧ ∀ i (h1 : i < qs.length) (h2 : i < ts.length), PAt W K h qs[i] ts[i]
section
variable {W W' : World} {K K' : Nat → Prop}
theorem PAt.keep (k : Keeps K W W') : ∀ (h q : Nat) (t : T h), PAt W K h q t → PAt W' K h q t
  | 0, q, l, H => by
    obtain ⟨h1, v, h2, h3, h4⟩ := H
    exact ⟨h1, v, k.whole h2 h1, k.view h3 h4, h4⟩
  | h + 1, q, kids, H => by
    obtain ⟨h1, v, qs, h2, h3, h4, h5, h6⟩ := H
    exact ⟨h1, v, qs, k.whole h2 h1, h3, k.view h4 h5, h5, fun i a t ht => PAt.keep k h _ t (h6 i a t ht)⟩
theorem PAt.below {h q : Nat} {t : T h} (H : PAt W K h q t) (k : Below W.heap.size W W') : PAt W' K h q t := PAt.keep (Keeps.of_below k) h q t H
theorem PAt.mono (hK : ∀ b, K b → K' b) : ∀ (h q : Nat) (t : T h), PAt W K h q t → PAt W K' h q t
  | 0, q, l, H => by
    obtain ⟨h1, v, h2, h3, h4⟩ := H
    exact ⟨hK _ h1, v, h2, h3, fun h0 b hb => hK b (h4 h0 b hb)⟩
  | h + 1, q, kids, H => by
    obtain ⟨h1, v, qs, h2, h3, h4, h5, h6⟩ := H
    exact ⟨hK _ h1, v, qs, h2, h3, h4, fun h0 b hb => hK b (h5 h0 b hb), fun i a t ht => PAt.mono hK h _ t (h6 i a t ht)⟩
theorem PAt.inner {h q : Nat} {kids : List (T h)} (H : PAt W K (h + 1) q kids) : K q ∧ ∃ v, Whole W q 123 #[.int .i64 (rowsT (h + 1) kids).length, .string (firstT (h + 1) kids), v] ∧ PL W K h v kids := by
  obtain ⟨h1, v, qs, h2, h3, h4, h5, h6⟩ := H
  exact ⟨h1, v, h2, qs, h3, h4, h5, fun i a b => h6 i a _ (List.getElem?_eq_getElem b)⟩
theorem PAt.of_inner {h q : Nat} {kids : List (T h)} (h1 : K q) {v : Value} (h2 : Whole W q 123 #[.int .i64 (rowsT (h + 1) kids).length, .string (firstT (h + 1) kids), v]) (h3 : PL W K h v kids) : PAt W K (h + 1) q kids := by
  obtain ⟨qs, k1, k2, k3, k4⟩ := h3
  refine ⟨h1, v, qs, h2, k1, k2, k3, fun i a t ht => ?_⟩
  obtain ⟨b, e⟩ := List.getElem?_eq_some_iff.1 (show kids[i]? = some t from ht)
  rw [← e]
  exact k4 i a b
theorem PAt.leaf {q : Nat} {l : List Row} (H : PAt W K 0 q l) : K q ∧ ∃ v, Whole W q 129 #[.int .i64 l.length, .string (firstT 0 l), v] ∧ VRows W v l ∧ (0 < l.length → ∀ b, blockOf v = some b → K b) := H
theorem PL.keep {h : Nat} {v : Value} {ts : List (T h)} (H : PL W K h v ts) (k : Keeps K W W') : PL W' K h v ts := by
  obtain ⟨qs, k1, k2, k3, k4⟩ := H
  exact ⟨qs, k1, k.view k2 k3, k3, fun i a b => PAt.keep k h _ _ (k4 i a b)⟩
theorem PL.below {h : Nat} {v : Value} {ts : List (T h)} (H : PL W K h v ts) (k : Below W.heap.size W W') : PL W' K h v ts := H.keep (Keeps.of_below k)
/-- The cells of the i-th part. -/
theorem PL.at_ {h : Nat} {v : Value} {ts : List (T h)} (H : PL W K h v ts) (hn : 0 < ts.length) : ∃ b off cap, v = .slice (some ⟨b, off, none⟩) ts.length cap ∧ b < W.heap.size ∧ ts.length ≤ cap ∧ cap ≤ maxLen ∧ ∀ (i : Nat) (hi : i < ts.length), ∃ q, PAt W K h q ts[i] ∧ W.cell? ⟨b, off + i * 2, none⟩ = some (.pointer (pa h q)) ∧ W.cell? ⟨b, off + i * 2 + 1, none⟩ = some (.pointer (pb h q)) := by
  obtain ⟨qs, k1, k2, k3, k4⟩ := H
  obtain ⟨b, off, cap, e, h1, h2, hb, hc⟩ := View.elems (pcs h) (pcs_len h) (by rw [← k1] at k2; exact k2) (by decide) (by omega)
  exact ⟨b, off, cap, by rw [e, k1], hb, by omega, h2, fun i hi => ⟨qs[i]'(by omega), k4 i (by omega) hi, hc i (by omega) 0 _ rfl, hc i (by omega) 1 _ rfl⟩⟩
theorem PL.cells {h : Nat} {v : Value} {ts : List (T h)} (H : PL W K h v ts) : ∃ A cap, v = .slice A ts.length cap ∧ ts.length ≤ cap ∧ cap ≤ maxLen := by
  obtain ⟨qs, k1, k2, k3, k4⟩ := H
  exact k2.cells
theorem PL.nil (h : Nat) : PL W K h (.slice none 0 0) ([] : List (T h)) := ⟨[], rfl, View.nil _ _, fun h0 => absurd h0 (Nat.lt_irrefl 0), fun i h1 => absurd h1 (Nat.not_lt_zero _)⟩
theorem flatMap_take' (h n : Nat) (qs : List Nat) : (qs.flatMap (pcs h)).take (n * 2) = (qs.take n).flatMap (pcs h) := flatMap_take (pcs h) 2 (pcs_len h) n qs
theorem flatMap_drop' (h n : Nat) (qs : List Nat) : (qs.flatMap (pcs h)).drop (n * 2) = (qs.drop n).flatMap (pcs h) := flatMap_drop (pcs h) 2 (pcs_len h) n qs
theorem PL.take {h : Nat} {A : Option Addr} {cap : Nat} {ts : List (T h)} (H : PL W K h (.slice A ts.length cap) ts) {n : Nat} (hn : n ≤ ts.length) : PL W K h (.slice A n cap) (ts.take n) := by
  obtain ⟨qs, k1, k2, k3, k4⟩ := H
  have hl : (ts.take n).length = n := by rw [List.length_take]; omega
  refine ⟨qs.take n, by rw [List.length_take, List.length_take]; omega, ?_, fun h0 b hb => k3 (by omega) b ((blockOf_slice _ _ _ _ _).trans hb), fun i a b => ?_⟩
  · rw [hl, ← flatMap_take']
    exact View.take k2 hn
  · rw [List.getElem_take, List.getElem_take]
    exact k4 i (by rw [List.length_take] at a; omega) (by rw [List.length_take] at b; omega)
theorem PL.drop {h : Nat} {A : Option Addr} {cap : Nat} {ts : List (T h)} (H : PL W K h (.slice A ts.length cap) ts) {n : Nat} (hn : n ≤ ts.length) : PL W K h (.slice (if cap = n then A else Option.map (fun x => x.add (n * 2)) A) (ts.length - n) (cap - n)) (ts.drop n) := by
  obtain ⟨qs, k1, k2, k3, k4⟩ := H
  have hl : (ts.drop n).length = ts.length - n := by rw [List.length_drop]
  refine ⟨qs.drop n, by rw [List.length_drop, List.length_drop]; omega, ?_, fun h0 b hb => k3 (by omega) b ?_, fun i a b => ?_⟩
  · rw [hl, ← flatMap_drop']
    exact View.drop k2 hn
  · split at hb
    · exact (blockOf_slice _ _ _ _ _).trans hb
    · cases A with
      | none => cases hb
      | some a =>
        have : (a.add (n * 2)).block = a.block := by unfold Addr.add; split <;> rfl
        rw [← hb]
        show some a.block = some (a.add (n * 2)).block
        rw [this]
  · rw [List.getElem_drop, List.getElem_drop]
    exact k4 _ (by rw [List.length_drop] at a; omega) (by rw [List.length_drop] at b; omega)
theorem PL.drop' {h b off cap : Nat} {ts : List (T h)} (H : PL W K h (.slice (some ⟨b, off, none⟩) ts.length cap) ts) {n : Nat} (hn : n ≤ ts.length) (hc : ¬ cap = n) : PL W K h (.slice (some ⟨b, off + n * 2, none⟩) (ts.length - n) (cap - n)) (ts.drop n) := by
  have h1 := H.drop hn
  rw [if_neg hc] at h1
  simp only [Option.map_some] at h1
  rw [show (⟨b, off, none⟩ : Addr).add (n * 2) = ⟨b, off + n * 2, none⟩ by unfold Addr.add; split <;> simp_all] at h1
  exact h1
theorem PL.drop0 {h : Nat} {A : Option Addr} {cap : Nat} {ts : List (T h)} (H : PL W K h (.slice A ts.length cap) ts) {n : Nat} (hn : n ≤ ts.length) (hc : cap = n) : PL W K h (.slice A (ts.length - n) (cap - n)) (ts.drop n) := by
  have h1 := H.drop hn
  rw [if_pos hc] at h1
  exact h1
/-- An own row of parts. -/
theorem PL.own {h B : Nat} {v : Value} {ts : List (T h)} {qs : List Nat} (ho : W.ownsRow B 108 2 v ts.length (qs.flatMap (pcs h))) (k1 : qs.length = ts.length) (hK : ∀ b, B ≤ b → K b) (k4 : ∀ i (h1 : i < qs.length) (h2 : i < ts.length), PAt W K h qs[i] ts[i]) : PL W K h v ts :=
  ⟨qs, k1, View.of_own ho, fun _ b hb => hK b (own_lt ho ((block_own v).symm.trans hb)).1, k4⟩
end
end Go.Proofs.Ytegomkgfmaclkaa
