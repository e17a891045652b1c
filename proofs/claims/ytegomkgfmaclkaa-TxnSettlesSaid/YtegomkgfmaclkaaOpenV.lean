/-
  Arguments opened to slices that are read ('View').
-/
import Derived.Test.YtegomkgfmaclkaaOpen
import Derived.Test.YtegomkgfmaclkaaSl
namespace Go.Proofs.PosteOpen
open Go Go.Deep Go.RowKit Go.Proofs.PosteMem

/-- The cells of a plain value of a make without slices. -/
def Kd.enc : (k : Kd) → k.T → List Value
  | .int k, x => [.int k x]
  | .bool, x => [.bool x]
  | .str, x => [.string x]
  | .sl _ _, _ => [.bool false]
  | .nil, _ => []
  | .cons _ k r, x => k.enc x.1 ++ r.enc x.2
def Kd.flat : Kd → Bool
  | .int _ => true
  | .bool => true
  | .str => true
  | .sl _ _ => false
  | .nil => true
  | .cons _ k r => k.flat && r.flat
theorem Kd.enc_len : ∀ (k : Kd) (x : k.T), (k.enc x).length = k.size
  | .int _, _ => rfl
  | .bool, _ => rfl
  | .str, _ => rfl
  | .sl _ _, _ => rfl
  | .nil, _ => rfl
  | .cons _ k r, x => by simp only [Kd.enc, Kd.size, List.length_append, Kd.enc_len k, Kd.enc_len r]
theorem rd_enc {P : Program} {w : World} : ∀ (k : Kd) (c : List Value) (x : k.T), k.flat = true → Rd P w k c x → c = k.enc x
  | .int _, _, _, _, h => h.1
  | .bool, _, _, _, h => h
  | .str, _, _, _, h => h.1
  | .sl _ _, _, _, hf, _ => by simp [Kd.flat] at hf
  | .nil, _, _, _, h => h
  | .cons _ k r, c, x, hf, ⟨c1, c2, e, _, h1, h2⟩ => by
    simp only [Kd.flat, Bool.and_eq_true] at hf
    rw [e, rd_enc k c1 _ hf.1 h1, rd_enc r c2 _ hf.2 h2]
    rfl
theorem Kd.one : ∀ (k : Kd) (x : k.T), ∀ u ∈ k.enc x, u.oneCell' = true
  | .int _, _, _, h => by simp [Kd.enc] at h; subst h; rfl
  | .bool, _, _, h => by simp [Kd.enc] at h; subst h; rfl
  | .str, _, _, h => by simp [Kd.enc] at h; subst h; rfl
  | .sl _ _, _, _, h => by simp [Kd.enc] at h; subst h; rfl
  | .nil, _, _, h => by simp [Kd.enc] at h
  | .cons _ k r, x, u, h => by
    rcases List.mem_append.1 h with h | h
    · exact Kd.one k _ u h
    · exact Kd.one r _ u h

theorem flatten_len (sz : Nat) : ∀ (l : List (List Value)) (_ : ∀ c ∈ l, c.length = sz), l.flatten.length = l.length * sz
  | [], _ => by simp
  | c :: l, h => by
    rw [List.flatten_cons, List.length_append, flatten_len sz l (fun d hd => h d (.tail _ hd)), h c (.head _), List.length_cons, Nat.add_mul]
    omega
theorem flatten_at (sz : Nat) : ∀ (l : List (List Value)) (_ : ∀ c ∈ l, c.length = sz) (i : Nat) (hi : i < l.length) (q : Nat) (_ : q < sz), l.flatten[i * sz + q]? = l[i][q]?
  | [], _, i, hi, _, _ => by simp at hi
  | c :: l, h, 0, _, q, hq => by
    rw [List.flatten_cons, List.getElem?_append_left (by rw [h c (.head _)]; omega)]
    simp
  | c :: l, h, i + 1, hi, q, hq => by
    have hc := h c (.head _)
    rw [List.flatten_cons, List.getElem?_append_right (by rw [hc, Nat.add_mul]; omega), hc]
    have e : (i + 1) * sz + q - sz = i * sz + q := by rw [Nat.add_mul]; omega
    rw [e, flatten_at sz l (fun d hd => h d (.tail _ hd)) i (by simpa using hi) q hq]
    simp

theorem list_of_pts2 {α β : Type} (l : List α) (R : (i : Nat) → i < l.length → β → Prop) (h : ∀ i hi, ∃ y, R i hi y) : ∃ m : List β, m.length = l.length ∧ ∀ i (hi : i < l.length) (hj : i < m.length), R i hi m[i] := by
  obtain ⟨m, h1, h2⟩ := list_of_pts l.length (fun i y => ∃ hi, R i hi y) (fun i hi => by obtain ⟨y, hy⟩ := h i hi; exact ⟨y, hi, hy⟩)
  exact ⟨m, h1, fun i hi hj => (h2 i hj).2⟩

/-- An argument that is a slice, as a slice that is read: the cells of each element, and what they read as. -/
theorem rd_view {P : Program} {w : World} {e : TypeId} {k : Kd} {v : Value} {l : List k.T} (h : Rd P w (.sl e k) [v] l) :
    ∃ css : List (List Value), css.length = l.length ∧ (∀ c ∈ css, c.length = k.size) ∧ View w k.size v l.length css.flatten ∧ ∀ i (hi : i < l.length) (hj : i < css.length), Rd P w k css[i] l[i] := by
  obtain ⟨A, cap, h1, h2, h3, h4, h5, h6⟩ := h
  injection h1 with h1
  subst h1
  obtain ⟨css, hl, hc⟩ := list_of_pts2 l (fun i hi c => c.length = k.size ∧ (∀ a, A = some a → ∀ j, j < k.size → w.cell? (a.add (i * k.size + j)) = c[j]?) ∧ Rd P w k c l[i]) (fun i hi => by
    obtain ⟨a, c, ha, g1, g2, g3⟩ := h6 i hi
    refine ⟨c, g1, fun a' ha' => ?_, g3⟩
    rw [ha] at ha'
    injection ha' with ha'
    subst ha'
    exact g2)
  have hall : ∀ c ∈ css, c.length = k.size := by
    intro c hcm
    obtain ⟨i, hi, rfl⟩ := List.getElem_of_mem hcm
    exact (hc i (by omega) hi).1
  refine ⟨css, hl, hall, ⟨by rw [flatten_len k.size css hall, hl], A, cap, rfl, h2, h3, h5, fun a ha j u hu => ?_⟩, fun i hi hj => (hc i hi hj).2.2⟩
  have hjl : j < css.length * k.size := by
    rw [← flatten_len k.size css hall]
    exact (List.getElem?_eq_some_iff.1 hu).1
  have hk : 0 < k.size := by
    rcases Nat.eq_zero_or_pos k.size with h0 | h0
    · rw [h0] at hjl; omega
    · exact h0
  have hi : j / k.size < css.length := (Nat.div_lt_iff_lt_mul hk).2 hjl
  have hq : j % k.size < k.size := Nat.mod_lt _ hk
  have e : j / k.size * k.size + j % k.size = j := by rw [Nat.mul_comm]; exact Nat.div_add_mod j k.size
  have g := (hc (j / k.size) (by omega) hi).2.1 a ha (j % k.size) hq
  rw [e] at g
  rw [g, ← flatten_at k.size css hall _ hi _ hq, e]
  exact hu

/-- An argument that is a slice of elements without slices. -/
theorem rd_view_flat {P : Program} {w : World} {e : TypeId} {k : Kd} {v : Value} {l : List k.T} (hf : k.flat = true) (h : Rd P w (.sl e k) [v] l) : View w k.size v l.length (l.flatMap k.enc) := by
  obtain ⟨css, h1, h2, h3, h4⟩ := rd_view h
  have e : css = l.map k.enc := List.ext_getElem (by simpa using h1) (fun i hi hj => by
    rw [List.getElem_map]
    exact rd_enc k _ _ hf (h4 i (by omega) hi))
  rw [e] at h3
  rw [List.flatMap_def]
  exact h3
end Go.Proofs.PosteOpen
