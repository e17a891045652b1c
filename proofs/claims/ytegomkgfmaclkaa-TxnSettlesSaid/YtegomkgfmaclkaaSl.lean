/-
  Slices that are read (View), and what an append of such a slice to a row of the call's own comes to; which blocks may have turned (Upd).
-/
import Derived.Test.YtegomkgfmaclkaaMem
import Derived.Maps.AppendAt
import Derived.Deep.AppendLies
import Derived.Laws.MakeOwn
import Derived.Laws.OwnMore
import Derived.RegionTactic
import Derived.OwnWalk
namespace Go.Proofs.PosteMem
open Go Go.RowKit

/-! ### lists of elements of so many cells each -/
theorem flatMap_len {α : Type} (f : α → List Value) (sz : Nat) (hf : ∀ x, (f x).length = sz) : ∀ l : List α, (l.flatMap f).length = l.length * sz
  | [] => by simp
  | x :: l => by rw [List.flatMap_cons, List.length_append, hf, flatMap_len f sz hf l, List.length_cons, Nat.succ_mul, Nat.add_comm]
theorem flatMap_drop {α : Type} (f : α → List Value) (sz : Nat) (hf : ∀ x, (f x).length = sz) : ∀ (k : Nat) (l : List α), (l.flatMap f).drop (k * sz) = (l.drop k).flatMap f
  | 0, l => by simp
  | k + 1, [] => by simp
  | k + 1, x :: l => by
    rw [List.flatMap_cons, Nat.succ_mul, Nat.add_comm, ← List.drop_drop, List.drop_left' (hf x), flatMap_drop f sz hf k l]
    rfl
theorem flatMap_take {α : Type} (f : α → List Value) (sz : Nat) (hf : ∀ x, (f x).length = sz) : ∀ (k : Nat) (l : List α), (l.flatMap f).take (k * sz) = (l.take k).flatMap f
  | 0, l => by simp
  | k + 1, [] => by simp
  | k + 1, x :: l => by
    rw [List.flatMap_cons, Nat.succ_mul, Nat.add_comm, ← hf x, List.take_length_add_append, hf x, flatMap_take f sz hf k l]
    rfl
theorem flatMap_at {α : Type} (f : α → List Value) (sz : Nat) (hf : ∀ x, (f x).length = sz) (l : List α) (k : Nat) (hk : k < l.length) (j : Nat) (hj : j < sz) : (l.flatMap f)[k * sz + j]? = (f l[k])[j]? := by
  rw [← List.getElem?_drop, flatMap_drop f sz hf, List.drop_eq_getElem_cons hk, List.flatMap_cons, List.getElem?_append_left (by rw [hf]; exact hj)]

/-! ### which blocks may have turned -/
/-- Of the blocks that were there none has turned but those of S. -/
structure Upd (S : Nat → Prop) (w w' : World) : Prop where
  os : w'.os = w.os
  tape : w'.tape = w.tape
  output : w'.output = w.output
  size : w.heap.size ≤ w'.heap.size
  block : ∀ k, k < w.heap.size → ¬ S k → w'.heap[k]? = w.heap[k]?

section
variable {S T : Nat → Prop} {w w1 w2 : World}
theorem Upd.refl (S : Nat → Prop) (w : World) : Upd S w w := ⟨rfl, rfl, rfl, Nat.le_refl _, fun _ _ _ => rfl⟩
theorem Upd.trans (h : Upd S w w1) (k : Upd T w1 w2) (hT : ∀ b, b < w.heap.size → T b → S b) : Upd S w w2 :=
  ⟨k.os.trans h.os, k.tape.trans h.tape, k.output.trans h.output, Nat.le_trans h.size k.size, fun b hb hS =>
    (k.block b (Nat.lt_of_lt_of_le hb h.size) (fun t => hS (hT b hb t))).trans (h.block b hb hS)⟩
theorem Upd.mono (h : Upd S w w1) (hT : ∀ b, b < w.heap.size → S b → T b) : Upd T w w1 := ⟨h.os, h.tape, h.output, h.size, fun b hb ht => h.block b hb (fun s => ht (hT b hb s))⟩
theorem Upd.of_below (h : Below w.heap.size w w1) : Upd S w w1 := ⟨h.os, h.tape, h.output, h.size, fun b hb _ => h.block b hb⟩
theorem Upd.below (h : Upd S w w1) {B : Nat} (hB : B ≤ w.heap.size) (hS : ∀ b, S b → B ≤ b) : Below B w w1 :=
  ⟨h.os, h.tape, h.output, h.size, fun k hk => h.block k (by omega) (fun s => by have := hS k s; omega)⟩
theorem Upd.of_grown {row : Option Nat} (h : w.grownBy w1 row) (hr : ∀ k, row = some k → S k) : Upd S w w1 :=
  ⟨h.os, h.tape, h.output, h.size, fun b hb hS => h.block b hb (fun e => hS (hr b e.symm))⟩
theorem Upd.alloc (h : Upd S w w1) (o : Obj) : Upd S w (w1.alloc o) :=
  h.trans (T := fun _ => False) (Upd.of_below ((Below.refl _ _).alloc (Nat.le_refl _) o)) (fun _ _ t => t.elim)
theorem Upd.drew (h : Upd S w w1) : Upd S w w1.drew := ⟨h.os, h.tape, h.output, h.size, h.block⟩
theorem Upd.drewN (h : Upd S w w1) (n : Nat) : Upd S w (w1.drewN n) := ⟨h.os, h.tape, h.output, h.size, h.block⟩
theorem Upd.setCell (h : Upd S w w1) {p : Addr} (hp : w.heap.size ≤ p.block ∨ S p.block) (u : Value) : Upd S w (w1.setCell p u) :=
  ⟨h.os, h.tape, h.output, by simpa [World.setCell] using h.size, fun b hb hS => by
    have hne : b ≠ p.block := by
      rcases hp with hp | hp
      · omega
      · rintro rfl; exact hS hp
    rw [Below.heap_setCell _ _ _ _ hne]
    exact h.block b hb hS⟩
theorem Upd.cell (h : Upd S w w1) {p : Addr} (hp : p.block < w.heap.size) (hS : ¬ S p.block) : w1.cell? p = w.cell? p := World.cell?_of_block (w := w) (h.block p.block hp hS)
theorem Upd.frozen (h : Upd S w w1) {p : Addr} (hp : p.block < w.heap.size) (hS : ¬ S p.block) : w1.frozen? p = w.frozen? p := World.frozen?_of_block (w := w) (h.block p.block hp hS)
end

/-! ### a block that is known whole -/
/-- Block g is just these cells, none of them frozen. -/
def Whole (w : World) (g : Nat) (t : TypeId) (cs : Array Value) : Prop := w.heap[g]? = some (.cells cs t (0, 0))
section
variable {w w' : World} {g : Nat} {t : TypeId} {cs : Array Value}
theorem Whole.lt (h : Whole w g t cs) : g < w.heap.size := (Array.getElem?_eq_some_iff.1 h).1
theorem Whole.cell (h : Whole w g t cs) (i : Nat) : w.cell? ⟨g, i, none⟩ = cs[i]? := by
  unfold World.cell?
  rw [show w.heap[g]? = _ from h]
  rfl
theorem Whole.frozen (h : Whole w g t cs) (i : Nat) : w.frozen? ⟨g, i, none⟩ = false := by
  unfold World.frozen?
  rw [show w.heap[g]? = _ from h]
  simp
theorem Whole.new (w : World) (t : TypeId) (cs : Array Value) : Whole (w.alloc (.cells cs t)) w.heap.size t cs := heap_alloc_new w _
theorem Whole.set (h : Whole w g t cs) (i : Nat) (u : Value) : Whole (w.setCell ⟨g, i, none⟩ u) g t (cs.setIfInBounds i u) := by
  unfold Whole at h ⊢
  simp [World.setCell, Array.getElem?_modify, h]
theorem Whole.other (h : Whole w g t cs) {p : Addr} (hp : g ≠ p.block) (u : Value) : Whole (w.setCell p u) g t cs := (Below.heap_setCell w p u g hp).trans h
theorem Whole.upd {S : Nat → Prop} (h : Whole w g t cs) (k : Upd S w w') (hS : ¬ S g) : Whole w' g t cs := (k.block g h.lt hS).trans h
theorem Whole.below (h : Whole w g t cs) (k : Below w.heap.size w w') : Whole w' g t cs := (k.block g h.lt).trans h
theorem Whole.alloc (h : Whole w g t cs) (o : Obj) : Whole (w.alloc o) g t cs := (heap_alloc_old w o h.lt).trans h
theorem Whole.drew (h : Whole w g t cs) : Whole w.drew g t cs := h
theorem Whole.drewN (h : Whole w g t cs) (n : Nat) : Whole (w.drewN n) g t cs := h
theorem Whole.grown {row : Option Nat} (h : Whole w g t cs) (k : w.grownBy w' row) (hne : row ≠ some g) : Whole w' g t cs := (k.block g h.lt (fun e => hne e.symm)).trans h
theorem Whole.ne {g' : Nat} {t' : TypeId} {cs' : Array Value} (h : Whole w g t cs) (h' : Whole w g' t' cs') (hne : t ≠ t') : g ≠ g' := by
  rintro rfl
  unfold Whole at h h'
  rw [h] at h'
  injection h' with h'
  injection h' with _ ht
  exact hne ht
end

/-! ### a slice that is read -/
/-- A slice of n elements, sz cells each: xs are its cells. -/
def View (w : World) (sz : Nat) (v : Value) (n : Nat) (xs : List Value) : Prop :=
  xs.length = n * sz ∧ ∃ A cap, v = .slice A n cap ∧ n ≤ cap ∧ cap ≤ maxLen ∧ (A = none → cap = 0) ∧ ∀ a, A = some a → ∀ j u, xs[j]? = some u → w.cell? (a.add j) = some u
section
variable {w w' : World} {sz n : Nat} {v : Value} {xs : List Value}
theorem View.nil (w : World) (sz : Nat) : View w sz (.slice none 0 0) 0 [] := ⟨by simp, none, 0, rfl, Nat.le_refl _, by simp, fun _ => rfl, fun _ h => by cases h⟩
theorem View.len (h : View w sz v n xs) : xs.length = n * sz := h.1
/-- Where there is an element, its cells lie in one row. -/
theorem View.at_ (h : View w sz v n xs) (hn : 0 < n * sz) : ∃ b off cap, v = .slice (some ⟨b, off, none⟩) n cap ∧ n ≤ cap ∧ cap ≤ maxLen ∧ b < w.heap.size ∧ ∀ j u, xs[j]? = some u → w.cell? ⟨b, off + j, none⟩ = some u := by
  obtain ⟨hl, A, cap, rfl, h1, h2, h3, h4⟩ := h
  cases A with
  | none =>
    have := h3 rfl
    have : n = 0 := by omega
    subst this
    simp at hn
  | some a =>
    have h5 := h4 a rfl
    have h6 : xs[0]? = some (xs[0]'(by omega)) := List.getElem?_eq_getElem (by omega)
    have h7 := h5 0 _ h6
    have h8 : a.add 0 = a := by unfold Addr.add; simp
    rw [h8] at h7
    obtain ⟨b, off, sp⟩ := a
    have hsp : sp = none := by
      cases sp with
      | none => rfl
      | some s =>
        exfalso
        unfold World.cell? at h7
        split at h7 <;> simp at h7
    subst hsp
    refine ⟨b, off, cap, rfl, h1, h2, World.block_lt_of_cell? w _ h7, fun j u hu => ?_⟩
    have h9 := h5 j u hu
    have h10 : (⟨b, off, none⟩ : Addr).add j = ⟨b, off + j, none⟩ := by unfold Addr.add; split <;> simp_all
    rwa [h10] at h9
theorem View.keep (h : View w sz v n xs) (hk : ∀ a : Addr, (∃ u, w.cell? a = some u) → w'.cell? a = w.cell? a) : View w' sz v n xs := by
  obtain ⟨hl, A, cap, rfl, h1, h2, h3, h4⟩ := h
  exact ⟨hl, A, cap, rfl, h1, h2, h3, fun a ha j u hu => (hk _ ⟨u, h4 a ha j u hu⟩).trans (h4 a ha j u hu)⟩
theorem View.below (h : View w sz v n xs) (hb : Below w.heap.size w w') : View w' sz v n xs :=
  h.keep fun _ ⟨_, hu⟩ => hb.cell (World.block_lt_of_cell? w _ hu)
theorem View.alloc (h : View w sz v n xs) (o : Obj) : View (w.alloc o) sz v n xs := h.below ((Below.refl _ _).alloc (Nat.le_refl _) o)
theorem View.drewN (h : View w sz v n xs) (k : Nat) : View (w.drewN k) sz v n xs := h
theorem View.drew (h : View w sz v n xs) : View w.drew sz v n xs := h
/-- The box of one element that an append of it lays first. -/
theorem View.box (w : World) (cs : Array Value) (t : TypeId) (h : cs.size = sz) : View (w.alloc (.cells cs t)) sz (.slice (some ⟨w.heap.size, 0, none⟩) 1 1) 1 cs.toList := by
  refine ⟨by simp [h], _, 1, rfl, Nat.le_refl _, by unfold maxLen; omega, (fun h => by cases h), fun a ha j u hu => ?_⟩
  cases ha
  have e : (⟨w.heap.size, 0, none⟩ : Addr).add j = ⟨w.heap.size, j, none⟩ := by unfold Addr.add; split <;> simp_all
  rw [e, cell_new]
  simpa using hu
theorem View.boxAt (w : World) (xs : List Value) (t : TypeId) (b : Nat) (h : xs.length = sz) (hb : b = w.heap.size) : View (w.alloc (.cells xs.toArray t)) sz (.slice (some ⟨b, 0, none⟩) 1 1) 1 xs := by
  subst hb
  exact View.box w xs.toArray t (by simpa using h)
theorem add_twice (a : Addr) (i j : Nat) : (a.add i).add j = a.add (i + j) := by
  unfold Addr.add
  by_cases hi : i = 0 <;> by_cases hj : j = 0 <;> simp [hi, hj, Nat.add_assoc]
/-- A slice from an element on. -/
theorem View.drop {A : Option Addr} {cap k : Nat} (h : View w sz (.slice A n cap) n xs) (hk : k ≤ n) : View w sz (.slice (if cap = k then A else Option.map (fun x => x.add (k * sz)) A) (n - k) (cap - k)) (n - k) (xs.drop (k * sz)) := by
  obtain ⟨hl, A', cap', e, h1, h2, h3, h4⟩ := h
  injection e with e1 e2 e3
  subst e1 e3
  refine ⟨by rw [List.length_drop, hl, Nat.sub_mul], _, _, rfl, by omega, by omega, fun hA => ?_, fun a ha j u hu => ?_⟩
  · split at hA
    · omega
    · cases A with
      | none => have := h3 rfl; omega
      | some a => simp at hA
  · rw [List.getElem?_drop] at hu
    by_cases hc : cap = k
    · exfalso
      have hle : xs.length ≤ k * sz := by rw [hl]; exact Nat.mul_le_mul_right _ (by omega)
      rw [List.getElem?_eq_none (by omega)] at hu
      cases hu
    · rw [if_neg hc] at ha
      cases A with
      | none => simp at ha
      | some a0 =>
        simp only [Option.map_some, Option.some.injEq] at ha
        subst ha
        rw [add_twice]
        exact h4 a0 rfl _ u hu
/-- The first elements of a slice. -/
theorem View.take {A : Option Addr} {cap k : Nat} (h : View w sz (.slice A n cap) n xs) (hk : k ≤ n) : View w sz (.slice A k cap) k (xs.take (k * sz)) := by
  obtain ⟨hl, A', cap', e, h1, h2, h3, h4⟩ := h
  injection e with e1 e2 e3
  subst e1 e3
  have hle : k * sz ≤ n * sz := Nat.mul_le_mul_right _ hk
  refine ⟨by rw [List.length_take, hl]; omega, _, _, rfl, by omega, h2, h3, fun a ha j u hu => h4 a ha j u ?_⟩
  rw [List.getElem?_take] at hu
  split at hu
  · exact hu
  · cases hu
/-- The block in which a slice's cells lie, if it has any. -/
def blockOf : Value → Option Nat
  | .slice (some a) _ _ => some a.block
  | _ => none
theorem View.upd {S : Nat → Prop} (h : View w sz v n xs) (k : Upd S w w') (hS : ∀ b, blockOf v = some b → ¬ S b) : View w' sz v n xs := by
  obtain ⟨hl, A, cap, rfl, h1, h2, h3, h4⟩ := h
  refine ⟨hl, A, cap, rfl, h1, h2, h3, fun a ha j u hu => ?_⟩
  have h5 := h4 a ha j u hu
  have hb : (a.add j).block = a.block := by unfold Addr.add; split <;> rfl
  subst ha
  rw [k.cell (World.block_lt_of_cell? w _ h5) (by rw [hb]; exact hS _ rfl)]
  exact h5
theorem View.of_own {base : Nat} {e : TypeId} (h : w.ownsRow base e sz v n xs) : View w sz v n xs := by
  refine ⟨h.1, ?_⟩
  rcases h.2 with ⟨rfl, rfl⟩ | ⟨g, cap, cur, rfl, h1, h2, h3, h4, h5, h6⟩
  · exact ⟨none, 0, rfl, Nat.le_refl _, by simp, fun _ => rfl, fun _ ha => by cases ha⟩
  · refine ⟨_, cap, rfl, h3, h4, fun ha => (by cases ha), fun a ha j u hu => ?_⟩
    injection ha with ha
    subst ha
    exact h.cells (g := g) rfl j u hu
/-- A row of a slice, from an element on. -/
theorem View.cells (h : View w sz v n xs) : ∃ A cap, v = .slice A n cap ∧ n ≤ cap ∧ cap ≤ maxLen := by
  obtain ⟨_, A, cap, e, h1, h2, _⟩ := h
  exact ⟨A, cap, e, h1, h2⟩
end

/-! ### what is owned -/
section
variable {w w' : World} {base : Nat} {e : TypeId} {sz n : Nat} {v : Value} {xs : List Value}
theorem own_upd {S : Nat → Prop} (h : w.ownsRow base e sz v n xs) (k : Upd S w w') (hS : ∀ b, v.ownBlock = some b → ¬ S b) : w'.ownsRow base e sz v n xs := by
  refine ⟨h.1, ?_⟩
  rcases h.2 with h1 | ⟨g, cap, cur, rfl, h1, h2, h3⟩
  · exact .inl h1
  · exact .inr ⟨g, cap, cur, rfl, h1, (k.block g (Array.getElem?_eq_some_iff.1 h2).1 (hS g rfl)).trans h2, h3⟩
theorem own_below (h : w.ownsRow base e sz v n xs) (k : Below w.heap.size w w') : w'.ownsRow base e sz v n xs := own_upd h (Upd.of_below (S := fun _ => False) k) (fun _ _ t => t)
theorem own_drew (h : w.ownsRow base e sz v n xs) : w.drew.ownsRow base e sz v n xs := h
theorem own_drewN (h : w.ownsRow base e sz v n xs) (k : Nat) : (w.drewN k).ownsRow base e sz v n xs := h
theorem own_grown {row : Option Nat} (h : w.ownsRow base e sz v n xs) (k : w.grownBy w' row) (hne : ∀ b, v.ownBlock = some b → row ≠ some b) : w'.ownsRow base e sz v n xs :=
  own_upd h (Upd.of_grown (S := fun b => row = some b) k (fun _ h => h)) hne
theorem own_setCell (h : w.ownsRow base e sz v n xs) {p : Addr} (hp : v.ownBlock ≠ some p.block) (u : Value) : (w.setCell p u).ownsRow base e sz v n xs :=
  own_upd h ((Upd.refl (fun b => b = p.block) w).setCell (.inr rfl) u) (fun b hb e => hp (by rw [hb, e]))
theorem own_lt (h : w.ownsRow base e sz v n xs) {b : Nat} (hb : v.ownBlock = some b) : base ≤ b ∧ b < w.heap.size := h.lt b hb
theorem own_mono {base' : Nat} (h : w.ownsRow base e sz v n xs) (hb : base' ≤ base) : w.ownsRow base' e sz v n xs := by
  refine ⟨h.1, ?_⟩
  rcases h.2 with h1 | ⟨g, cap, cur, rfl, h1, h2⟩
  · exact .inl h1
  · exact .inr ⟨g, cap, cur, rfl, by omega, h2⟩
theorem own_ne_whole {g : Nat} {t : TypeId} {cs : Array Value} (h : w.ownsRow base e sz v n xs) (hg : Whole w g t cs) (hne : e ≠ t) : v.ownBlock ≠ some g := by
  rcases h.2 with ⟨rfl, _⟩ | ⟨g', cap, cur, rfl, _, hh, _⟩
  · simp [Value.ownBlock]
  · intro he
    have : g' = g := by simpa [Value.ownBlock] using he
    subst this
    exact Whole.ne (t := e) hh hg hne rfl
theorem own_ne_own {base' : Nat} {e' : TypeId} {sz' n' : Nat} {v' : Value} {xs' : List Value} (h : w.ownsRow base e sz v n xs) (h' : w.ownsRow base' e' sz' v' n' xs') (hne : e ≠ e') (b : Nat) (hb : v.ownBlock = some b) : v'.ownBlock ≠ some b := by
  rcases h'.2 with ⟨rfl, _⟩ | ⟨g', cap, cur, rfl, _, hh, _⟩
  · simp [Value.ownBlock]
  · intro he
    have : g' = b := by simpa [Value.ownBlock] using he
    subst this
    exact own_ne_whole h (show Whole w g' e' cur from hh) hne hb
/-- The first elements of a row. -/
theorem own_take (h : w.ownsRow base e sz v n xs) {k : Nat} (hk : k ≤ n) : ∃ A cap, v = .slice A n cap ∧ w.ownsRow base e sz (.slice A k cap) k (xs.take (k * sz)) := by
  rcases h.2 with ⟨rfl, rfl⟩ | ⟨g, cap, cur, rfl, h1, h2, h3, h4, h5, h6⟩
  · obtain rfl : k = 0 := by omega
    exact ⟨none, 0, rfl, by simp, .inl ⟨rfl, rfl⟩⟩
  · have hle : k * sz ≤ n * sz := Nat.mul_le_mul_right _ hk
    refine ⟨_, cap, rfl, by rw [List.length_take, h.1]; omega, .inr ⟨g, cap, cur, rfl, h1, h2, by omega, h4, h5, ?_⟩⟩
    rw [← h6, List.take_take, Nat.min_eq_left hle]
theorem own_shape (h : w.ownsRow base e sz v n xs) : ∃ A cap, v = .slice A n cap ∧ n ≤ cap ∧ cap ≤ maxLen ∧ (A = none → cap = 0) := by
  rcases h.2 with ⟨rfl, rfl⟩ | ⟨g, cap, cur, rfl, h1, h2, h3, h4, h5, h6⟩
  · exact ⟨none, 0, rfl, Nat.le_refl _, by simp, fun _ => rfl⟩
  · exact ⟨_, cap, rfl, h3, h4, fun h => by cases h⟩
end

/-! ### append of a slice that is read -/
section
variable {P : Program} (w : World)
theorem run_append_view (base : Nat) (t ty e : TypeId) (i : TypeInfo) (z : Value) (sz bytes : Nat) (ht : P.underlying t = some (.slice e)) (hi : P.info? e = some i) (hz : i.zero = some z)
    (hsz : i.size = sz) (hby : i.bytes = bytes) (hzs : z.cells.size = sz) (h0 : 0 < sz)
    (v : Value) (n : Nat) (xs : List Value) (hown : w.ownsRow base e sz v n xs) (x : Value) (m : Nat) (ys : List Value) (hx : View w sz x m ys) (h1 : ∀ u ∈ ys, u.oneCell' = true)
    (hb : (n + m) * bytes ≤ 140737488355328) (hm : n + m ≤ maxLen) (hbase : base ≤ w.heap.size) :
    ∃ v' w', (Builtin.append_ #[t, t] ty #[v, x]).run P w = .ok v' w' ∧ w'.ownsRow base e sz v' (n + m) (xs ++ ys) ∧ w.grownBy w' v.ownBlock ∧ (v'.ownBlock = v.ownBlock ∨ v'.ownBlock = some w.heap.size) := by
  obtain ⟨hl, A, cap, rfl, h2, h3, h4, h5⟩ := hx
  cases A with
  | some a =>
    obtain ⟨v', w', h6, h7, h8, _, h9⟩ := run_append_own_at (P := P) w base t ty e i z sz bytes ht hi hz hsz hby hzs h0 v n xs hown a m cap ys hl (h5 a rfl) h1 hm hb hbase
    exact ⟨v', w', h6, h7, h8, h9⟩
  | none =>
    have hc := h4 rfl
    obtain rfl : m = 0 := by omega
    subst hc
    obtain rfl : ys = [] := List.eq_nil_of_length_eq_zero (by simpa using hl)
    refine ⟨v, w, ?_, by simpa using hown, ⟨rfl, rfl, rfl, Nat.le_refl _, fun _ _ _ => rfl⟩, .inl rfl⟩
    rcases hown.2 with ⟨rfl, rfl⟩ | ⟨g, cp, cur, rfl, _, _, hnc, _⟩
    · simp [Builtin.append_, run_underlying ht, sizeOf, typeInfo, hi, Builtin.lenOf, Builtin.firstCells]
    · simp [Builtin.append_, run_underlying ht, sizeOf, typeInfo, hi, Builtin.lenOf, Builtin.firstCells, hnc, storeCells]
theorem wp_append_view {o : Oper} {a : Act} {K : Act → World → Prop} {Q : Exit → Act → World → Prop} (s x : Operand) (t : TypeId)
    (ho : o.op = .call { callee := .builtin .append, args := #[s, x], argTypes := #[t, t] }) (base : Nat) (e : TypeId) (i : TypeInfo) (z : Value) (sz bytes : Nat) (ht : P.underlying t = some (.slice e)) (hi : P.info? e = some i) (hz : i.zero = some z)
    (hsz : i.size = sz) (hby : i.bytes = bytes) (hzs : z.cells.size = sz) (h0 : 0 < sz)
    (v : Value) (n : Nat) (xs : List Value) (hs : a.eval s = v) (hown : w.ownsRow base e sz v n xs) (y : Value) (m : Nat) (ys : List Value) (hxx : a.eval x = y) (hx : View w sz y m ys) (h1 : ∀ u ∈ ys, u.oneCell' = true)
    (hb : (n + m) * bytes ≤ 140737488355328) (hm : n + m ≤ maxLen) (hbase : base ≤ w.heap.size)
    (h : ∀ v' w', w'.ownsRow base e sz v' (n + m) (xs ++ ys) → w.grownBy w' v.ownBlock → (v'.ownBlock = v.ownBlock ∨ v'.ownBlock = some w.heap.size) → K (a.put o.dst v') w') : o.wp P a w K Q := by
  obtain ⟨v', w', h6, h7, h8, h9⟩ := run_append_view (P := P) w base t o.type e i z sz bytes ht hi hz hsz hby hzs h0 v n xs hown y m ys hx h1 hb hm hbase
  unfold Oper.wp execOp
  simp only [ho, resolve, invoke, builtin, Sem.run_bind, Sem.run_pure, Result.andThen_ok, List.map_toArray, List.map_cons, List.map_nil, hs, hxx, h6]
  exact h v' w' h7 h8 h9
theorem wpList_append_view {ops : Array Oper} {rest : List Oper} {o : Oper} {a : Act} {Q : Exit → Act → World → Prop} (hgd : o.guard = none) (s x : Operand) (t : TypeId)
    (ho : o.op = .call { callee := .builtin .append, args := #[s, x], argTypes := #[t, t] }) (base : Nat) (e : TypeId) (i : TypeInfo) (z : Value) (sz bytes : Nat) (ht : P.underlying t = some (.slice e)) (hi : P.info? e = some i) (hz : i.zero = some z)
    (hsz : i.size = sz) (hby : i.bytes = bytes) (hzs : z.cells.size = sz) (h0 : 0 < sz)
    (v : Value) (n : Nat) (xs : List Value) (hs : a.eval s = v) (hown : w.ownsRow base e sz v n xs) (y : Value) (m : Nat) (ys : List Value) (hxx : a.eval x = y) (hx : View w sz y m ys) (h1 : ∀ u ∈ ys, u.oneCell' = true)
    (hb : (n + m) * bytes ≤ 140737488355328) (hm : n + m ≤ maxLen) (hbase : base ≤ w.heap.size)
    (h : ∀ v' w', w'.ownsRow base e sz v' (n + m) (xs ++ ys) → w.grownBy w' v.ownBlock → (v'.ownBlock = v.ownBlock ∨ v'.ownBlock = some w.heap.size) → wpList P ops Q rest (a.put o.dst v') w') : wpList P ops Q (o :: rest) a w :=
  wpList_plain hgd fun _ hK => wp_append_view w s x t ho base e i z sz bytes ht hi hz hsz hby hzs h0 v n xs hs hown y m ys hxx hx h1 hb hm hbase fun v' w' h2 h3 h4 => hK _ _ (h v' w' h2 h3 h4)
theorem step_append_view {ops : Array Oper} {o : Oper} {a : Act} {K : Act → World → Prop} {Q : Exit → Act → World → Prop} {E : Prop} (hgd : o.guard = none) (s x : Operand) (t : TypeId)
    (ho : o.op = .call { callee := .builtin .append, args := #[s, x], argTypes := #[t, t] }) (base : Nat) (e : TypeId) (i : TypeInfo) (z : Value) (sz bytes : Nat) (ht : P.underlying t = some (.slice e)) (hi : P.info? e = some i) (hz : i.zero = some z)
    (hsz : i.size = sz) (hby : i.bytes = bytes) (hzs : z.cells.size = sz) (h0 : 0 < sz)
    (v : Value) (n : Nat) (xs : List Value) (hs : a.eval s = v) (hown : w.ownsRow base e sz v n xs) (y : Value) (m : Nat) (ys : List Value) (hxx : a.eval x = y) (hx : View w sz y m ys) (h1 : ∀ u ∈ ys, u.oneCell' = true)
    (hb : (n + m) * bytes ≤ 140737488355328) (hm : n + m ≤ maxLen) (hbase : base ≤ w.heap.size)
    (h : ∀ v' w', w'.ownsRow base e sz v' (n + m) (xs ++ ys) → w.grownBy w' v.ownBlock → (v'.ownBlock = v.ownBlock ∨ v'.ownBlock = some w.heap.size) → K (a.put o.dst v') w') :
    if Region.wanted o (yielded ops a.tmps) = true then Oper.wp P o a w K Q else E := by
  have hw : Region.wanted o (yielded ops a.tmps) = true := by simp [Region.wanted, hgd]
  rw [if_pos hw]
  exact wp_append_view w s x t ho base e i z sz bytes ht hi hz hsz hby hzs h0 v n xs hs hown y m ys hxx hx h1 hb hm hbase h
end
end Go.Proofs.PosteMem
