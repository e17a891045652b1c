/-
  Arguments opened to plain Lean values, whatever their make out of whole numbers, bools, texts, slices and structs: 'Kd' tells a type's make, 'Rd' what its cells read as.
-/
import Derived.Deep.Slices
import Derived.ChangeSame
import Derived.SizedLaws
import Derived.Below
namespace Go.Proofs.PosteOpen
open Go Go.Deep Go.RowKit

inductive Kd where
  | int (k : IntKind)
  | bool
  | str
  | sl (e : TypeId) (k : Kd)
  | nil
  | cons (t : TypeId) (k r : Kd)

@[reducible] def Kd.T : Kd → Type
  | .int _ => Int
  | .bool => Bool
  | .str => ByteArray
  | .sl _ k => List k.T
  | .nil => Unit
  | .cons _ k r => k.T × r.T

def Kd.size : Kd → Nat
  | .int _ => 1
  | .bool => 1
  | .str => 1
  | .sl _ _ => 1
  | .nil => 0
  | .cons _ k r => k.size + r.size

/-- Is a type of that make? 'fits': a type; 'fitsF': a struct's fields from one on. -/
def Kd.fitsF (P : Program) (fits : Kd → TypeId → Bool) : Kd → List Field → Nat → Bool
  | .nil, [], _ => true
  | .cons t k r, f :: fs, off => decide (f.type = t) && (decide (f.offset = off) && (decide (P.cellsOf t = k.size) && (fits k t && Kd.fitsF P fits r fs (off + k.size))))
  | _, _, _ => false

def Kd.fits (P : Program) : Nat → Kd → TypeId → Bool
  | 0, _, _ => false
  | _ + 1, .int k, t => match P.underlying t with
    | some (.int k') => decide (k' = k)
    | _ => false
  | _ + 1, .bool, t => match P.underlying t with
    | some .bool => true
    | _ => false
  | _ + 1, .str, t => match P.underlying t with
    | some .string => true
    | _ => false
  | n + 1, .sl e k, t => match P.underlying t with
    | some (.slice e') => decide (e' = e) && (decide (P.cellsOf e = k.size) && Kd.fits P n k e)
    | _ => false
  | n + 1, .cons t' k r, t => match P.underlying t with
    | some (.struct fs) => decide (P.cellsOf t = (Kd.cons t' k r).size) && Kd.fitsF P (Kd.fits P n) (.cons t' k r) fs.toList 0
    | _ => false
  | _ + 1, .nil, _ => false

/-- What cells read as. -/
def Rd (P : Program) (w : World) : (k : Kd) → List Value → k.T → Prop
  | .int k, cs, x => cs = [.int k x] ∧ (Lit.int k x).wf = true
  | .bool, cs, x => cs = [.bool x]
  | .str, cs, x => cs = [.string x] ∧ x.size ≤ reachBytes
  | .sl e k, cs, l => ∃ A cap, cs = [.slice A l.length cap] ∧ l.length ≤ cap ∧ cap ≤ maxLen ∧ cap * P.bytesOf e ≤ reachBytes ∧ (A = none → cap = 0) ∧
      ∀ i (h : i < l.length), ∃ a c, A = some a ∧ c.length = k.size ∧ (∀ j, j < k.size → w.cell? (a.add (i * k.size + j)) = c[j]?) ∧ Rd P w k c l[i]
  | .nil, cs, _ => cs = []
  | .cons _ k r, cs, x => ∃ c1 c2, cs = c1 ++ c2 ∧ c1.length = k.size ∧ Rd P w k c1 x.1 ∧ Rd P w r c2 x.2

theorem Rd.below {P : Program} {w w' : World} (hb : Below w.heap.size w w') : ∀ (k : Kd) (cs : List Value) (x : k.T), Rd P w k cs x → Rd P w' k cs x
  | .int _, _, _, h => h
  | .bool, _, _, h => h
  | .str, _, _, h => h
  | .nil, _, _, h => h
  | .sl e k, _, _, ⟨A, cap, h1, h2, h3, h4, h5, h⟩ => ⟨A, cap, h1, h2, h3, h4, h5, fun i hi => by
      obtain ⟨a, c, ha, hl, hc, hr⟩ := h i hi
      refine ⟨a, c, ha, hl, fun j hj => ?_, Rd.below hb k c _ hr⟩
      have h6 := hc j hj
      have h7 : c[j]? = some (c[j]'(by omega)) := List.getElem?_eq_getElem (by omega)
      rw [h7] at h6 ⊢
      exact (hb.cell (World.block_lt_of_cell? w _ h6)).trans h6⟩
  | .cons _ k r, _, _, ⟨c1, c2, h1, h2, h3, h4⟩ => ⟨c1, c2, h1, h2, Rd.below hb k _ _ h3, Rd.below hb r _ _ h4⟩

section
variable {H : Type} {enc : TypeId × Value → H} {P : Program} {w : World}

def Light (P : Program) (t : TypeId) (d : DataW H) : Prop := ∀ n ∈ d.weights P t, n ≤ reachBytes

theorem weights_all_mem {e : TypeId} {d : DataW H} : ∀ {l : List (DataW H)}, d ∈ l → ∀ n ∈ d.weights P e, n ∈ DataW.weightsAll P e l
  | _ :: _, .head _, n, hn => by simp only [DataW.weightsAll, List.mem_append]; exact .inl hn
  | _ :: _, .tail _ h, n, hn => by simp only [DataW.weightsAll, List.mem_append]; exact .inr (weights_all_mem h n hn)

theorem list_of_pts {α : Type} (n : Nat) (R : Nat → α → Prop) (h : ∀ i, i < n → ∃ x, R i x) : ∃ l : List α, l.length = n ∧ ∀ i (hi : i < l.length), R i l[i] := by
  induction n with
  | zero => exact ⟨[], rfl, fun i hi => absurd hi (by simp)⟩
  | succ n ih =>
    obtain ⟨l, hl, hr⟩ := ih fun i hi => h i (by omega)
    obtain ⟨x, hx⟩ := h n (by omega)
    refine ⟨l ++ [x], by simp [hl], fun i hi => ?_⟩
    by_cases hin : i < l.length
    · rw [List.getElem_append_left hin]; exact hr i hin
    · have : i = n := by simp at hi; omega
      subst this
      rw [List.getElem_append_right (by omega)]
      simpa [hl] using hx

theorem Rd.length : ∀ (k : Kd) (cs : List Value) (x : k.T), Rd P w k cs x → cs.length = k.size
  | .int _, _, _, h => by rw [h.1]; rfl
  | .bool, _, _, h => by rw [show _ = _ from h]; rfl
  | .str, _, _, h => by rw [h.1]; rfl
  | .nil, _, _, h => by rw [show _ = _ from h]; rfl
  | .sl _ _, _, _, ⟨_, _, h, _⟩ => by rw [h]; rfl
  | .cons _ k r, _, _, ⟨c1, c2, h1, h2, _, h4⟩ => by rw [h1, List.length_append, h2, Rd.length r _ _ h4]; rfl

theorem rd_fields (N n : Nat) (spare : Nat → Bool) (ih : ∀ (k : Kd) (t : TypeId) (cs : List Value) (x : DataW H × List MemPlace), k.fits P N t = true → DataW.trod enc P w 0 spare true n t cs = some x → Light P t x.1 → ∃ v, Rd P w k cs v) :
    ∀ (k : Kd) (fs : List Field) (off : Nat) (cs : List Value) (xs : List (DataW H × List MemPlace)), k.fitsF P (Kd.fits P N) fs off = true → cs.length = off + k.size → xs.length = fs.length →
      (∀ (i : Nat) (f : Field), fs[i]? = some f → DataW.trod enc P w 0 spare true n f.type ((cs.drop f.offset).take (P.cellsOf f.type)) = xs[i]?) →
      (∀ (i : Nat) (f : Field) (x : DataW H × List MemPlace), fs[i]? = some f → xs[i]? = some x → Light P f.type x.1) → ∃ v, Rd P w k (cs.drop off) v
  | .nil, [], off, cs, xs, _, hc, _, _, _ => ⟨(), by
      show cs.drop off = []
      exact List.drop_eq_nil_of_le (by rw [hc]; simp [Kd.size])⟩
  | .cons t k r, f :: fs, off, cs, xs, hf, hc, hl, hg, hw => by
    simp only [Kd.fitsF, Bool.and_eq_true, decide_eq_true_eq] at hf
    obtain ⟨rfl, rfl, h3, h4, h5⟩ := hf
    match xs, hl with
    | x :: xs, hl =>
      have h6 := hg 0 f rfl
      simp only [List.getElem?_cons_zero] at h6
      obtain ⟨v1, hv1⟩ := ih k f.type _ x h4 h6 (hw 0 f x rfl rfl)
      obtain ⟨v2, hv2⟩ := rd_fields N n spare ih r fs (f.offset + k.size) cs xs h5 (by rw [hc]; simp [Kd.size]; omega) (by simpa using hl) (fun i g hi => hg (i + 1) g hi) (fun i g y hi hy => hw (i + 1) g y hi hy)
      refine ⟨(v1, v2), _, _, ?_, ?_, hv1, hv2⟩
      · rw [h3, ← List.drop_drop, List.take_append_drop]
      · rw [List.length_take, List.length_drop, h3, hc]
        simp only [Kd.size]
        omega
  | .nil, _ :: _, _, _, _, hf, _, _, _, _ => by simp [Kd.fitsF] at hf
  | .cons _ _ _, [], _, _, _, hf, _, _, _, _ => by simp [Kd.fitsF] at hf
  | .int _, _, _, _, _, hf, _, _, _, _ => by simp [Kd.fitsF] at hf
  | .bool, _, _, _, _, hf, _, _, _, _ => by simp [Kd.fitsF] at hf
  | .str, _, _, _, _, hf, _, _, _, _ => by simp [Kd.fitsF] at hf
  | .sl _ _, _, _, _, _, hf, _, _, _, _ => by simp [Kd.fitsF] at hf

/-- A reading at a type of a known make reads as a plain value of that make. -/
theorem rd_of_trod : ∀ (N fuel : Nat) (k : Kd) (t : TypeId) (cs : List Value) (x : DataW H × List MemPlace), k.fits P N t = true → DataW.trod enc P w 0 (fun _ => true) true fuel t cs = some x → Light P t x.1 → ∃ v, Rd P w k cs v
  | 0, _, _, _, _, _, hf, _, _ => by simp [Kd.fits] at hf
  | N + 1, fuel, .int k, t, cs, x, hf, h, _ => by
    simp only [Kd.fits] at hf
    split at hf
    · rename_i k' hu
      obtain rfl := of_decide_eq_true hf
      obtain ⟨m, rfl, _, hm⟩ := DataW.trod_int hu h
      exact ⟨m, rfl, hm⟩
    · cases hf
  | N + 1, fuel, .bool, t, cs, x, hf, h, _ => by
    simp only [Kd.fits] at hf
    split at hf
    · rename_i hu
      obtain ⟨b, rfl, _⟩ := DataW.trod_bool hu h
      exact ⟨b, rfl⟩
    · cases hf
  | N + 1, fuel, .str, t, cs, x, hf, h, hw => by
    simp only [Kd.fits] at hf
    split at hf
    · rename_i hu
      obtain ⟨s, rfl, rfl, _⟩ := DataW.trod_string hu h
      refine ⟨s, rfl, ?_⟩
      have := hw s.data.toList.length (by simp [DataW.weights])
      simpa using this
    · cases hf
  | N + 1, fuel, .sl e k, t, cs, x, hf, h, hw => by
    simp only [Kd.fits] at hf
    split at hf
    · rename_i e' hu
      simp only [Bool.and_eq_true, decide_eq_true_eq] at hf
      obtain ⟨rfl, h2, h3⟩ := hf
      rcases open_slice hu h with ⟨rfl, _⟩ | ⟨a, len, cap, m, n, D, Pl, rfl, _, hl, hm, hmm, rfl, hi⟩
      · exact ⟨[], none, 0, rfl, by simp, by simp, by simp, fun _ => rfl, fun i hi => absurd hi (by simp)⟩
      · simp only [if_true] at hmm
        subst hmm
        have hwt : m * P.bytesOf e' ≤ reachBytes := by
          have := hw ((len + (m - len)) * P.bytesOf e') (by simp [DataW.weights, hu])
          rwa [show len + (m - len) = m by omega] at this
        obtain ⟨l, hll, hr⟩ := list_of_pts len (fun i v => ∃ c, c.length = k.size ∧ (∀ j, j < k.size → w.cell? (a.add (i * k.size + j)) = c[j]?) ∧ Rd P w k c v) fun i hil => by
          obtain ⟨c, hc, ht⟩ := hi i (by omega)
          obtain ⟨_, hcl, hat⟩ := World.cells?_some hc
          obtain ⟨v, hv⟩ := rd_of_trod N n k e' c _ h3 ht (fun q hq => hw q (by
            simp only [DataW.weights, hu, List.mem_cons, List.mem_append]
            exact .inr (.inl (weights_all_mem (List.mem_map.2 ⟨i, List.mem_range.2 hil, rfl⟩) q hq))))
          rw [h2] at hcl hat
          refine ⟨v, c, hcl, fun j hj => ?_, hv⟩
          rw [← Go.Deep.add_add]
          exact hat j hj
        subst hll
        refine ⟨l, some a, m, rfl, hl, hm, hwt, (fun h => by cases h), fun i hi => ?_⟩
        obtain ⟨c, h4, h5, h6⟩ := hr i hi
        exact ⟨a, c, rfl, h4, h5, h6⟩
    · cases hf
  | N + 1, fuel, .cons t' k r, t, cs, x, hf, h, hw => by
    simp only [Kd.fits] at hf
    split at hf
    · rename_i fs hu
      simp only [Bool.and_eq_true, decide_eq_true_eq] at hf
      obtain ⟨h2, h3⟩ := hf
      obtain ⟨xs, n, _, rfl, hcl, hxl, hg⟩ := DataW.trod_struct hu h
      have := rd_fields (enc := enc) N n (fun _ => true) (fun k t cs x h1 h2 h3 => rd_of_trod N n k t cs x h1 h2 h3) (.cons t' k r) fs.toList 0 cs xs h3 (by rw [hcl, h2]; simp) (by simpa using hxl)
        (fun i f hi => hg i f (by simpa using hi)) (fun i f y hi hy q hq => hw q (by
          simp only [DataW.weights, hu]
          refine DataW.weights_mem_each (j := i) (t := f.type) (d := y.1) ?_ ?_ q hq
          · rw [List.getElem?_map, hi]; rfl
          · rw [List.getElem?_map, hy]; rfl))
      simpa using this
    · cases hf
  | N + 1, _, .nil, _, _, _, hf, _, _ => by simp [Kd.fits] at hf

/-- An argument, opened. -/
theorem open_kd {ts : List TypeId} {ds : List (DataW H)} {j : Nat} {t : TypeId} {v : Value} {d : DataW H} {p : List MemPlace} (k : Kd) (hk : k.fits P 12 t = true)
    (hsz : (DataW.weightsEach P ts ds).all (· ≤ reachBytes) = true) (htj : ts[j]? = some t) (hdj : ds[j]? = some d) (h : DataW.Trod enc P w 0 (fun _ => true) true t v d p) : ∃ x, Rd P w k v.cells.toList x := by
  obtain ⟨fuel, hf⟩ := h
  refine rd_of_trod 12 fuel k t _ (d, p) hk hf (fun n hn => ?_)
  have := List.all_eq_true.1 hsz n (DataW.weights_mem_each htj hdj n hn)
  simpa using this
end
end Go.Proofs.PosteOpen
