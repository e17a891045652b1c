/-
  A region that draws its order, whose last operations store into cells that its first ones load: what is taken first need hold only till the late operations come up, for these wait for it.
-/
import Derived.OrdersHeld
import Derived.WalkKit
import Derived.Deep.RegionHeld3
namespace Go.Proofs.PosteMem
open Go

section
variable {P : Program} {ops : Array Oper} {Q : Exit → Act → World → Prop} {md : Region.Mode} {S : World → Prop} {late : Nat → Bool}

/-- No late operation has come up yet. -/
def Clean (late : Nat → Bool) (l : Array Bool) : Prop := ∀ k, late k = true → l.getD k true = false
theorem Clean.set {l : Array Bool} {i : Nat} (h : Clean late l) (hi : late i = false) : Clean late (l.setIfInBounds i true) := fun k hk => by
  have : i ≠ k := by rintro rfl; rw [hi] at hk; cases hk
  rw [getD_set_ne true this]
  exact h k hk
theorem Clean.of_set {l : Array Bool} {i : Nat} (h : Clean late (l.setIfInBounds i true)) (hi : late i = false) : Clean late l := fun k hk => by
  have e : i ≠ k := by rintro rfl; rw [hi] at hk; cases hk
  have := h k hk
  rwa [getD_set_ne true e] at this

/-- Whatever order is picked from here on; S holds till a late operation comes up. -/
def wpTill (P : Program) (md : Region.Mode) (ops : Array Oper) (Q : Exit → Act → World → Prop) (S : World → Prop) (late : Nat → Bool) : Nat → Array Bool → Act → World → Prop
  | 0, l, a, w => Region.ready md ops l = [] ∧ Q .normal a w
  | n + 1, l, a, w => (Region.ready md ops l = [] → Q .normal a w) ∧ ∀ i ∈ Region.ready md ops l, wpOp P ops Q i (fun a' w' => (Clean late (l.setIfInBounds i true) → S w') ∧ wpTill P md ops Q S late n (l.setIfInBounds i true) a' w') a w

theorem till_any : ∀ (n : Nat) (l : Array Bool) (a : Act) (w : World), wpTill P md ops Q S late n l a w → wpAny P md ops Q n l a w
  | 0, _, _, _, h => h
  | n + 1, _, _, _, h => ⟨h.1, fun i hi => wpOp_mono (fun a' w' h' => till_any n _ a' w' h'.2) (h.2 i hi)⟩

/-- An operation that may come up, taken first: it yields its value wherever T holds; T holds where S does; the late ones wait for it, or T holds always. -/
theorem till_first {T : World → Prop} (hST : ∀ w, S w → T w) {i : Nat} {oi : Oper} {v : Value} (hi : ops[i]? = some oi) (hli : late i = false) (hsel : ∀ (j : Nat) (o : Oper) cs b, ops[j]? = some o → o.op ≠ .select cs b)
    (hQ : ∀ c a w, Q (.panic c) (a.put oi.dst v) w → Q (.panic c) a w)
    (hl : (∀ w, T w) ∨ ∀ j oj, ops[j]? = some oj → late j = true → ∃ e ∈ oj.after, Region.binds md e = true ∧ e.on = i) :
    ∀ (n : Nat) (l : Array Bool) (a : Act) (w : World),
      (∀ j oj, ops[j]? = some oj → j ≠ i → l.getD j true = false → (∀ e ∈ oj.after, Region.binds md e = true → e.on ≠ i) → oi.apart ops oj = true) →
      i ∈ Region.ready md ops l → YieldsIf P ops T oi v a → T w → (Clean late l → S w) → ((∀ w, T w) ∨ Clean late l) →
      wpTill P md ops Q S late n (l.setIfInBounds i true) (a.put oi.dst v) w → wpTill P md ops Q S late (n + 1) l a w := by
  intro n
  induction n with
  | zero =>
    intro l a w _ hr hy hT hS _ H
    refine ⟨fun h => (by rw [h] at hr; cases hr), fun j hj => ?_⟩
    by_cases hji : j = i
    · subst hji
      exact hy.wpOp hi hT ⟨fun hc => hS (hc.of_set hli), H⟩
    · have h0 := ready_mono hj hji
      rw [H.1] at h0
      cases h0
  | succ n ih =>
    intro l a w hfree hr hy hT hS hc H
    refine ⟨fun h => (by rw [h] at hr; cases hr), fun j hj => ?_⟩
    by_cases hji : j = i
    · subst hji
      exact hy.wpOp hi hT ⟨fun hc => hS (hc.of_set hli), H⟩
    · obtain ⟨hjl, oj, hoj, hall⟩ := mem_ready.1 hj
      have hil := (mem_ready.1 hr).1
      -- who may come up before i does not wait for it
      have hnot : ∀ e ∈ oj.after, Region.binds md e = true → e.on ≠ i := by
        intro e he hb heq
        have h1 := hall e he hb
        rw [heq] at h1
        rcases Nat.lt_or_ge i l.size with hlt | hge
        · simp [hlt] at hil h1
          rw [hil] at h1
          cases h1
        · simp [Array.getElem?_eq_none hge] at h1
      have h1 := wpOp_putIf hoj (hfree j oj hoj hji hjl hnot) (fun cs b => hsel i oi cs b hi) (fun cs b => hsel j oj cs b hoj) hQ hy (H.2 j (ready_mono hj hji))
      have hS' : ∀ w', (Clean late ((l.setIfInBounds i true).setIfInBounds j true) → S w') → Clean late (l.setIfInBounds j true) → S w' := fun w' h hc' => h (by
        rw [Array.setIfInBounds_comm _ _ (Ne.symm hji)]
        exact hc'.set hli)
      have hc' : (∀ w, T w) ∨ Clean late (l.setIfInBounds j true) := by
        rcases hc with hc | hc
        · exact .inl hc
        · rcases hl with hl | hl
          · exact .inl hl
          · refine .inr (hc.set ?_)
            cases hlj : late j with
            | false => rfl
            | true =>
              obtain ⟨e, he, hb, heq⟩ := hl j oj hoj hlj
              exact absurd heq (hnot e he hb)
      refine wpOp_mono (fun a' w' h2 => ⟨hS' w' h2.2.1, ?_⟩) h1
      have hT' : T w' := by
        rcases hc' with hc' | hc'
        · exact hc' w'
        · exact hST w' (hS' w' h2.2.1 hc')
      refine ih (l.setIfInBounds j true) a' w' (fun k ok hk hki hun hno => ?_) (ready_mono hr (Ne.symm hji)) h2.1 hT' (hS' w' h2.2.1) hc' (by rw [Array.setIfInBounds_comm _ _ hji]; exact h2.2.2)
      refine hfree k ok hk hki ?_ hno
      by_cases hjk : j = k
      · subst hjk; exact hjl
      · rwa [getD_set_ne true hjk] at hun

/-! ### the moves of a walk, their conditions as Bools -/
def cleanB (late : Nat → Bool) (l : Array Bool) : Bool := (List.range l.size).all fun k => !late k || !l.getD k true
def waitB (md : Region.Mode) (ops : Array Oper) (late : Nat → Bool) (i : Nat) : Bool := (List.range ops.size).all fun j => !late j || ((ops[j]?).map fun o => o.after.any fun e => Region.binds md e && e.on == i).getD true
theorem wait_spec {i : Nat} (h : waitB md ops late i = true) (j : Nat) (oj : Oper) (hj : ops[j]? = some oj) (hl : late j = true) : ∃ e ∈ oj.after, Region.binds md e = true ∧ e.on = i := by
  have h1 := List.all_eq_true.1 h j (List.mem_range.2 (Array.getElem?_eq_some_iff.1 hj).1)
  simp only [hl, Bool.not_true, Bool.false_or, hj, Option.map_some, Option.getD_some, Array.any_eq_true', Bool.and_eq_true, beq_iff_eq] at h1
  obtain ⟨e, he, hb, ho⟩ := h1
  exact ⟨e, he, hb, ho⟩
/-- The begin: S holds there. -/
theorem till_region {id : Nat} {a : Act} {w : World} (S : World → Prop) (late : Nat → Bool) (hm : P.follows .mixedOrders = true) (h : wpTill P .any ops Q S late ops.size (Array.replicate ops.size false) a w.drew) : (Code.region id ops true).wp P Q a w :=
  wp_region_any hm (till_any _ _ _ _ h)
/-- What yields in whatever world, taken first. -/
theorem till_pure {i : Nat} {oi : Oper} {v : Value} {n : Nat} {l : Array Bool} {a : Act} {w : World} (hi : ops[i]? = some oi) (hli : late i = false) (hs : Region.noSelect ops = true) (hf : Region.free md ops l i = true) (hr : (Region.ready md ops l).contains i = true)
    (hQ : ∀ c a w, Q (.panic c) (a.put oi.dst v) w → Q (.panic c) a w) (hS : S w) (hy : Yields P ops oi v a)
    (h : wpTill P md ops Q S late n (l.setIfInBounds i true) (a.put oi.dst v) w) : wpTill P md ops Q S late (n + 1) l a w :=
  till_first (T := fun _ => True) (fun _ _ => trivial) hi hli (Region.noSelect_spec hs) hQ (.inl fun _ => trivial) n l a w (Region.free_spec hi hf) (by simpa using hr) hy.yieldsIf trivial (fun _ => hS) (.inl fun _ => trivial) h
/-- What yields wherever S holds, and what all late ones wait for, taken first. -/
theorem till_held {i : Nat} {oi : Oper} {v : Value} {n : Nat} {l : Array Bool} {a : Act} {w : World} (hi : ops[i]? = some oi) (hli : late i = false) (hs : Region.noSelect ops = true) (hf : Region.free md ops l i = true) (hr : (Region.ready md ops l).contains i = true)
    (hw : waitB md ops late i = true) (hc : Clean late l) (hQ : ∀ c a w, Q (.panic c) (a.put oi.dst v) w → Q (.panic c) a w) (hS : S w) (hy : YieldsIf P ops S oi v a)
    (h : wpTill P md ops Q S late n (l.setIfInBounds i true) (a.put oi.dst v) w) : wpTill P md ops Q S late (n + 1) l a w :=
  till_first (T := S) (fun _ h => h) hi hli (Region.noSelect_spec hs) hQ (.inr (wait_spec hw)) n l a w (Region.free_spec hi hf) (by simpa using hr) hy hS (fun _ => hS) (.inr hc) h
theorem clean_start {N : Nat} (hb : ∀ k, late k = true → k < N) : Clean late (Array.replicate N false) := fun k hk => by
  simp [hb k hk]
/-- Behind a late operation nothing is asked any more. -/
theorem till_dirty : ∀ (n : Nat) (l : Array Bool) (a : Act) (w : World), (∃ k, late k = true ∧ l.getD k true = true) → wpAny P md ops Q n l a w → wpTill P md ops Q S late n l a w
  | 0, _, _, _, _, h => h
  | n + 1, l, a, w, ⟨k, hk, hl⟩, h => ⟨h.1, fun i hi => wpOp_mono (fun a' w' h' => by
      have hd : (l.setIfInBounds i true).getD k true = true := by
        by_cases e : i = k
        · subst e
          by_cases hlt : i < l.size
          · simp [hlt]
          · simp [hlt]
        · rw [getD_set_ne true e]; exact hl
      exact ⟨fun hc => (by rw [hc k hk] at hd; cases hd), till_dirty n _ a' w' ⟨k, hk, hd⟩ h'⟩) (h.2 i hi)⟩
/-- Where only late ones may come up. -/
theorem till_late {n : Nat} {l : Array Bool} {a : Act} {w : World} (hr : (Region.ready md ops l).all late = true) (h : wpAny P md ops Q n l a w) : wpTill P md ops Q S late n l a w := by
  cases n with
  | zero => exact h
  | succ n =>
    refine ⟨h.1, fun i hi => wpOp_mono (fun a' w' h' => ?_) (h.2 i hi)⟩
    have hli := List.all_eq_true.1 hr i hi
    have hil := (mem_ready.1 hi).1
    have hlt : i < l.size := by
      rcases Nat.lt_or_ge i l.size with h1 | h1
      · exact h1
      · simp [Array.getElem?_eq_none h1] at hil
    have hd : (l.setIfInBounds i true).getD i true = true := by simp [hlt]
    exact ⟨fun hc => (by rw [hc i hli] at hd; cases hd), till_dirty n _ a' w' ⟨i, hli, hd⟩ h'⟩
theorem till_all {rs : List Nat} {n : Nat} {l : Array Bool} {a : Act} {w : World} (hr : Region.ready md ops l = rs) (hne : rs ≠ [])
    (h : ∀ i ∈ rs, wpOp P ops Q i (fun a' w' => (Clean late (l.setIfInBounds i true) → S w') ∧ wpTill P md ops Q S late n (l.setIfInBounds i true) a' w') a w) : wpTill P md ops Q S late (n + 1) l a w :=
  ⟨fun h0 => absurd (hr ▸ h0) hne, hr ▸ h⟩
theorem any_all {rs : List Nat} {n : Nat} {l : Array Bool} {a : Act} {w : World} (hr : Region.ready md ops l = rs) (hne : rs ≠ [])
    (h : ∀ i ∈ rs, wpOp P ops Q i (wpAny P md ops Q n (l.setIfInBounds i true)) a w) : wpAny P md ops Q (n + 1) l a w :=
  ⟨fun h0 => absurd (hr ▸ h0) hne, hr ▸ h⟩
theorem op_of {i : Nat} {o : Oper} {a : Act} {w : World} {K : Act → World → Prop} (hi : ops[i]? = some o) (hw : Region.wanted o (yielded ops a.tmps) = true) (h : o.wp P a w K Q) : wpOp P ops Q i K a w := by
  unfold wpOp
  simp only [hi, hw, if_true]
  exact .inl h
/-! ### the moves, an operation laid open by its fields; the late ones by a list -/
theorem clean_list {L : List Nat} {l : Array Bool} (h : (L.all fun k => !l.getD k true) = true) : Clean (fun k => L.contains k) l := fun k hk => by
  have := List.all_eq_true.1 h k (by simpa using hk)
  simpa using this
theorem tl_begin {id : Nat} {a : Act} {w : World} (S : World → Prop) (L : List Nat) (hm : P.follows .mixedOrders = true) (hS : S w.drew) (h : S w.drew → wpTill P .any ops Q S (fun k => L.contains k) ops.size (Array.replicate ops.size false) a w.drew) : (Code.region id ops true).wp P Q a w :=
  till_region S _ hm (h hS)
/-- What yields wherever S holds, and what all late ones wait for. -/
theorem tl_w {L : List Nat} {i : Nat} {dst : Option Tmp} {op : Op} {ty : TypeId} {pos : String} {after : Array Edge} {guard : Option (Nat × Bool)} {v : Value} {n : Nat} {l : Array Bool} {a : Act} {w : World}
    (hi : ops[i]? = some ⟨dst, op, ty, pos, after, guard⟩) (hli : L.contains i = false) (hs : Region.noSelect ops = true) (hf : Region.free md ops l i = true) (hr : (Region.ready md ops l).contains i = true) (hwt : waitB md ops (fun k => L.contains k) i = true) (hc : (L.all fun k => !l.getD k true) = true)
    (hQ : ∀ c a w, Q (.panic c) (a.put dst v) w → Q (.panic c) a w) (hw : Region.wanted ⟨dst, op, ty, pos, after, guard⟩ (yielded ops a.tmps) = true) (hS : S w)
    (hy : ∀ w, S w → (execOp a.eval ⟨dst, op, ty, pos, after, guard⟩).run P w = .ok (.value v) w)
    (h : wpTill P md ops Q S (fun k => L.contains k) n (l.setIfInBounds i true) (a.put dst v) w) : wpTill P md ops Q S (fun k => L.contains k) (n + 1) l a w :=
  till_held hi hli hs hf hr hwt (clean_list hc) hQ hS (.inl ⟨hw, hy⟩) h
/-- What yields in whatever world. -/
theorem tl_p {L : List Nat} {i : Nat} {dst : Option Tmp} {op : Op} {ty : TypeId} {pos : String} {after : Array Edge} {guard : Option (Nat × Bool)} {v : Value} {n : Nat} {l : Array Bool} {a : Act} {w : World}
    (hi : ops[i]? = some ⟨dst, op, ty, pos, after, guard⟩) (hli : L.contains i = false) (hs : Region.noSelect ops = true) (hf : Region.free md ops l i = true) (hr : (Region.ready md ops l).contains i = true)
    (hQ : ∀ c a w, Q (.panic c) (a.put dst v) w → Q (.panic c) a w) (hw : Region.wanted ⟨dst, op, ty, pos, after, guard⟩ (yielded ops a.tmps) = true) (hS : S w)
    (hy : ∀ w, (execOp a.eval ⟨dst, op, ty, pos, after, guard⟩).run P w = .ok (.value v) w)
    (h : wpTill P md ops Q S (fun k => L.contains k) n (l.setIfInBounds i true) (a.put dst v) w) : wpTill P md ops Q S (fun k => L.contains k) (n + 1) l a w :=
  till_pure hi hli hs hf hr hQ hS (.inl ⟨hw, hy⟩) h
theorem tl_u {L : List Nat} {i : Nat} {dst : Option Tmp} {op : Op} {ty : TypeId} {pos : String} {after : Array Edge} {guard : Option (Nat × Bool)} {n : Nat} {l : Array Bool} {a : Act} {w : World}
    (hi : ops[i]? = some ⟨dst, op, ty, pos, after, guard⟩) (hli : L.contains i = false) (hs : Region.noSelect ops = true) (hf : Region.free md ops l i = true) (hr : (Region.ready md ops l).contains i = true)
    (hQ : ∀ c a w, Q (.panic c) (a.put dst undef) w → Q (.panic c) a w) (hw : Region.wanted ⟨dst, op, ty, pos, after, guard⟩ (yielded ops a.tmps) = false) (hS : S w)
    (h : wpTill P md ops Q S (fun k => L.contains k) n (l.setIfInBounds i true) (a.put dst undef) w) : wpTill P md ops Q S (fun k => L.contains k) (n + 1) l a w :=
  till_pure hi hli hs hf hr hQ hS (.inr ⟨hw, rfl⟩) h
/-- The one operation that may come up, S shown anew behind it. -/
theorem tl_do {L : List Nat} {i : Nat} {dst : Option Tmp} {op : Op} {ty : TypeId} {pos : String} {after : Array Edge} {guard : Option (Nat × Bool)} {n : Nat} {l : Array Bool} {a : Act} {w : World}
    (hi : ops[i]? = some ⟨dst, op, ty, pos, after, guard⟩) (hr : Region.ready md ops l = [i]) (hw : Region.wanted ⟨dst, op, ty, pos, after, guard⟩ (yielded ops a.tmps) = true)
    (h : ∀ K' : Act → World → Prop, Shut (∀ a w, S w → (S w → wpTill P md ops Q S (fun k => L.contains k) n (l.setIfInBounds i true) a w) → K' a w) → Oper.wp P ⟨dst, op, ty, pos, after, guard⟩ a w K' Q) : wpTill P md ops Q S (fun k => L.contains k) (n + 1) l a w :=
  till_all hr (by simp) fun j hj => by
    obtain rfl : j = i := by simpa using hj
    exact op_of hi hw (h _ fun a w hS hW => ⟨fun _ => hS, hW hS⟩)
theorem till_done {late : Nat → Bool} {l : Array Bool} {a : Act} {w : World} (hr : Region.ready md ops l = []) (h : Q .normal a w) : ∀ n, wpTill P md ops Q S late n l a w
  | 0 => ⟨hr, h⟩
  | _ + 1 => ⟨fun _ => h, by rw [hr]; simp⟩
/-- Only late ones are left. -/
theorem tl_late {L : List Nat} {n : Nat} {l : Array Bool} {a : Act} {w : World} (hr : (Region.ready md ops l).all (fun k => L.contains k) = true) (h : wpAny P md ops Q n l a w) : wpTill P md ops Q S (fun k => L.contains k) n l a w := till_late hr h
theorem any_do {i : Nat} {dst : Option Tmp} {op : Op} {ty : TypeId} {pos : String} {after : Array Edge} {guard : Option (Nat × Bool)} {n : Nat} {l : Array Bool} {a : Act} {w : World}
    (hi : ops[i]? = some ⟨dst, op, ty, pos, after, guard⟩) (hr : Region.ready md ops l = [i]) (hw : Region.wanted ⟨dst, op, ty, pos, after, guard⟩ (yielded ops a.tmps) = true)
    (h : ∀ K' : Act → World → Prop, Shut (∀ a w, wpAny P md ops Q n (l.setIfInBounds i true) a w → K' a w) → Oper.wp P ⟨dst, op, ty, pos, after, guard⟩ a w K' Q) : wpAny P md ops Q (n + 1) l a w :=
  any_all hr (by simp) fun j hj => by
    obtain rfl : j = i := by simpa using hj
    exact op_of hi hw (h _ fun a w hW => hW)
/-- More may be asked from here on. -/
theorem till_mono {late : Nat → Bool} {S' : World → Prop} (hs : ∀ w, S' w → S w) : ∀ (n : Nat) (l : Array Bool) (a : Act) (w : World), wpTill P md ops Q S' late n l a w → wpTill P md ops Q S late n l a w
  | 0, _, _, _, h => h
  | n + 1, _, _, _, h => ⟨h.1, fun i hi => wpOp_mono (fun a' w' h' => ⟨fun hc => hs _ (h'.1 hc), till_mono hs n _ a' w' h'.2⟩) (h.2 i hi)⟩
theorem till_more {late : Nat → Bool} (X : World → Prop) {n : Nat} {l : Array Bool} {a : Act} {w : World} (h : wpTill P md ops Q (fun w => S w ∧ X w) late n l a w) : wpTill P md ops Q S late n l a w := till_mono (fun _ h => h.1) n l a w h
/-- Two operations may come up, either first. -/
theorem tl_two {L : List Nat} {i : Nat} {dst : Option Tmp} {op : Op} {ty : TypeId} {pos : String} {after : Array Edge} {guard : Option (Nat × Bool)} {j : Nat} {dst2 : Option Tmp} {op2 : Op} {ty2 : TypeId} {pos2 : String} {after2 : Array Edge} {guard2 : Option (Nat × Bool)} {n : Nat} {l : Array Bool} {a : Act} {w : World}
    (hi : ops[i]? = some ⟨dst, op, ty, pos, after, guard⟩) (hj : ops[j]? = some ⟨dst2, op2, ty2, pos2, after2, guard2⟩) (hr : Region.ready md ops l = [i, j]) (hw : Region.wanted ⟨dst, op, ty, pos, after, guard⟩ (yielded ops a.tmps) = true) (hw2 : Region.wanted ⟨dst2, op2, ty2, pos2, after2, guard2⟩ (yielded ops a.tmps) = true)
    (h : ∀ K' : Act → World → Prop, Shut (∀ a w, S w → (S w → wpTill P md ops Q S (fun k => L.contains k) n (l.setIfInBounds i true) a w) → K' a w) → Oper.wp P ⟨dst, op, ty, pos, after, guard⟩ a w K' Q)
    (h2 : ∀ K' : Act → World → Prop, Shut (∀ a w, S w → (S w → wpTill P md ops Q S (fun k => L.contains k) n (l.setIfInBounds j true) a w) → K' a w) → Oper.wp P ⟨dst2, op2, ty2, pos2, after2, guard2⟩ a w K' Q) : wpTill P md ops Q S (fun k => L.contains k) (n + 1) l a w :=
  till_all hr (by simp) fun k hk => by
    have hk2 : k = i ∨ k = j := by simpa using hk
    rcases hk2 with rfl | rfl
    · exact op_of hi hw (h _ fun a w hS hW => ⟨fun _ => hS, hW hS⟩)
    · exact op_of hj hw2 (h2 _ fun a w hS hW => ⟨fun _ => hS, hW hS⟩)
end
end Go.Proofs.PosteMem
