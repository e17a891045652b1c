/-
  Slices, once more: a literal's row, a store into a row, an append that has room, copy and clear of elements of several cells, an append of zero values.
-/
import Derived.Test.YtegomkgfmaclkaaSl3
import Derived.Laws.CopyOwn
import Derived.Lib.AppendZeros
set_option linter.unusedVariables false
set_option linter.unusedSimpArgs false
namespace Go.Proofs.PosteMem
open Go Go.RowKit

theorem take_splice {α : Type} (L cs : List α) (off N : Nat) (h : off + cs.length ≤ N) (hN : N ≤ L.length) : (splice L off cs).take N = splice (L.take N) off cs := by
  unfold splice
  have e1 : (L.take off).length = off := by rw [List.length_take]; omega
  have e2 : (L.take N).take off = L.take off := by rw [List.take_take, Nat.min_eq_left (by omega)]
  rw [e2, List.take_append, e1, List.take_of_length_le (by omega), List.take_append, List.take_of_length_le (l := cs) (by omega)]
  congr 2
  rw [List.take_drop, Nat.add_comm]
  congr 2
  omega

/-- A literal: its row is the call's own. -/
theorem own_lit {w : World} {B e sz n b : Nat} {xs : List Value} (hb : b = w.heap.size) (hB : B ≤ w.heap.size) (hl : xs.length = n * sz) (hn : n ≤ maxLen) :
    (w.alloc (.cells xs.toArray e)).ownsRow B e sz (.slice (some ⟨b, 0, none⟩) n n) n xs := by
  subst hb
  exact ⟨hl, .inr ⟨_, n, xs.toArray, rfl, hB, heap_alloc_new w _, Nat.le_refl _, hn, by simpa using hl, by simp [← hl]⟩⟩

section
variable {w w' : World} {base : Nat} {e : TypeId} {sz n g cap : Nat} {xs : List Value}
theorem own_form (h : w.ownsRow base e sz (.slice (some ⟨g, 0, none⟩) n cap) n xs) : ∃ cur, base ≤ g ∧ w.heap[g]? = some (.cells cur e (0, 0)) ∧ n ≤ cap ∧ cap ≤ maxLen ∧ cur.size = cap * sz ∧ cur.toList.take (n * sz) = xs := by
  rcases h.2 with ⟨e1, _⟩ | ⟨g', cap', cur, e1, h2, h3, h4, h5, h6, h7⟩
  · cases e1
  · injection e1 with e1 _ e3
    injection e1 with e1
    injection e1 with e1
    subst e1 e3
    exact ⟨cur, h2, h3, h4, h5, h6, h7⟩
theorem own_block (h : w.ownsRow base e sz (.slice (some ⟨g, 0, none⟩) n cap) n xs) : base ≤ g ∧ g < w.heap.size := h.lt g rfl
theorem own_some {v : Value} (h : w.ownsRow base e sz v n xs) (h0 : 0 < n) : ∃ g cap, v = .slice (some ⟨g, 0, none⟩) n cap ∧ n ≤ cap ∧ cap ≤ maxLen ∧ base ≤ g ∧ g < w.heap.size := by
  rcases h.2 with ⟨_, e1⟩ | ⟨g, cap, cur, rfl, h2, h3, h4, h5, _⟩
  · omega
  · exact ⟨g, cap, rfl, h4, h5, h2, (Array.getElem?_eq_some_iff.1 h3).1⟩
theorem own_cell (h : w.ownsRow base e sz (.slice (some ⟨g, 0, none⟩) n cap) n xs) (j : Nat) (hj : j < n * sz) : w.cell? ⟨g, j, none⟩ = some (xs[j]'(by rw [h.1]; exact hj)) := by
  have h1 := h.cells (g := g) rfl j _ (List.getElem?_eq_getElem (by rw [h.1]; exact hj))
  rwa [show (⟨g, 0, none⟩ : Addr).add j = ⟨g, j, none⟩ by unfold Addr.add; split <;> simp_all] at h1
theorem own_free (h : w.ownsRow base e sz (.slice (some ⟨g, 0, none⟩) n cap) n xs) (j : Nat) : w.frozen? ⟨g, j, none⟩ = false := by
  obtain ⟨cur, _, h3, _⟩ := own_form h
  unfold World.frozen?
  rw [h3]
  simp
/-- A store of cells into a row. -/
theorem own_lay (h : w.ownsRow base e sz (.slice (some ⟨g, 0, none⟩) n cap) n xs) {cur : Array Value} (hg : w.heap[g]? = some (.cells cur e (0, 0))) (off : Nat) (cs : List Value) (hoff : off + cs.length ≤ n * sz) :
    (w.setRow g (cur.toList.take off ++ cs ++ cur.toList.drop (off + cs.length)).toArray).ownsRow base e sz (.slice (some ⟨g, 0, none⟩) n cap) n (splice xs off cs) ∧ Upd (fun b => b = g) w (w.setRow g (cur.toList.take off ++ cs ++ cur.toList.drop (off + cs.length)).toArray) := by
  obtain ⟨cur', h2, h3, h4, h5, h6, h7⟩ := own_form h
  rw [hg] at h3
  injection h3 with h3
  injection h3 with h3
  subst h3
  have hle : n * sz ≤ cap * sz := Nat.mul_le_mul_right _ h4
  have hs : (cur.toList.take off ++ cs ++ cur.toList.drop (off + cs.length)) = splice cur.toList off cs := by unfold splice; rw [List.append_assoc]
  have hsl : (splice cur.toList off cs).length = cap * sz := by rw [length_splice _ _ _ (by simp; omega)]; simpa using h6
  rw [hs]
  refine ⟨⟨by rw [length_splice _ _ _ (by rw [h.1]; exact hoff), h.1], .inr ⟨g, cap, (splice cur.toList off cs).toArray, rfl, h2, setRow_heap w g cur _ e _ hg, h4, h5, by simpa using hsl, ?_⟩⟩, ?_⟩
  · rw [List.toList_toArray, take_splice _ _ _ _ hoff (by simp; omega), h7]
  · exact ⟨rfl, rfl, rfl, by simp [World.setRow], fun k _ hk => setRow_other w g k _ hk⟩
theorem own_set (h : w.ownsRow base e sz (.slice (some ⟨g, 0, none⟩) n cap) n xs) (j : Nat) (hj : j < n * sz) (u : Value) : (w.setCell ⟨g, j, none⟩ u).ownsRow base e sz (.slice (some ⟨g, 0, none⟩) n cap) n (xs.set j u) := by
  obtain ⟨cur, h2, h3, h4, h5, h6, h7⟩ := own_form h
  have hw : Whole w g e cur := h3
  refine ⟨by rw [List.length_set, h.1], .inr ⟨g, cap, cur.setIfInBounds j u, rfl, h2, hw.set j u, h4, h5, by simpa using h6, ?_⟩⟩
  rw [Array.toList_setIfInBounds, List.take_set, h7]
end

section
variable {P : Program} {w : World} {base : Nat} {e : TypeId} {sz n g cap : Nat} {xs : List Value}
theorem addr_row (g o : Nat) : (⟨g, 0, none⟩ : Addr).add o = ⟨g, o, none⟩ := by unfold Addr.add; split <;> simp_all
/-- An append that has room in the row's known cells: in place. -/
theorem run_append_in (t ty : TypeId) (i : TypeInfo) (ht : P.underlying t = some (.slice e)) (hi : P.info? e = some i) (hsz : i.size = sz) (h : w.ownsRow base e sz (.slice (some ⟨g, 0, none⟩) n cap) n xs)
    (k : Nat) (x : Value) (m : Nat) (ys : List Value) (hx : View w sz x m ys) (h1 : ∀ u ∈ ys, u.oneCell' = true) (hk : k + m ≤ n) :
    ∃ w', (Builtin.append_ #[t, t] ty #[.slice (some ⟨g, 0, none⟩) k cap, x]).run P w = .ok (.slice (some ⟨g, 0, none⟩) (k + m) cap) w' ∧ w'.ownsRow base e sz (.slice (some ⟨g, 0, none⟩) n cap) n (splice xs (k * sz) ys) ∧ Upd (fun b => b = g) w w' := by
  subst hsz
  obtain ⟨cur, h2, h3, h4, h5, h6, h7⟩ := own_form h
  obtain ⟨hl, A, c, rfl, h8, h9, h10, h11⟩ := hx
  have hkm : (k + m) * i.size ≤ n * i.size := Nat.mul_le_mul_right _ hk
  have hnc : n * i.size ≤ cap * i.size := Nat.mul_le_mul_right _ h4
  rw [Nat.add_mul] at hkm
  have hlay := own_lay h h3 (k * i.size) ys (by rw [hl]; exact hkm)
  cases A with
  | some a =>
    exact ⟨_, run_append_room w t ty e i ht hi g k cap cur h3 a m c ys hl (h11 a rfl) h1 (by omega) (by rw [hl]; omega), hlay⟩
  | none =>
    have hc := h10 rfl
    obtain rfl : m = 0 := by omega
    subst hc
    obtain rfl : ys = [] := List.eq_nil_of_length_eq_zero (by simpa using hl)
    refine ⟨w, ?_, ?_, Upd.refl _ _⟩
    · have hkc : k ≤ cap := by omega
      simp [Builtin.append_, run_underlying ht, sizeOf, typeInfo, hi, Builtin.lenOf, Builtin.firstCells, hkc, storeCells]
    · have : splice xs (k * i.size) [] = xs := by simp [splice]
      rw [this]
      exact h
/-- copy into a row. -/
theorem run_copy_in (t t2 ty : TypeId) (i : TypeInfo) (ht : P.underlying t = some (.slice e)) (hi : P.info? e = some i) (hsz : i.size = sz) (h : w.ownsRow base e sz (.slice (some ⟨g, 0, none⟩) n cap) n xs)
    (off dLen dCap : Nat) (x : Value) (m : Nat) (ys : List Value) (hx : View w sz x m ys) (h1 : ∀ u ∈ ys, u.oneCell' = true) (hk : off + Nat.min m dLen * sz ≤ n * sz) :
    ∃ w', (Builtin.copy_ #[t, t2] ty #[.slice (some ⟨g, off, none⟩) dLen dCap, x]).run P w = .ok (goInt (Nat.min m dLen)) w' ∧ w'.ownsRow base e sz (.slice (some ⟨g, 0, none⟩) n cap) n (splice xs off (ys.take (Nat.min m dLen * sz))) ∧ Upd (fun b => b = g) w w' := by
  subst hsz
  obtain ⟨cur, h2, h3, h4, h5, h6, h7⟩ := own_form h
  obtain ⟨hl, A, c, rfl, h8, h9, h10, h11⟩ := hx
  have hml : Nat.min m dLen * i.size ≤ ys.length := by rw [hl]; exact Nat.mul_le_mul_right _ (Nat.min_le_left _ _)
  have hcl : (ys.take (Nat.min m dLen * i.size)).length = Nat.min m dLen * i.size := by rw [List.length_take]; omega
  have hnc : n * i.size ≤ cap * i.size := Nat.mul_le_mul_right _ h4
  have hlay := own_lay h h3 off (ys.take (Nat.min m dLen * i.size)) (by rw [hcl]; exact hk)
  refine ⟨_, ?_, hlay⟩
  cases A with
  | some a =>
    have hf := run_firstCells_some (P := P) w i.size (Nat.min m dLen) a m c (ys.take (Nat.min m dLen * i.size)) hcl (fun j v hv => h11 a rfl j v (by
      rw [List.getElem?_take] at hv
      split at hv
      · exact hv
      · cases hv))
    have hst := run_storeCells_at P g off e (ys.take (Nat.min m dLen * i.size)) 0 cur w h3 (by rw [hcl]; omega) (fun v hv => h1 v (List.mem_of_mem_take hv))
    simp only [Nat.add_zero] at hst
    simp [Builtin.copy_, run_underlying ht, sizeOf, typeInfo, hi, Builtin.lenOf, hf, hst]
  | none =>
    have hc := h10 rfl
    obtain rfl : m = 0 := by omega
    obtain rfl : ys = [] := List.eq_nil_of_length_eq_zero (by simpa using hl)
    have e0 : Nat.min 0 dLen = 0 := Nat.zero_min _
    have hself := setRow_self w g cur e (0, 0) h3
    simp [Builtin.copy_, run_underlying ht, sizeOf, typeInfo, hi, Builtin.lenOf, Builtin.firstCells, storeCells, e0, hself]
/-- clear of a part of a row. -/
theorem run_clear_in (t ty : TypeId) (i : TypeInfo) (z : Value) (ht : P.underlying t = some (.slice e)) (hi : P.info? e = some i) (hz : i.zero = some z) (hzs : z.cells.size = sz) (hz1 : ∀ u ∈ z.cells.toList, u.oneCell' = true) (h : w.ownsRow base e sz (.slice (some ⟨g, 0, none⟩) n cap) n xs)
    (off d c : Nat) (hk : off + d * sz ≤ n * sz) :
    ∃ w', (Builtin.clear_ #[t] ty #[.slice (some ⟨g, off, none⟩) d c]).run P w = .ok (.tuple #[]) w' ∧ w'.ownsRow base e sz (.slice (some ⟨g, 0, none⟩) n cap) n (splice xs off (Builtin.zeroCells z.cells d).toList) ∧ Upd (fun b => b = g) w w' := by
  obtain ⟨cur, h2, h3, h4, h5, h6, h7⟩ := own_form h
  have hnc : n * sz ≤ cap * sz := Nat.mul_le_mul_right _ h4
  have hcl : (Builtin.zeroCells z.cells d).toList.length = d * sz := by simp [size_zeroCells, hzs]
  have h1 : ∀ u ∈ (Builtin.zeroCells z.cells d).toList, u.oneCell' = true := by
    intro u hu
    unfold Builtin.zeroCells at hu
    rw [Array.toList_map, List.mem_map] at hu
    obtain ⟨q, hq, rfl⟩ := hu
    have hlt : q % z.cells.size < z.cells.size := by
      refine Nat.mod_lt _ ?_
      rw [Array.toList_range, List.mem_range] at hq
      rcases Nat.eq_zero_or_pos z.cells.size with h0 | h0
      · rw [h0] at hq; omega
      · exact h0
    rw [getElem!_pos z.cells _ hlt]
    exact hz1 _ (by rw [Array.mem_toList_iff]; exact Array.getElem_mem _)
  have hlay := own_lay h h3 off (Builtin.zeroCells z.cells d).toList (by rw [hcl]; exact hk)
  refine ⟨_, ?_, hlay⟩
  have hst := run_storeCells_at P g off e (Builtin.zeroCells z.cells d).toList 0 cur w h3 (by rw [hcl]; omega) h1
  simp only [Nat.add_zero] at hst
  cases d with
  | zero =>
    have e0 : (Builtin.zeroCells z.cells 0).toList = [] := by simp [Builtin.zeroCells]
    have hself := setRow_self w g cur e (0, 0) h3
    simp [Builtin.clear_, run_underlying ht, e0, hself]
  | succ d => simp [Builtin.clear_, run_underlying ht, zeroValue, typeInfo, hi, hz, hst]
end

/-! ### a quiet call in a drawn region, whatever the world's spelling -/
theorem quiet_at {P : Program} {f : FuncId} {args : Array Value} {W : World} {v : Value} {R : World → Prop} (h : Calls P f args W fun e w' => e = .returned v ∧ W = w') (hR : R W) : Calls P f args W fun e w' => e = .returned v ∧ R w' :=
  h.mono fun _ _ ⟨he, hm⟩ => ⟨he, hm ▸ hR⟩
theorem quiet_same {P : Program} {f : FuncId} {args : Array Value} {W : World} {v : Value} {R : World → Prop} (h : Calls P f args W fun e w' => e = .returned v ∧ Same W w') (hR : ∀ q, R (W.drewN q)) : Calls P f args W fun e w' => e = .returned v ∧ R w' :=
  h.mono fun _ _ ⟨he, q, hm⟩ => ⟨he, by rw [hm]; exact hR q⟩

/-! ### the same, as steps of a walk -/
section
variable {P : Program} {w : World} {o : Oper} {a : Act} {K : Act → World → Prop} {Q : Exit → Act → World → Prop} {E : Prop}
theorem step_append_run {ops : Array Oper} (hgd : o.guard = none) (s x : Operand) (t tn : TypeId) (ho : o.op = .call { callee := .builtin .append, args := #[s, x], argTypes := #[t, tn] }) (vs vx : Value) (hs : a.eval s = vs) (hx : a.eval x = vx)
    {v' : Value} {w' : World} (hr : (Builtin.append_ #[t, tn] o.type #[vs, vx]).run P w = .ok v' w') (h : K (a.put o.dst v') w') : if Region.wanted o (yielded ops a.tmps) = true then Oper.wp P o a w K Q else E := by
  have hw : Region.wanted o (yielded ops a.tmps) = true := by simp [Region.wanted, hgd]
  rw [if_pos hw]
  exact Lib.wp_append_run w s x t tn ho vs vx hs hx v' w' hr h
theorem wp_copy_run (s x : Operand) (t tn : TypeId) (ho : o.op = .call { callee := .builtin .copy, args := #[s, x], argTypes := #[t, tn] }) (vs vx : Value) (hs : a.eval s = vs) (hx : a.eval x = vx)
    {v' : Value} {w' : World} (hr : (Builtin.copy_ #[t, tn] o.type #[vs, vx]).run P w = .ok v' w') (h : K (a.put o.dst v') w') : o.wp P a w K Q := by
  unfold Oper.wp execOp
  simp only [ho, resolve, invoke, builtin, Sem.run_bind, Sem.run_pure, Result.andThen_ok, List.map_toArray, List.map_cons, List.map_nil, hs, hx, hr]
  exact h
theorem wpList_copy_run {ops : Array Oper} {rest : List Oper} (hgd : o.guard = none) (s x : Operand) (t tn : TypeId) (ho : o.op = .call { callee := .builtin .copy, args := #[s, x], argTypes := #[t, tn] }) (vs vx : Value) (hs : a.eval s = vs) (hx : a.eval x = vx)
    {v' : Value} {w' : World} (hr : (Builtin.copy_ #[t, tn] o.type #[vs, vx]).run P w = .ok v' w') (h : wpList P ops Q rest (a.put o.dst v') w') : wpList P ops Q (o :: rest) a w :=
  wpList_plain hgd fun _ hK => wp_copy_run s x t tn ho vs vx hs hx hr (hK _ _ h)
theorem step_copy_run {ops : Array Oper} (hgd : o.guard = none) (s x : Operand) (t tn : TypeId) (ho : o.op = .call { callee := .builtin .copy, args := #[s, x], argTypes := #[t, tn] }) (vs vx : Value) (hs : a.eval s = vs) (hx : a.eval x = vx)
    {v' : Value} {w' : World} (hr : (Builtin.copy_ #[t, tn] o.type #[vs, vx]).run P w = .ok v' w') (h : K (a.put o.dst v') w') : if Region.wanted o (yielded ops a.tmps) = true then Oper.wp P o a w K Q else E := by
  have hw : Region.wanted o (yielded ops a.tmps) = true := by simp [Region.wanted, hgd]
  rw [if_pos hw]
  exact wp_copy_run s x t tn ho vs vx hs hx hr h
theorem wp_clear_run (s : Operand) (t : TypeId) (ho : o.op = .call { callee := .builtin .clear, args := #[s], argTypes := #[t] }) (vs : Value) (hs : a.eval s = vs)
    {v' : Value} {w' : World} (hr : (Builtin.clear_ #[t] o.type #[vs]).run P w = .ok v' w') (h : K (a.put o.dst v') w') : o.wp P a w K Q := by
  unfold Oper.wp execOp
  simp only [ho, resolve, invoke, builtin, Sem.run_bind, Sem.run_pure, Result.andThen_ok, List.map_toArray, List.map_cons, List.map_nil, hs, hr]
  exact h
theorem wpList_clear_run {ops : Array Oper} {rest : List Oper} (hgd : o.guard = none) (s : Operand) (t : TypeId) (ho : o.op = .call { callee := .builtin .clear, args := #[s], argTypes := #[t] }) (vs : Value) (hs : a.eval s = vs)
    {v' : Value} {w' : World} (hr : (Builtin.clear_ #[t] o.type #[vs]).run P w = .ok v' w') (h : wpList P ops Q rest (a.put o.dst v') w') : wpList P ops Q (o :: rest) a w :=
  wpList_plain hgd fun _ hK => wp_clear_run s t ho vs hs hr (hK _ _ h)
end
end Go.Proofs.PosteMem
