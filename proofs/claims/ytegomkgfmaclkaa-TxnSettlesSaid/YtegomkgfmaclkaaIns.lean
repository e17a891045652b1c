/-
  What slices.Insert does with a row of cells of the call's own: how lists are spliced, a row that takes in one more element of its spare cells, an append of zero values that has no room, slices.overlaps of two blocks.
-/
import Derived.Test.YtegomkgfmaclkaaSl5
import Derived.Lib.Overlaps
import Derived.Lib.AppendZerosOnto
import Derived.Laws.Externs
import Derived.ChangeKeysEq
set_option linter.unusedVariables false
set_option linter.unusedSimpArgs false
namespace Go.Proofs.PosteMem
open Go Go.RowKit

theorem splice_mid {α : Type} (p q r q' : List α) (h : q'.length = q.length) : splice (p ++ (q ++ r)) p.length q' = p ++ (q' ++ r) := by
  unfold splice
  rw [List.take_left, List.drop_append, List.drop_of_length_le (by omega), List.nil_append, List.drop_append, List.drop_of_length_le (by omega), List.nil_append]
  congr 3
  have : p.length + q'.length - p.length - q.length = 0 := by omega
  rw [this, List.drop_zero]
/-- Both copies of slices.Insert, in either order: the new cells lie between what was ahead and what was behind. -/
theorem splice_in {α : Type} (Z p r xc : List α) (hZ : Z.length = p.length + xc.length + r.length) (hp : Z.take p.length = p) :
    splice (splice Z (p.length + xc.length) r) p.length xc = p ++ (xc ++ r) ∧ splice (splice Z p.length xc) (p.length + xc.length) r = p ++ (xc ++ r) := by
  obtain ⟨q, s, hq, e⟩ : ∃ q s, q.length = xc.length ∧ Z = p ++ (q ++ s) := by
    refine ⟨(Z.drop p.length).take xc.length, (Z.drop p.length).drop xc.length, by rw [List.length_take, List.length_drop]; omega, ?_⟩
    rw [List.take_append_drop]
    conv => lhs; rw [← List.take_append_drop p.length Z, hp]
  have hs : s.length = r.length := by rw [e] at hZ; simp only [List.length_append] at hZ; omega
  subst e
  constructor
  · have h1 := splice_mid (p ++ q) s [] r (by omega)
    rw [List.append_nil, List.append_nil, List.length_append, hq, List.append_assoc, List.append_assoc] at h1
    rw [h1, splice_mid _ _ _ _ hq.symm]
  · rw [splice_mid _ _ _ _ hq.symm]
    have h1 := splice_mid (p ++ xc) s [] r (by omega)
    rw [List.append_nil, List.append_nil, List.length_append, List.append_assoc, List.append_assoc] at h1
    rw [h1]

theorem flatMap_set_one' {α : Type} (f : α → List Value) (sz : Nat) (hf : ∀ x, (f x).length = sz) : ∀ (L : List α) (k : Nat) (hk : k < L.length) (j : Nat) (hj : j < sz) (u : Value) (y : α), f y = (f L[k]).set j u → (L.flatMap f).set (k * sz + j) u = (L.set k y).flatMap f
  | x :: L, 0, _, j, hj, u, y, h => by
    rw [Nat.zero_mul, Nat.zero_add, List.flatMap_cons, List.set_append_left _ _ (by rw [hf]; exact hj), List.set_cons_zero, List.flatMap_cons, h]
    rfl
  | x :: L, k + 1, hk, j, hj, u, y, h => by
    rw [List.flatMap_cons, List.set_append_right _ _ (by rw [hf, Nat.add_mul]; omega), hf, List.set_cons_succ, List.flatMap_cons, show (k + 1) * sz + j - sz = k * sz + j by rw [Nat.add_mul]; omega]
    rw [flatMap_set_one' f sz hf L k (by simpa using hk) j hj u y h]
section
variable {w : World} {base : Nat} {e : TypeId} {sz n g cap : Nat} {xs : List Value}
/-- One more element, of the spare cells. -/
theorem own_wide (h : w.ownsRow base e sz (.slice (some ⟨g, 0, none⟩) n cap) n xs) (hc : n + 1 ≤ cap) : ∃ ys, ys.length = sz ∧ w.ownsRow base e sz (.slice (some ⟨g, 0, none⟩) (n + 1) cap) (n + 1) (xs ++ ys) := by
  obtain ⟨cur, h2, h3, h4, h5, h6, h7⟩ := own_form h
  have h8 : (n + 1) * sz ≤ cap * sz := Nat.mul_le_mul_right _ hc
  have hl : cur.toList.length = cap * sz := by simpa using h6
  rw [Nat.add_mul, Nat.one_mul] at h8
  refine ⟨(cur.toList.drop (n * sz)).take sz, by rw [List.length_take, List.length_drop]; omega, ?_, .inr ⟨g, cap, cur, rfl, h2, h3, hc, h5, h6, ?_⟩⟩
  · rw [List.length_append, h.1, List.length_take, List.length_drop, Nat.add_mul, Nat.one_mul]; omega
  · rw [Nat.add_mul, Nat.one_mul, List.take_add, h7]
theorem own_shapes (h : w.ownsRow base e sz (.slice (some ⟨g, 0, none⟩) n cap) n xs) (hs : 0 < sz) (hn : 0 < n) : ∃ k, w.shape? g = some (e, k) ∧ k ≠ 0 := by
  obtain ⟨cur, h2, h3, h4, h5, h6, h7⟩ := own_form h
  have : 0 < cap * sz := Nat.mul_pos (by omega) hs
  exact ⟨cur.size, by simp [World.shape?, h3], by omega⟩
theorem whole_shapes {b : Nat} {cs : Array Value} (h : Whole w b e cs) : w.shape? b = some (e, cs.size) ∧ ∀ o, w.frozen? ⟨b, o, none⟩ = false := by
  have h3 : w.heap[b]? = some (.cells cs e (0, 0)) := h
  refine ⟨by simp [World.shape?, h3], fun o => ?_⟩
  unfold World.frozen?
  rw [h3]
  simp
theorem whole_view {b : Nat} {cs : List Value} (h : Whole w b e cs.toArray) (hl : cs.length = sz) : View w sz (.slice (some ⟨b, 0, none⟩) 1 1) 1 cs := by
  have h3 : w.heap[b]? = some (.cells cs.toArray e (0, 0)) := h
  refine ⟨by omega, some ⟨b, 0, none⟩, 1, rfl, Nat.le_refl _, by decide, (by intro h; cases h), fun a ha j v hv => ?_⟩
  cases ha
  rw [addr_row]
  simp [World.cell?, h3, hv]
end

section
variable {P : Program} {w : World} {base : Nat} {e : TypeId} {sz n g cap : Nat} {xs : List Value}
/-- append(s[:i], make(S, k)...) that has no room: a row of the call's own. -/
theorem run_zeros_in (t tn ty : TypeId) (i : TypeInfo) (z : Value) (kq kn : IntKind) (ht : P.underlying t = some (.slice e)) (htn : P.underlying tn = some (.int kn)) (hi : P.info? e = some i) (hz : i.zero = some z) (hzs : z.cells.size = sz) (hsz : i.size = sz) (hs0 : 0 < sz)
    (h : w.ownsRow base e sz (.slice (some ⟨g, 0, none⟩) n cap) n xs) (j k : Nat) (hj : j ≤ n) (hk : 0 < k) (hg : cap < j + k) (hb : i.bytes ≤ 1024) (hm : j + k ≤ 10000000) :
    ∃ w' G Z, (Builtin.append_ #[t, tn] ty #[.slice (some ⟨g, 0, none⟩) j cap, .int kq k]).run P w = .ok (.slice (some ⟨w.heap.size, 0, none⟩) (j + k) G) w' ∧
      w'.ownsRow w.heap.size e sz (.slice (some ⟨w.heap.size, 0, none⟩) (j + k) G) (j + k) Z ∧ Z.take (j * sz) = xs.take (j * sz) ∧ Upd (fun _ => False) w w' := by
  subst hsz
  have hv : View w.drew i.size (.slice (some ⟨g, 0, none⟩) n cap) n xs := View.drew (View.of_own h)
  obtain ⟨hl, A, c, e9, h8, h9, h10, h11⟩ := hv
  cases e9
  have hjn : j * i.size ≤ n * i.size := Nat.mul_le_mul_right _ hj
  have hold : (Builtin.firstCells i.size j (.slice (some ⟨g, 0, none⟩) j cap)).run P w.drew = .ok (xs.take (j * i.size)).toArray w.drew :=
    run_firstCells_some w.drew i.size j ⟨g, 0, none⟩ j cap _ (by rw [List.length_take]; omega) (fun q v hq => h11 _ rfl q v (by
      rw [List.getElem?_take] at hq
      split at hq
      · exact hq
      · cases hq))
  have hfit : Builtin.nextslicecap (j + k) cap * i.bytes ≤ 281474976710656 := growslice_fits hg (by
    have : (j + k) * i.bytes ≤ 10000000 * 1024 := Nat.mul_le_mul hm hb
    omega)
  have hkb : k * i.bytes ≤ 10000000 * 1024 := Nat.mul_le_mul (by omega) hb
  have hr := Lib.run_append_grow_zeros w t tn ty e i z kq kn ht htn hi hz (some ⟨g, 0, none⟩) j cap _ hold k hk hs0 hg (by omega) (by omega) hfit
  have hG : j + k ≤ grownCap w (j + k) cap e := grownCap_ge _ _ _ _
  have hG2 : grownCap w (j + k) cap e ≤ maxLen := grownCap_le_maxLen _ _ _ _ (by simp only [maxLen]; omega)
  generalize grownCap w (j + k) cap e = G at *
  have hlen : ((xs.take (j * i.size)).toArray ++ Builtin.zeroCells z.cells k ++ Builtin.zeroCells z.cells (G - (j + k))).size = G * i.size := by
    simp only [Array.size_append, size_zeroCells, hzs, List.size_toArray, List.length_take, hl]
    rw [Nat.min_eq_left hjn, ← Nat.add_mul, ← Nat.add_mul]
    congr 1
    omega
  refine ⟨_, _, (((xs.take (j * i.size)).toArray ++ Builtin.zeroCells z.cells k ++ Builtin.zeroCells z.cells (G - (j + k))).toList.take ((j + k) * i.size)), hr, ⟨?_, .inr ⟨_, G, _, rfl, Nat.le_refl _, heap_alloc_new w.drew _, hG, hG2, hlen, rfl⟩⟩, ?_, ?_⟩
  · have hjk : (j + k) * i.size ≤ G * i.size := Nat.mul_le_mul_right _ hG
    rw [List.length_take, Array.length_toList, hlen]
    omega
  · have hjk : j * i.size ≤ (j + k) * i.size := Nat.mul_le_mul_right _ (by omega)
    rw [List.take_take, Nat.min_eq_left hjk, Array.toList_append, Array.toList_append, List.append_assoc, List.take_append_of_le_length (by rw [List.toList_toArray, List.length_take]; omega), List.toList_toArray, List.take_take, Nat.min_self]
  · exact ((Upd.refl _ w).drew).alloc _
/-- copy into a row, of cells of which only those that are copied need be plain. -/
theorem run_copy_part (t t2 ty : TypeId) (i : TypeInfo) (ht : P.underlying t = some (.slice e)) (hi : P.info? e = some i) (hsz : i.size = sz) (h : w.ownsRow base e sz (.slice (some ⟨g, 0, none⟩) n cap) n xs)
    (off dLen dCap : Nat) (x : Value) (m : Nat) (ys : List Value) (hx : View w sz x m ys) (h1 : ∀ u ∈ ys.take (Nat.min m dLen * sz), u.oneCell' = true) (hk : off + Nat.min m dLen * sz ≤ n * sz) :
    ∃ w', (Builtin.copy_ #[t, t2] ty #[.slice (some ⟨g, off, none⟩) dLen dCap, x]).run P w = .ok (goInt (Nat.min m dLen)) w' ∧ w'.ownsRow base e sz (.slice (some ⟨g, 0, none⟩) n cap) n (splice xs off (ys.take (Nat.min m dLen * sz))) ∧ Upd (fun b => b = g) w w' := by
  subst hsz
  obtain ⟨cur, h2, h3, h4, h5, h6, h7⟩ := own_form h
  obtain ⟨hl, A, c, rfl, h8, h9, h10, h11⟩ := hx
  have hml : Nat.min m dLen * i.size ≤ ys.length := by rw [hl]; exact Nat.mul_le_mul_right _ (Nat.min_le_left _ _)
  have hcl : (ys.take (Nat.min m dLen * i.size)).length = Nat.min m dLen * i.size := by rw [List.length_take]; omega
  have hnc : n * i.size ≤ cap * i.size := Nat.mul_le_mul_right _ h4
  have hlay := own_lay h h3 off (ys.take (Nat.min m dLen * i.size)) (by rw [hcl]; exact hk)
  refine ⟨_, ?_, hlay⟩
  cases A with
  | some a =>
    have hf := run_firstCells_some (P := P) w i.size (Nat.min m dLen) a m c (ys.take (Nat.min m dLen * i.size)) hcl (fun j v hv => h11 a rfl j v (by
      rw [List.getElem?_take] at hv
      split at hv
      · exact hv
      · cases hv))
    have hst := run_storeCells_at P g off e (ys.take (Nat.min m dLen * i.size)) 0 cur w h3 (by rw [hcl]; omega) (fun v hv => h1 v hv)
    simp only [Nat.add_zero] at hst
    simp [Builtin.copy_, run_underlying ht, sizeOf, typeInfo, hi, Builtin.lenOf, hf, hst]
  | none =>
    have hc := h10 rfl
    obtain rfl : m = 0 := by omega
    obtain rfl : ys = [] := List.eq_nil_of_length_eq_zero (by simpa using hl)
    have e0 : Nat.min 0 dLen = 0 := Nat.zero_min _
    have hself := setRow_self w g cur e (0, 0) h3
    simp [Builtin.copy_, run_underlying ht, sizeOf, typeInfo, hi, Builtin.lenOf, Builtin.firstCells, storeCells, e0, hself]
/-- slices.overlaps of two blocks. -/
theorem run_overlaps_two (tS tR : TypeId) (hu : P.underlying tS = some (.slice e)) (i : TypeInfo) (hi : P.info? e = some i) {b : Nat} {cs : Array Value} {t1 : TypeId} (hb : Whole w b t1 cs) (h : w.ownsRow base e sz (.slice (some ⟨g, 0, none⟩) n cap) n xs) (hs : 0 < sz) (hn : 0 < n) (hne : b ≠ g) (o la ca lb cb : Nat) :
    (Extern.SlicesOverlaps.overlaps #[tS, tS] #[tR] #[.slice (some ⟨b, 0, none⟩) la ca, .slice (some ⟨g, o, none⟩) lb cb]).run P w = .ok (.bool false) w := by
  obtain ⟨k, hk, hk0⟩ := own_shapes h hs hn
  obtain ⟨hsb, hfb⟩ := whole_shapes hb
  exact Lib.run_overlaps_apart w tS tR e hu (P.cellsOf e) (fun w => run_sizeOf w hi) _ _ la ca lb cb hne _ _ _ _ hsb hk hk0 (hfb _) (hfb _)
end

section
variable {P : Program} (w : World)
theorem wpList_append_want {ops : Array Oper} {rest : List Oper} {o : Oper} {a : Act} {Q : Exit → Act → World → Prop} (hgd : Region.wanted o (yielded ops a.tmps) = true) (s x : Operand) (t : TypeId)
    (ho : o.op = .call { callee := .builtin .append, args := #[s, x], argTypes := #[t, t] }) (base : Nat) (e : TypeId) (i : TypeInfo) (z : Value) (sz bytes : Nat) (ht : P.underlying t = some (.slice e)) (hi : P.info? e = some i) (hz : i.zero = some z)
    (hsz : i.size = sz) (hby : i.bytes = bytes) (hzs : z.cells.size = sz) (h0 : 0 < sz)
    (v : Value) (n : Nat) (xs : List Value) (hs : a.eval s = v) (hown : w.ownsRow base e sz v n xs) (y : Value) (m : Nat) (ys : List Value) (hxx : a.eval x = y) (hx : View w sz y m ys) (h1 : ∀ u ∈ ys, u.oneCell' = true)
    (hb : (n + m) * bytes ≤ 140737488355328) (hm : n + m ≤ maxLen) (hbase : base ≤ w.heap.size)
    (h : ∀ v' w', w'.ownsRow base e sz v' (n + m) (xs ++ ys) → w.grownBy w' v.ownBlock → (v'.ownBlock = v.ownBlock ∨ v'.ownBlock = some w.heap.size) → wpList P ops Q rest (a.put o.dst v') w') : wpList P ops Q (o :: rest) a w :=
  wpList_step fun _ hK => by rw [if_pos hgd]; exact wp_append_view w s x t ho base e i z sz bytes ht hi hz hsz hby hzs h0 v n xs hs hown y m ys hxx hx h1 hb hm hbase fun v' w' h2 h3 h4 => hK _ _ (h v' w' h2 h3 h4)
end
end Go.Proofs.PosteMem
