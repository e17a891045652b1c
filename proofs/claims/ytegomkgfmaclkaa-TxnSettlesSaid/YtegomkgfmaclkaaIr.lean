/-
  Rows: slices.Clone and slices.Insert of one row, by their contracts.
-/
import Derived.Test.YtegomkgfmaclkaaRw
import Derived.Test.YtegomkgfmaclkaaIns
import Derived.BigQuiet
set_option linter.unusedVariables false
namespace Go.Proofs.Ytegomkgfmaclkaa
open Go.RowKit Go.Proofs.PosteMem

set_option maxHeartbeats 1000000 in
/-- slices.Clone of rows: the same, in a row of its own. -/
theorem cloneRow (w : World) (v : Value) (L : List Row) (hv : VRows w v L) (hn : L.length ≤ 1000000) :
    Calls Try.prog 59 #[v] w fun e w' => ∃ v', e = .returned v' ∧ ORows w' w.heap.size v' L ∧ Below w.heap.size w w' := by
  obtain ⟨i0, hi0, hz0, hz1, hz2⟩ := info_parts infoRow
  unfold ORows
  have h1 := Row.one L
  unfold VRows at hv
  generalize L.flatMap Row.cells = xs at *
  generalize L.length = n at *
  obtain ⟨hl, A, cap, rfl, h2, h3, h4, h5⟩ := hv
  have hnil := fun (w : World) (a : Option Addr) (n c : Nat) => Lib.run_eql_slice_nil (P := Try.prog) w 22 31 a n c 0 0 Try.underlying22
  cases A with
  | none =>
    have hc := h4 rfl
    obtain rfl : n = 0 := by omega
    subst hc
    obtain rfl : xs = [] := List.eq_nil_of_length_eq_zero (by simpa using hl)
    go_enter Try.func59, Try.ntmps59
    go_wp2
    go_ret
    exact ⟨_, rfl, World.ownsRow_nil _ _ _ _, Below.refl _ _⟩
  | some a =>
    have hx : View (w.alloc (.cells #[] 31)) 2 (.slice (some a) n cap) n xs := View.alloc ⟨hl, some a, cap, rfl, h2, h3, h4, h5⟩ _
    go_enter Try.func59, Try.ntmps59
    go_wp2_with (at_builtin; refine wpList_append_view _ rfl (.tmp 5) (.tmp 6) _ rfl w.heap.size 31 i0 zRow 2 32 Try.underlying22 hi0 hz0 hz1 hz2 rfl (by omega) (.slice (some ⟨w.heap.size, 0, none⟩) 0 0) 0 [] rfl (World.ownsRow_made _ _ _ (Nat.le_refl _) (by simp) rfl) (.slice (some a) n cap) n xs rfl hx h1 (by omega) (by simp only [maxLen] at *; omega) (by simp) ?_; intro v1 w1 hown hg hat)
    go_ret
    exact ⟨v1, rfl, by simpa using hown, ((Below.refl _ _).alloc (Nat.le_refl _) _).grown hg (by simp) (by simp [Value.ownBlock])⟩


theorem row_cells_one (x : Row) : ∀ u ∈ x.cells, u.oneCell' = true := by
  intro u hu
  exact Row.one [x] u (by simpa using hu)
theorem insert_cells (L : List Row) (i : Nat) (x : Row) (hi : i ≤ L.length) : (L.flatMap Row.cells).take (i * 2) ++ (x.cells ++ (L.flatMap Row.cells).drop (i * 2)) = (L.take i ++ x :: L.drop i).flatMap Row.cells := by
  rw [flatMap_take _ 2 Row.len, flatMap_drop _ 2 Row.len, List.flatMap_append, List.flatMap_cons]
theorem insert_len (L : List Row) (i : Nat) (x : Row) (hi : i ≤ L.length) : (L.take i ++ x :: L.drop i).length = L.length + 1 := by
  rw [List.length_append, List.length_cons, List.length_take, List.length_drop]; omega

set_option maxHeartbeats 4000000 in
set_option maxRecDepth 100000 in
/-- slices.Insert behind the last. -/
theorem insert_end (w : World) (B : Nat) (v : Value) (L : List Row) (x : Row) (b : Nat) (h : ORows w B v L) (hm : L.length ≤ 1000000) (hx : Whole w b 31 x.cells.toArray) (hB : B ≤ w.heap.size) :
    Calls Try.prog 60 #[v, .int .i64 L.length, .slice (some ⟨b, 0, none⟩) 1 1] w fun e w' => ∃ v', e = .returned v' ∧ ORows w' B v' (L ++ [x]) ∧ Below B w w' := by
  obtain ⟨i0, hi0, hz0, hz1, hz2⟩ := info_parts infoRow
  obtain ⟨A, cap, rfl, hc1, hc2, hc3⟩ := own_shape h
  have hvx := whole_view (sz := 2) hx rfl
  generalize hxs : L.flatMap Row.cells = xs at *
  unfold ORows at h
  rw [hxs] at h
  replace hxs := Lib.hid hxs
  have hh := Lib.hid h
  clear h
  replace hvx := Lib.hid hvx
  replace hx := Lib.hid hx
  generalize hn : L.length = n at *
  replace hn := Lib.hid hn
  go_enter Try.func60, Try.ntmps60
  go_wp2_with (at_builtin; refine wpList_append_view _ rfl (.tmp 23) (.tmp 24) _ rfl B 31 i0 zRow 2 32 Try.underlying22 hi0 hz0 hz1 hz2 rfl (by omega) (.slice A n cap) n _ rfl hh.out _ 1 x.cells rfl hvx.out (row_cells_one x) (by omega) (by simp only [maxLen] at *; omega) hB ?_; intro v1 w1 hown hg hat)
  all_goals
    go_ret
    exact ⟨v1, rfl, rows_snoc (by rw [hxs.out, hn.out]; exact hown), (Upd.of_grown (S := fun b => (Value.slice A n cap).ownBlock = some b) hg (fun _ h => h)).below hB (fun b he => (hh.out.lt b he).1)⟩

set_option maxRecDepth 100000 in
set_option maxHeartbeats 4000000 in
/-- slices.Insert, where there is no room: a new row. -/
theorem insert_grow (w : World) (B : Nat) (g cap : Nat) (L : List Row) (i : Nat) (x : Row) (b : Nat) (h : ORows w B (.slice (some ⟨g, 0, none⟩) L.length cap) L) (hm : L.length ≤ 1000000) (hi : i < L.length) (hcap : cap < L.length + 1) (hx : Whole w b 31 x.cells.toArray) (hB : B ≤ w.heap.size) :
    Calls Try.prog 60 #[.slice (some ⟨g, 0, none⟩) L.length cap, .int .i64 i, .slice (some ⟨b, 0, none⟩) 1 1] w fun e w' => ∃ v', e = .returned v' ∧ ORows w' B v' (L.take i ++ x :: L.drop i) ∧ Below B w w' := by
  obtain ⟨i0, hi0, hz0, hz1, hz2⟩ := info_parts infoRow
  have hl := h.1
  unfold ORows at h ⊢
  have hvx := whole_view (sz := 2) hx rfl
  have hv := View.of_own h
  obtain ⟨_, _, _, hnc, hcm, _⟩ := own_form h
  have hvd := View.drop (k := i) hv (by omega)
  simp only [Option.map_some, addr_row] at hvd
  rw [insert_len L i x (by omega), ← insert_cells L i x (by omega)]
  have h1 := Row.one L
  generalize L.flatMap Row.cells = xs at *
  generalize L.length = n at *
  obtain ⟨w1, G, Z, hr1, ho1, hZ, hu1⟩ := run_zeros_in (P := Try.prog) (sz := 2) 22 3 22 i0 zRow .i64 .i64 Try.underlying22 Try.underlying3 hi0 hz0 rfl hz1 (by omega) h i (n + 1 - i) (by omega) (by omega) (by omega) (by rw [hz2]; omega) (by omega)
  rw [show i + (n + 1 - i) = n + 1 by omega] at hr1 ho1
  obtain ⟨w2, hr2, ho2, hu2⟩ := run_copy_in (P := Try.prog) (w := w1) (sz := 2) 22 22 3 i0 Try.underlying22 hi0 hz1 ho1 (i * 2) (n + 1 - i) (G - i) _ 1 x.cells (View.upd hvx hu1 (fun _ _ h => h)) (row_cells_one x) (by rw [show Nat.min 1 (n + 1 - i) = 1 from Nat.min_eq_left (by omega)]; omega)
  rw [show Nat.min 1 (n + 1 - i) = 1 from Nat.min_eq_left (by omega)] at hr2 ho2
  have hvd2 := View.drew (View.upd (View.upd hvd hu1 (fun _ _ h => h)) hu2 (fun c hc e => by
    subst e
    split at hc
    · cases hc; exact absurd (own_block h).2 (Nat.lt_irrefl _)
    · cases hc; exact absurd (own_block h).2 (Nat.lt_irrefl _)))
  obtain ⟨w3, hr3, ho3, hu3⟩ := run_copy_in (P := Try.prog) (w := w2.drew) (sz := 2) 22 22 3 i0 Try.underlying22 hi0 hz1 (own_drew ho2) ((i + 1) * 2) (n - i) (G - (i + 1)) _ (n - i) _ hvd2 (fun u hu => h1 u (List.mem_of_mem_drop hu)) (by rw [show Nat.min (n - i) (n - i) = n - i from Nat.min_eq_left (by omega)]; omega)
  rw [show Nat.min (n - i) (n - i) = n - i from Nat.min_eq_left (by omega)] at hr3 ho3
  obtain ⟨cur, _, _, hG1, hG2, _⟩ := own_form ho3
  have hZl := ho1.1
  have e1 : splice (splice Z (i * 2) (x.cells.take (1 * 2))) ((i + 1) * 2) ((xs.drop (i * 2)).take ((n - i) * 2)) = xs.take (i * 2) ++ (x.cells ++ xs.drop (i * 2)) := by
    have e2 : (xs.take (i * 2)).length = i * 2 := by rw [List.length_take]; omega
    have e3 := (splice_in Z (xs.take (i * 2)) (xs.drop (i * 2)) x.cells (by rw [e2, List.length_drop, Row.len]; omega) (by rw [e2, hZ])).2
    rw [e2, Row.len] at e3
    rw [List.take_of_length_le (l := x.cells) (by rw [Row.len]; omega), List.take_of_length_le (l := xs.drop (i * 2)) (by rw [List.length_drop]; omega), show (i + 1) * 2 = i * 2 + 2 by omega]
    exact e3
  rw [e1] at ho3
  have hup : Upd (fun c => c = w.heap.size) w w3 := (((hu1.mono (fun _ _ h => h.elim)).trans hu2 (fun _ _ h => h)).drew).trans hu3 (fun _ _ h => h)
  have hf : w3.ownsRow B 31 2 (.slice (some ⟨w.heap.size, 0, none⟩) (n + 1) G) (n + 1) (xs.take (i * 2) ++ (x.cells ++ xs.drop (i * 2))) ∧ Below B w w3 :=
    ⟨own_mono ho3 hB, hup.below hB (fun c e => e ▸ hB)⟩
  replace hf := Lib.hid hf
  have q1 : ¬ cap = i := by omega
  have q2 : ¬ G = i := by omega
  have q3 : ¬ G = i + 1 := by omega
  have q4 : ¬ (i : Int) = (n : Int) := by omega
  have q5 : (cap : Int) < (n : Int) + 1 := by omega
  have q6 : (i : Int) ≤ (n : Int) := by omega
  have q7 : i ≤ n := by omega
  have q8 : i ≤ cap := by omega
  have hkk : (n : Int) + 1 - (i : Int) = ((n + 1 - i : Nat) : Int) := by omega
  have q9 : i ≤ n + 1 := by omega
  have q10 : i ≤ G := by omega
  have q11 : (i : Int) ≤ (n : Int) + 1 := by omega
  have q12 : i + 1 ≤ n + 1 := by omega
  have q13 : i + 1 ≤ G := by omega
  have q14 : IntKind.i64.wrap ((i : Int) + 1) = (i : Int) + 1 := by rw [IntKind.wrap_i64]; omega
  have q15 : (0 : Int) ≤ (i : Int) + 1 := by omega
  have q16 : (i : Int) + 1 ≤ (n : Int) + 1 := by omega
  have q17 : ((i : Int) + 1).toNat = i + 1 := by omega
  simp only [q1, ite_false] at hr3
  replace hr1 := Lib.hid hr1
  clear h hvx hv hvd ho1 ho2 ho3 hvd2 hZ e1 hZl h1 hu1 hu2 hu3 hup
  go_enter Try.func60, Try.ntmps60
  go_wp2_with (at_builtin; refine Lib.wpList_append_run _ rfl _ _ _ _ rfl _ _ rfl rfl _ _ hr1.out ?_)
  go_region_law (fail)
  go_wp2_with fail
  go_ret
  exact ⟨_, rfl, hf.out⟩

set_option maxRecDepth 100000 in
set_option maxHeartbeats 4000000 in
/-- slices.Insert, where there is room: in place. -/
theorem insert_room (w : World) (B : Nat) (g cap : Nat) (L : List Row) (i : Nat) (x : Row) (b : Nat) (h : ORows w B (.slice (some ⟨g, 0, none⟩) L.length cap) L) (hm : L.length ≤ 1000000) (hi : i < L.length) (hcap : L.length + 1 ≤ cap) (hx : Whole w b 31 x.cells.toArray) (hB : B ≤ w.heap.size) (hne : b ≠ g) :
    Calls Try.prog 60 #[.slice (some ⟨g, 0, none⟩) L.length cap, .int .i64 i, .slice (some ⟨b, 0, none⟩) 1 1] w fun e w' => ∃ v', e = .returned v' ∧ ORows w' B v' (L.take i ++ x :: L.drop i) ∧ Below B w w' := by
  obtain ⟨i0, hi0, hz0, hz1, hz2⟩ := info_parts infoRow
  have hl := h.1
  unfold ORows at h ⊢
  have hvx := whole_view (sz := 2) hx rfl
  obtain ⟨_, _, _, _, hcm, _⟩ := own_form h
  have hgl := own_block h
  rw [insert_len L i x (by omega), ← insert_cells L i x (by omega)]
  have h1 := Row.one L
  generalize L.flatMap Row.cells = xs at *
  generalize L.length = n at *
  have hov := run_overlaps_two (P := Try.prog) 22 4 Try.underlying22 i0 hi0 hx h (by omega) (by omega) hne ((i + 1) * 2) 1 1 (n - i) (cap - (i + 1))
  have hov2 : (callFunc 85 #[.slice (some ⟨b, 0, none⟩) 1 1, .slice (some ⟨g, (i + 1) * 2, none⟩) (n - i) (cap - (i + 1))]).run Try.prog w = .ok (.value (.bool false)) w := by
    rw [run_callFunc_extern Try.func85 (by kernel_rfl) (by kernel_rfl) (by kernel_rfl) (e := Extern.SlicesOverlaps.overlaps #[22, 22] #[4]) (by kernel_rfl), hov]
    rfl
  clear hov
  obtain ⟨ys, hys, ho0⟩ := own_wide h hcap
  have hvd := View.drop (k := i) (View.drew (View.of_own ho0)) (by omega)
  simp only [Option.map_some, addr_row] at hvd
  have q1 : ¬ cap = i := by omega
  have q2 : ¬ cap = i + 1 := by omega
  simp only [q1, ite_false] at hvd
  have em : Nat.min (n + 1 - i) (n - i) = n - i := Nat.min_eq_right (by omega)
  have hy1 : ∀ u ∈ ((xs ++ ys).drop (i * 2)).take (Nat.min (n + 1 - i) (n - i) * 2), u.oneCell' = true := fun u hu => by
    rw [em, List.drop_append_of_le_length (by omega), List.take_append_of_le_length (by rw [List.length_drop]; omega)] at hu
    exact h1 u (List.mem_of_mem_drop (List.mem_of_mem_take hu))
  obtain ⟨w1, hr1, ho1, hu1⟩ := run_copy_part (P := Try.prog) (w := w.drew) (sz := 2) 22 22 3 i0 Try.underlying22 hi0 hz1 (own_drew ho0) ((i + 1) * 2) (n - i) (cap - (i + 1)) _ (n + 1 - i) _ hvd hy1 (by rw [em]; omega)
  rw [em] at hr1 ho1
  have en : Nat.min 1 (n + 1 - i) = 1 := Nat.min_eq_left (by omega)
  obtain ⟨w2, hr2, ho2, hu2⟩ := run_copy_in (P := Try.prog) (w := w1) (sz := 2) 22 22 3 i0 Try.underlying22 hi0 hz1 ho1 (i * 2) (n + 1 - i) (cap - i) _ 1 x.cells (View.upd (View.drew hvx) hu1 (fun c hc e => by cases hc; exact hne e)) (row_cells_one x) (by rw [en]; omega)
  rw [en] at hr2 ho2
  have e1 : splice (splice (xs ++ ys) ((i + 1) * 2) (((xs ++ ys).drop (i * 2)).take ((n - i) * 2))) (i * 2) (x.cells.take (1 * 2)) = xs.take (i * 2) ++ (x.cells ++ xs.drop (i * 2)) := by
    have e2 : (xs.take (i * 2)).length = i * 2 := by rw [List.length_take]; omega
    have e3 := (splice_in (xs ++ ys) (xs.take (i * 2)) (xs.drop (i * 2)) x.cells (by rw [e2, List.length_append, List.length_drop, Row.len]; omega) (by rw [e2, List.take_append_of_le_length (by omega)])).1
    rw [e2, Row.len] at e3
    rw [List.take_of_length_le (l := x.cells) (by rw [Row.len]; omega), List.drop_append_of_le_length (by omega), List.take_append_of_le_length (by rw [List.length_drop]; omega), List.take_of_length_le (l := xs.drop (i * 2)) (by rw [List.length_drop]; omega), show (i + 1) * 2 = i * 2 + 2 by omega]
    exact e3
  rw [e1] at ho2
  have hup : Upd (fun c => c = g) w w2 := ((Upd.refl _ w).drew.trans hu1 (fun _ _ h => h)).trans hu2 (fun _ _ h => h)
  have hf : w2.ownsRow B 31 2 (.slice (some ⟨g, 0, none⟩) (n + 1) cap) (n + 1) (xs.take (i * 2) ++ (x.cells ++ xs.drop (i * 2))) ∧ Below B w w2 :=
    ⟨ho2, hup.below hB (fun c e => e ▸ hgl.1)⟩
  replace hf := Lib.hid hf
  have q4 : ¬ (i : Int) = (n : Int) := by omega
  have q5 : ¬ (cap : Int) < (n : Int) + 1 := by omega
  have q6 : (i : Int) ≤ (n : Int) := by omega
  have q7 : i ≤ n := by omega
  have q8 : i ≤ cap := by omega
  have q9 : i ≤ n + 1 := by omega
  have q11 : (i : Int) ≤ (n : Int) + 1 := by omega
  have q12 : i + 1 ≤ n + 1 := by omega
  have q13 : i + 1 ≤ cap := by omega
  have q14 : IntKind.i64.wrap ((i : Int) + 1) = (i : Int) + 1 := by rw [IntKind.wrap_i64]; omega
  have q15 : (0 : Int) ≤ (i : Int) + 1 := by omega
  have q16 : (i : Int) + 1 ≤ (n : Int) + 1 := by omega
  have q17 : ((i : Int) + 1).toNat = i + 1 := by omega
  have q18 : (n : Int) + 1 ≤ (cap : Int) := by omega
  clear h hvx hvd ho0 ho1 ho2 e1 h1 hy1 hu1 hu2 hup em en
  go_enter Try.func60, Try.ntmps60
  go_wp2_with (simp only [hov2])
  go_region_law (fail)
  go_wp2_with fail
  go_ret
  exact ⟨_, rfl, hf.out⟩

/-- slices.Insert of one row. -/
theorem insert_any (w : World) (B : Nat) (v : Value) (L : List Row) (i : Nat) (x : Row) (b : Nat) (h : ORows w B v L) (hm : L.length ≤ 1000000) (hi : i ≤ L.length) (hx : Whole w b 31 x.cells.toArray) (hB : B ≤ w.heap.size) (hne : v.ownBlock ≠ some b) :
    Calls Try.prog 60 #[v, .int .i64 i, .slice (some ⟨b, 0, none⟩) 1 1] w fun e w' => ∃ v', e = .returned v' ∧ ORows w' B v' (L.take i ++ x :: L.drop i) ∧ Below B w w' := by
  rcases Nat.lt_or_ge i L.length with hlt | hge
  · obtain ⟨g, cap, rfl, h2, h3, h4, h5⟩ := own_some h (by omega)
    rcases Nat.lt_or_ge cap (L.length + 1) with h6 | h6
    · exact insert_grow w B g cap L i x b h hm hlt h6 hx hB
    · exact insert_room w B g cap L i x b h hm hlt h6 hx hB (fun e => hne (by rw [e]; rfl))
  · obtain rfl : i = L.length := by omega
    rw [List.take_length, List.drop_length]
    exact insert_end w B v L x b h hm hx hB

theorem zRow_cells : zRow.cells = #[.string ⟨#[]⟩, .string ⟨#[]⟩] := rfl
theorem zRow_one : ∀ u ∈ zRow.cells.toList, u.oneCell' = true := by
  intro u hu
  rw [zRow_cells] at hu
  simp only [List.mem_cons, List.not_mem_nil, or_false] at hu
  rcases hu with rfl | rfl <;> rfl
theorem splice_erase (L : List Row) (i : Nat) (hi : i < L.length) : (splice (L.flatMap Row.cells) (i * 2) ((L.drop (i + 1)).flatMap Row.cells)).take ((L.length - 1) * 2) = (L.eraseIdx i).flatMap Row.cells := by
  rw [take_splice _ _ _ _ (by rw [flatMap_len _ 2 Row.len, List.length_drop]; omega) (by rw [flatMap_len _ 2 Row.len]; omega)]
  unfold splice
  have e1 : (L.flatMap Row.cells).length = L.length * 2 := flatMap_len _ 2 Row.len L
  have e2 : ((L.drop (i + 1)).flatMap Row.cells).length = (L.length - (i + 1)) * 2 := by rw [flatMap_len _ 2 Row.len, List.length_drop]
  have e3 : List.drop (i * 2 + ((L.drop (i + 1)).flatMap Row.cells).length) ((L.flatMap Row.cells).take ((L.length - 1) * 2)) = [] := List.drop_eq_nil_of_le (by rw [List.length_take, e1, e2]; omega)
  rw [e3, List.append_nil, List.take_take, Nat.min_eq_left (by omega), flatMap_take _ 2 Row.len, ← List.flatMap_append, List.eraseIdx_eq_take_drop_succ]

set_option maxHeartbeats 4000000 in
set_option maxRecDepth 100000 in
theorem delete_any (w : World) (B : Nat) (v : Value) (L : List Row) (i : Nat) (h : ORows w B v L) (hi : i < L.length) (hm : L.length ≤ 1000000) :
    Calls Try.prog 62 #[v, .int .i64 i, .int .i64 ((i : Int) + 1)] w fun e w' => ∃ v', e = .returned v' ∧ ORows w' B v' (L.eraseIdx i) ∧ Upd (fun b => v.ownBlock = some b) w w' ∧ v'.ownBlock = v.ownBlock := by
  obtain ⟨i0, hi0, hz0, hz1, hz2⟩ := info_parts infoRow
  unfold ORows at h
  obtain ⟨g, cap, rfl, hc, hcm, hB, hg⟩ := own_some h (by omega)
  have hv := View.drop (k := i + 1) (View.of_own h) (by omega)
  rw [flatMap_drop _ 2 Row.len] at hv
  simp only [Option.map_some, addr_row] at hv
  obtain ⟨w1, hr1, ho1, hu1⟩ := run_append_in (P := Try.prog) (w := w.drew) 22 22 i0 Try.underlying22 hi0 hz1 (own_drew h) i _ _ _ (View.drew hv) (Row.one _) (by omega)
  obtain ⟨k, hk⟩ : ∃ k, L.length = k + 1 := ⟨L.length - 1, by omega⟩
  rw [show i + (L.length - (i + 1)) = k by omega] at hr1
  obtain ⟨w2, hr2, ho2, hu2⟩ := run_clear_in (P := Try.prog) (w := w1) (sz := 2) 22 0 i0 zRow Try.underlying22 hi0 hz0 rfl zRow_one ho1 (k * 2) (L.length - k) (cap - k) (by omega)
  have hf : w2.ownsRow B 31 2 (.slice (some ⟨g, 0, none⟩) k cap) k ((L.eraseIdx i).flatMap Row.cells) := by
    obtain ⟨A, c, e, ho3⟩ := own_take ho2 (k := k) (by omega)
    injection e with e1 e2 e3
    subst e1 e3
    have e4 : (splice (splice (L.flatMap Row.cells) (i * 2) ((L.drop (i + 1)).flatMap Row.cells)) (k * 2) (Builtin.zeroCells zRow.cells (L.length - k)).toList).take (k * 2) = (L.eraseIdx i).flatMap Row.cells := by
      rw [← splice_erase L i hi, show L.length - 1 = k by omega]
      generalize hS : splice (L.flatMap Row.cells) (i * 2) ((L.drop (i + 1)).flatMap Row.cells) = S at *
      have hl := ho1.1
      unfold splice
      rw [List.take_append_of_le_length (by rw [List.length_take]; omega), List.take_take, Nat.min_self]
    rw [e4] at ho3
    exact ho3
  have hup : Upd (fun b => b = g) w w2 := ((Upd.refl _ w).drew.trans hu1 (fun _ _ h => h)).trans hu2 (fun _ _ h => h)
  replace hr1 := Lib.hid hr1
  replace hr2 := Lib.hid hr2
  have e1 : (L.eraseIdx i).length = k := by rw [List.length_eraseIdx_of_lt hi]; omega
  replace hf := Lib.hid hf
  clear h hv ho1 ho2
  have q1 : ((i : Int) == (i : Int) + 1) = false := beq_eq_false_iff_ne.2 (by omega)
  have q2 : i ≤ cap := by omega
  have q3 : i + 1 ≤ L.length := hi
  have q4 : i + 1 ≤ cap := by omega
  have q5 : (0 : Int) ≤ (i : Int) + 1 := by omega
  have q6 : (i : Int) + 1 ≤ (L.length : Int) := by omega
  have q7 : k ≤ L.length := by omega
  have q9 : ¬ cap = k := by omega
  have q10 : (k : Int) ≤ (L.length : Int) := by omega
  have q11 : k ≤ cap := by omega
  replace hk := Lib.hid hk
  have q8 : L.length ≤ cap := by omega
  generalize hn : L.length = n at *
  replace hn := Lib.hid hn
  replace e1 := Lib.hid e1
  go_enter Try.func62, Try.ntmps62
  go_wp2_with fail
  go_region_law ((refine step_append_run rfl (.tmp 22) (.tmp 25) _ _ rfl _ _ rfl rfl hr1.out ?_))
  go_wp2_with (refine wpList_clear_run (o := ⟨none, _, _, _, _, _⟩) rfl (.tmp 31) _ rfl _ rfl hr2.out ?_)
  all_goals
    go_ret
    refine ⟨_, rfl, ?_, hup.mono (fun b _ e => by rw [e]; rfl), rfl⟩
    unfold ORows
    rw [e1.out]
    first
      | exact hf.out
      | (have hh := hf.out
         rw [show cap = i + 1 by assumption] at hh
         exact hh)
end Go.Proofs.Ytegomkgfmaclkaa
