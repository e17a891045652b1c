/-
  Messages: slices.Insert of one message, by its contract.
-/
import Derived.Test.YtbckobclicogiaaMt
import Derived.Test.YtbckobclicogiaaIns
import Derived.BigQuiet
set_option linter.unusedVariables false
namespace Go.Proofs.Ytbckobclicogiaa
open Go.RowKit Go.Proofs.PosteMem

theorem msg_cells_one (x : Msg) : ∀ u ∈ x.cells, u.oneCell' = true := by
  intro u hu
  exact Msg.one [x] u (by simpa using hu)
theorem insert_cells (L : List Msg) (i : Nat) (x : Msg) (hi : i ≤ L.length) : (L.flatMap Msg.cells).take (i * 6) ++ (x.cells ++ (L.flatMap Msg.cells).drop (i * 6)) = (L.take i ++ x :: L.drop i).flatMap Msg.cells := by
  rw [flatMap_take _ 6 Msg.len, flatMap_drop _ 6 Msg.len, List.flatMap_append, List.flatMap_cons]
theorem insert_len (L : List Msg) (i : Nat) (x : Msg) (hi : i ≤ L.length) : (L.take i ++ x :: L.drop i).length = L.length + 1 := by
  rw [List.length_append, List.length_cons, List.length_take, List.length_drop]; omega

set_option maxHeartbeats 4000000 in
set_option maxRecDepth 100000 in
/-- slices.Insert behind the last. -/
theorem insert_end (w : World) (B : Nat) (v : Value) (L : List Msg) (x : Msg) (b : Nat) (h : OMsgs w B v L) (hm : L.length ≤ 1000000) (hx : Whole w b 34 x.cells.toArray) (hB : B ≤ w.heap.size) :
    Calls Try.prog 58 #[v, .int .i64 L.length, .slice (some ⟨b, 0, none⟩) 1 1] w fun e w' => ∃ v', e = .returned v' ∧ OMsgs w' B v' (L ++ [x]) ∧ Below B w w' := by
  obtain ⟨i0, hi0, hz0, hz1, hz2⟩ := info_parts infoMsg
  obtain ⟨A, cap, rfl, hc1, hc2, hc3⟩ := own_shape h
  have hvx := whole_view (sz := 6) hx rfl
  generalize hxs : L.flatMap Msg.cells = xs at *
  unfold OMsgs at h
  rw [hxs] at h
  replace hxs := Lib.hid hxs
  have hh := Lib.hid h
  clear h
  replace hvx := Lib.hid hvx
  replace hx := Lib.hid hx
  generalize hn : L.length = n at *
  replace hn := Lib.hid hn
  go_enter Try.func58, Try.ntmps58
  go_wp2_with (at_builtin; refine wpList_append_view _ rfl (.tmp 23) (.tmp 24) _ rfl B 34 i0 zMsg 6 64 Try.underlying23 hi0 hz0 hz1 hz2 rfl (by omega) (.slice A n cap) n _ rfl hh.out _ 1 x.cells rfl hvx.out (msg_cells_one x) (by omega) (by simp only [maxLen] at *; omega) hB ?_; intro v1 w1 hown hg hat)
  all_goals
    go_ret
    exact ⟨v1, rfl, msgs_snoc (by rw [hxs.out, hn.out]; exact hown), (Upd.of_grown (S := fun b => (Value.slice A n cap).ownBlock = some b) hg (fun _ h => h)).below hB (fun b he => (hh.out.lt b he).1)⟩

set_option maxRecDepth 100000 in
set_option maxHeartbeats 4000000 in
/-- slices.Insert, where there is no room: a new row. -/
theorem insert_grow (w : World) (B : Nat) (g cap : Nat) (L : List Msg) (i : Nat) (x : Msg) (b : Nat) (h : OMsgs w B (.slice (some ⟨g, 0, none⟩) L.length cap) L) (hm : L.length ≤ 1000000) (hi : i < L.length) (hcap : cap < L.length + 1) (hx : Whole w b 34 x.cells.toArray) (hB : B ≤ w.heap.size) :
    Calls Try.prog 58 #[.slice (some ⟨g, 0, none⟩) L.length cap, .int .i64 i, .slice (some ⟨b, 0, none⟩) 1 1] w fun e w' => ∃ v', e = .returned v' ∧ OMsgs w' B v' (L.take i ++ x :: L.drop i) ∧ Below B w w' := by
  obtain ⟨i0, hi0, hz0, hz1, hz2⟩ := info_parts infoMsg
  have hl := h.1
  unfold OMsgs at h ⊢
  have hvx := whole_view (sz := 6) hx rfl
  have hv := View.of_own h
  obtain ⟨_, _, _, hnc, hcm, _⟩ := own_form h
  have hvd := View.drop (k := i) hv (by omega)
  simp only [Option.map_some, addr_row] at hvd
  rw [insert_len L i x (by omega), ← insert_cells L i x (by omega)]
  have h1 := Msg.one L
  generalize L.flatMap Msg.cells = xs at *
  generalize L.length = n at *
  obtain ⟨w1, G, Z, hr1, ho1, hZ, hu1⟩ := run_zeros_in (P := Try.prog) (sz := 6) 23 3 23 i0 zMsg .i64 .i64 Try.underlying23 Try.underlying3 hi0 hz0 rfl hz1 (by omega) h i (n + 1 - i) (by omega) (by omega) (by omega) (by rw [hz2]; omega) (by omega)
  rw [show i + (n + 1 - i) = n + 1 by omega] at hr1 ho1
  obtain ⟨w2, hr2, ho2, hu2⟩ := run_copy_in (P := Try.prog) (w := w1) (sz := 6) 23 23 3 i0 Try.underlying23 hi0 hz1 ho1 (i * 6) (n + 1 - i) (G - i) _ 1 x.cells (View.upd hvx hu1 (fun _ _ h => h)) (msg_cells_one x) (by rw [show Nat.min 1 (n + 1 - i) = 1 from Nat.min_eq_left (by omega)]; omega)
  rw [show Nat.min 1 (n + 1 - i) = 1 from Nat.min_eq_left (by omega)] at hr2 ho2
  have hvd2 := View.drew (View.upd (View.upd hvd hu1 (fun _ _ h => h)) hu2 (fun c hc e => by
    subst e
    split at hc
    · cases hc; exact absurd (own_block h).2 (Nat.lt_irrefl _)
    · cases hc; exact absurd (own_block h).2 (Nat.lt_irrefl _)))
  obtain ⟨w3, hr3, ho3, hu3⟩ := run_copy_in (P := Try.prog) (w := w2.drew) (sz := 6) 23 23 3 i0 Try.underlying23 hi0 hz1 (own_drew ho2) ((i + 1) * 6) (n - i) (G - (i + 1)) _ (n - i) _ hvd2 (fun u hu => h1 u (List.mem_of_mem_drop hu)) (by rw [show Nat.min (n - i) (n - i) = n - i from Nat.min_eq_left (by omega)]; omega)
  rw [show Nat.min (n - i) (n - i) = n - i from Nat.min_eq_left (by omega)] at hr3 ho3
  obtain ⟨cur, _, _, hG1, hG2, _⟩ := own_form ho3
  have hZl := ho1.1
  have e1 : splice (splice Z (i * 6) (x.cells.take (1 * 6))) ((i + 1) * 6) ((xs.drop (i * 6)).take ((n - i) * 6)) = xs.take (i * 6) ++ (x.cells ++ xs.drop (i * 6)) := by
    have e2 : (xs.take (i * 6)).length = i * 6 := by rw [List.length_take]; omega
    have e3 := (splice_in Z (xs.take (i * 6)) (xs.drop (i * 6)) x.cells (by rw [e2, List.length_drop, Msg.len]; omega) (by rw [e2, hZ])).2
    rw [e2, Msg.len] at e3
    rw [List.take_of_length_le (l := x.cells) (by rw [Msg.len]; omega), List.take_of_length_le (l := xs.drop (i * 6)) (by rw [List.length_drop]; omega), show (i + 1) * 6 = i * 6 + 6 by omega]
    exact e3
  rw [e1] at ho3
  have hup : Upd (fun c => c = w.heap.size) w w3 := (((hu1.mono (fun _ _ h => h.elim)).trans hu2 (fun _ _ h => h)).drew).trans hu3 (fun _ _ h => h)
  have hf : w3.ownsRow B 34 6 (.slice (some ⟨w.heap.size, 0, none⟩) (n + 1) G) (n + 1) (xs.take (i * 6) ++ (x.cells ++ xs.drop (i * 6))) ∧ Below B w w3 :=
    ⟨own_mono ho3 hB, hup.below hB (fun c e => e ▸ hB)⟩
  replace hf := Lib.hid hf
  have q1 : ¬ cap = i := by omega
  have q2 : ¬ G = i := by omega
  have q3 : ¬ G = i + 1 := by omega
  have q4 : ¬ (i : Int) = (n : Int) := by omega
  have q5 : (cap : Int) < (n : Int) + 1 := by omega
  have q6 : (i : Int) ≤ (n : Int) := by omega
  have q7 : i ≤ n := by omega
  have q8 : i ≤ cap := by omega
  have hkk : (n : Int) + 1 - (i : Int) = ((n + 1 - i : Nat) : Int) := by omega
  have q9 : i ≤ n + 1 := by omega
  have q10 : i ≤ G := by omega
  have q11 : (i : Int) ≤ (n : Int) + 1 := by omega
  have q12 : i + 1 ≤ n + 1 := by omega
  have q13 : i + 1 ≤ G := by omega
  have q14 : IntKind.i64.wrap ((i : Int) + 1) = (i : Int) + 1 := by rw [IntKind.wrap_i64]; omega
  have q15 : (0 : Int) ≤ (i : Int) + 1 := by omega
  have q16 : (i : Int) + 1 ≤ (n : Int) + 1 := by omega
  have q17 : ((i : Int) + 1).toNat = i + 1 := by omega
  simp only [q1, ite_false] at hr3
  replace hr1 := Lib.hid hr1
  clear h hvx hv hvd ho1 ho2 ho3 hvd2 hZ e1 hZl h1 hu1 hu2 hu3 hup
  go_enter Try.func58, Try.ntmps58
  go_wp2_with (at_builtin; refine Lib.wpList_append_run _ rfl _ _ _ _ rfl _ _ rfl rfl _ _ hr1.out ?_)
  go_region_law (fail)
  go_wp2_with fail
  go_ret
  exact ⟨_, rfl, hf.out⟩

set_option maxRecDepth 100000 in
set_option maxHeartbeats 4000000 in
/-- slices.Insert, where there is room: in place. -/
theorem insert_room (w : World) (B : Nat) (g cap : Nat) (L : List Msg) (i : Nat) (x : Msg) (b : Nat) (h : OMsgs w B (.slice (some ⟨g, 0, none⟩) L.length cap) L) (hm : L.length ≤ 1000000) (hi : i < L.length) (hcap : L.length + 1 ≤ cap) (hx : Whole w b 34 x.cells.toArray) (hB : B ≤ w.heap.size) (hne : b ≠ g) :
    Calls Try.prog 58 #[.slice (some ⟨g, 0, none⟩) L.length cap, .int .i64 i, .slice (some ⟨b, 0, none⟩) 1 1] w fun e w' => ∃ v', e = .returned v' ∧ OMsgs w' B v' (L.take i ++ x :: L.drop i) ∧ Below B w w' := by
  obtain ⟨i0, hi0, hz0, hz1, hz2⟩ := info_parts infoMsg
  have hl := h.1
  unfold OMsgs at h ⊢
  have hvx := whole_view (sz := 6) hx rfl
  obtain ⟨_, _, _, _, hcm, _⟩ := own_form h
  have hgl := own_block h
  rw [insert_len L i x (by omega), ← insert_cells L i x (by omega)]
  have h1 := Msg.one L
  generalize L.flatMap Msg.cells = xs at *
  generalize L.length = n at *
  have hov := run_overlaps_two (P := Try.prog) 23 4 Try.underlying23 i0 hi0 hx h (by omega) (by omega) hne ((i + 1) * 6) 1 1 (n - i) (cap - (i + 1))
  have hov2 : (callFunc 66 #[.slice (some ⟨b, 0, none⟩) 1 1, .slice (some ⟨g, (i + 1) * 6, none⟩) (n - i) (cap - (i + 1))]).run Try.prog w = .ok (.value (.bool false)) w := by
    rw [run_callFunc_extern Try.func66 (by kernel_rfl) (by kernel_rfl) (by kernel_rfl) (e := Extern.SlicesOverlaps.overlaps #[23, 23] #[4]) (by kernel_rfl), hov]
    rfl
  clear hov
  obtain ⟨ys, hys, ho0⟩ := own_wide h hcap
  have hvd := View.drop (k := i) (View.drew (View.of_own ho0)) (by omega)
  simp only [Option.map_some, addr_row] at hvd
  have q1 : ¬ cap = i := by omega
  have q2 : ¬ cap = i + 1 := by omega
  simp only [q1, ite_false] at hvd
  have em : Nat.min (n + 1 - i) (n - i) = n - i := Nat.min_eq_right (by omega)
  have hy1 : ∀ u ∈ ((xs ++ ys).drop (i * 6)).take (Nat.min (n + 1 - i) (n - i) * 6), u.oneCell' = true := fun u hu => by
    rw [em, List.drop_append_of_le_length (by omega), List.take_append_of_le_length (by rw [List.length_drop]; omega)] at hu
    exact h1 u (List.mem_of_mem_drop (List.mem_of_mem_take hu))
  obtain ⟨w1, hr1, ho1, hu1⟩ := run_copy_part (P := Try.prog) (w := w.drew) (sz := 6) 23 23 3 i0 Try.underlying23 hi0 hz1 (own_drew ho0) ((i + 1) * 6) (n - i) (cap - (i + 1)) _ (n + 1 - i) _ hvd hy1 (by rw [em]; omega)
  rw [em] at hr1 ho1
  have en : Nat.min 1 (n + 1 - i) = 1 := Nat.min_eq_left (by omega)
  obtain ⟨w2, hr2, ho2, hu2⟩ := run_copy_in (P := Try.prog) (w := w1) (sz := 6) 23 23 3 i0 Try.underlying23 hi0 hz1 ho1 (i * 6) (n + 1 - i) (cap - i) _ 1 x.cells (View.upd (View.drew hvx) hu1 (fun c hc e => by cases hc; exact hne e)) (msg_cells_one x) (by rw [en]; omega)
  rw [en] at hr2 ho2
  have e1 : splice (splice (xs ++ ys) ((i + 1) * 6) (((xs ++ ys).drop (i * 6)).take ((n - i) * 6))) (i * 6) (x.cells.take (1 * 6)) = xs.take (i * 6) ++ (x.cells ++ xs.drop (i * 6)) := by
    have e2 : (xs.take (i * 6)).length = i * 6 := by rw [List.length_take]; omega
    have e3 := (splice_in (xs ++ ys) (xs.take (i * 6)) (xs.drop (i * 6)) x.cells (by rw [e2, List.length_append, List.length_drop, Msg.len]; omega) (by rw [e2, List.take_append_of_le_length (by omega)])).1
    rw [e2, Msg.len] at e3
    rw [List.take_of_length_le (l := x.cells) (by rw [Msg.len]; omega), List.drop_append_of_le_length (by omega), List.take_append_of_le_length (by rw [List.length_drop]; omega), List.take_of_length_le (l := xs.drop (i * 6)) (by rw [List.length_drop]; omega), show (i + 1) * 6 = i * 6 + 6 by omega]
    exact e3
  rw [e1] at ho2
  have hup : Upd (fun c => c = g) w w2 := ((Upd.refl _ w).drew.trans hu1 (fun _ _ h => h)).trans hu2 (fun _ _ h => h)
  have hf : w2.ownsRow B 34 6 (.slice (some ⟨g, 0, none⟩) (n + 1) cap) (n + 1) (xs.take (i * 6) ++ (x.cells ++ xs.drop (i * 6))) ∧ Below B w w2 :=
    ⟨ho2, hup.below hB (fun c e => e ▸ hgl.1)⟩
  replace hf := Lib.hid hf
  have q4 : ¬ (i : Int) = (n : Int) := by omega
  have q5 : ¬ (cap : Int) < (n : Int) + 1 := by omega
  have q6 : (i : Int) ≤ (n : Int) := by omega
  have q7 : i ≤ n := by omega
  have q8 : i ≤ cap := by omega
  have q9 : i ≤ n + 1 := by omega
  have q11 : (i : Int) ≤ (n : Int) + 1 := by omega
  have q12 : i + 1 ≤ n + 1 := by omega
  have q13 : i + 1 ≤ cap := by omega
  have q14 : IntKind.i64.wrap ((i : Int) + 1) = (i : Int) + 1 := by rw [IntKind.wrap_i64]; omega
  have q15 : (0 : Int) ≤ (i : Int) + 1 := by omega
  have q16 : (i : Int) + 1 ≤ (n : Int) + 1 := by omega
  have q17 : ((i : Int) + 1).toNat = i + 1 := by omega
  have q18 : (n : Int) + 1 ≤ (cap : Int) := by omega
  clear h hvx hvd ho0 ho1 ho2 e1 h1 hy1 hu1 hu2 hup em en
  go_enter Try.func58, Try.ntmps58
  go_wp2_with (simp only [hov2])
  go_region_law (fail)
  go_wp2_with fail
  go_ret
  exact ⟨_, rfl, hf.out⟩

/-- slices.Insert of one message. -/
theorem insert_any (w : World) (B : Nat) (v : Value) (L : List Msg) (i : Nat) (x : Msg) (b : Nat) (h : OMsgs w B v L) (hm : L.length ≤ 1000000) (hi : i ≤ L.length) (hx : Whole w b 34 x.cells.toArray) (hB : B ≤ w.heap.size) (hne : v.ownBlock ≠ some b) :
    Calls Try.prog 58 #[v, .int .i64 i, .slice (some ⟨b, 0, none⟩) 1 1] w fun e w' => ∃ v', e = .returned v' ∧ OMsgs w' B v' (L.take i ++ x :: L.drop i) ∧ Below B w w' := by
  rcases Nat.lt_or_ge i L.length with hlt | hge
  · obtain ⟨g, cap, rfl, h2, h3, h4, h5⟩ := own_some h (by omega)
    rcases Nat.lt_or_ge cap (L.length + 1) with h6 | h6
    · exact insert_grow w B g cap L i x b h hm hlt h6 hx hB
    · exact insert_room w B g cap L i x b h hm hlt h6 hx hB (fun e => hne (by rw [e]; rfl))
  · obtain rfl : i = L.length := by omega
    rw [List.take_length, List.drop_length]
    exact insert_end w B v L x b h hm hx hB

end Go.Proofs.Ytbckobclicogiaa
