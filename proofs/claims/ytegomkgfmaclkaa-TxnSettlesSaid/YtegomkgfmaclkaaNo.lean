/-
  node.Put, node.Cut and node.Halves, by their contracts; what they have been called with stays.
-/
import Derived.Test.YtegomkgfmaclkaaIr
import Derived.Test.YtegomkgfmaclkaaTill
import Derived.Test.YtegomkgfmaclkaaMk
set_option linter.unusedVariables false
namespace Go.Proofs.Ytegomkgfmaclkaa
open Go.RowKit Go.Proofs.PosteOrd Go.Proofs.PosteMem

/-- Rows with one put where FoundAt says. -/
def putL (L : List Row) (i : Nat) (t : Bool) (x : Row) : List Row := if t = true then L.set i x else L.take i ++ x :: L.drop i
theorem found_lt {L : List Row} {key : ByteArray} {i : Nat} (h : FoundAt L key i true) : i < L.length := (h.is.1 rfl).1

set_option maxRecDepth 100000 in
set_option maxHeartbeats 4000000 in
theorem put_any (w : World) (v : Value) (L : List Row) (x : Row) (i : Nat) (t : Bool) (h : VRows w v L) (hm : L.length ≤ 999999) (hi : FoundAt L x.key i t) :
    Calls Try.prog 19 #[v, .agg #[.string x.key, .string x.val]] w fun e w' => ∃ v', e = .returned v' ∧ ORows w' w.heap.size v' (putL L i t x) ∧ Below w.heap.size w w' := by
  have hbx := Whole.new w 31 #[.string x.key, .string x.val]
  have hb0 := (Below.refl w.heap.size w).alloc (Nat.le_refl _) (.cells #[.string x.key, .string x.val] 31)
  have p0 := hbx.cell 0
  replace h := Lib.hid (View.alloc h (.cells #[.string x.key, .string x.val] 31))
  replace hi := Lib.hid hi
  have hsz : (w.alloc (.cells #[.string x.key, .string x.val] 31)).heap.size = w.heap.size + 1 := by simp
  obtain ⟨v0, hv0⟩ : ∃ v0, v0 = v := ⟨v, rfl⟩
  cases t with
  | true =>
    have hlt := found_lt hi.out
    go_enter Try.func19, Try.ntmps19
    go_wp2_with fail
    refine (find_any _ _ L _ i true h.out (by omega) hi.out).mono ?_; rintro e w1 ⟨rfl, hb1⟩
    have hb1' := hb0.trans (hb1.mono (by omega))
    have hbx1 := hbx.below hb1
    have h1 := Lib.hid (View.below h.out hb1)
    go_wp2_with fail
    refine (cloneRow _ _ L h1.out (by omega)).mono ?_; rintro e w2 ⟨v2, rfl, ho2, hb2⟩
    have hb2' := hb1'.trans (hb2.mono (by have := hb1.size; omega))
    have hbx2 := hbx1.below hb2
    obtain ⟨g, cap, rfl, c1, c2, c3, c4⟩ := own_some ho2 (by omega)
    have d0 := hbx2.cell 0
    have d1 := hbx2.cell 1
    have ho2' := ho2
    unfold ORows at ho2'
    have e0 := Option.isSome_iff_exists.2 ⟨_, own_cell ho2' (i * 2) (by omega)⟩
    have e1 := own_cell ho2' (i * 2 + 1) (by omega)
    have e2 := own_cell ho2' (i * 2) (by omega)
    have f0 := own_free ho2' (i * 2)
    have f1 := own_free ho2' (i * 2 + 1)
    have hne : g ≠ w.heap.size := by have := hb1.size; omega
    have q1 : (i : Int) < (L.length : Int) := by omega
    have hs1 := own_set ho2' (i * 2) (by omega) (.string x.key)
    have hs2 := own_set hs1 (i * 2 + 1) (by omega) (.string x.val)
    have em : (((L.flatMap Row.cells).set (i * 2) (.string x.key)).set (i * 2 + 1) (.string x.val)) = (L.set i x).flatMap Row.cells := by
      have h3 := flatMap_set_one' Row.cells 2 Row.len L i hlt 0 (by omega) (.string x.key) ⟨x.key, L[i].val⟩ rfl
      rw [Nat.add_zero] at h3
      rw [h3, flatMap_set_one' Row.cells 2 Row.len (L.set i ⟨x.key, L[i].val⟩) i (by simpa using hlt) 1 (by omega) (.string x.val) x (by rw [List.getElem_set_self]; rfl), List.set_set]
    rw [em] at hs2
    have hup : Below w.heap.size w2 ((w2.setCell ⟨g, i * 2, none⟩ (.string x.key)).setCell ⟨g, i * 2 + 1, none⟩ (.string x.val)) :=
      ((Below.refl _ _).setCell (by show w.heap.size ≤ g; have := hb1.size; omega) _).setCell (by show w.heap.size ≤ g; have := hb1.size; omega) _
    have hf : ORows ((w2.setCell ⟨g, i * 2, none⟩ (.string x.key)).setCell ⟨g, i * 2 + 1, none⟩ (.string x.val)) w.heap.size (.slice (some ⟨g, 0, none⟩) L.length cap) (putL L i true x) ∧ Below w.heap.size w ((w2.setCell ⟨g, i * 2, none⟩ (.string x.key)).setCell ⟨g, i * 2 + 1, none⟩ (.string x.val)) := by
      refine ⟨?_, hb2'.trans hup⟩
      unfold putL ORows
      rw [if_pos rfl, List.length_set]
      exact own_mono hs2 (by have := hb1.size; omega)
    replace hf := Lib.hid hf
    replace hs1 := Lib.hid hs1
    replace hs2 := Lib.hid hs2
    replace ho2 := Lib.hid ho2
    replace ho2' := Lib.hid ho2'
    replace em := Lib.hid em
    clear e0
    go_wp2_with fail
    go_ret
    exact ⟨_, rfl, hf.out⟩
  | false =>
    go_enter Try.func19, Try.ntmps19
    go_wp2_with fail
    refine (find_any _ _ L _ i false h.out (by omega) hi.out).mono ?_; rintro e w1 ⟨rfl, hb1⟩
    have hb1' := hb0.trans (hb1.mono (by omega))
    have hbx1 := hbx.below hb1
    have h1 := Lib.hid (View.below h.out hb1)
    go_wp2_with fail
    refine (cloneRow _ _ L h1.out (by omega)).mono ?_; rintro e w2 ⟨v2, rfl, ho2, hb2⟩
    have hb2' := hb1'.trans (hb2.mono (by have := hb1.size; omega))
    have hbx2 := hbx1.below hb2
    have d0 := hbx2.cell 0
    have d1 := hbx2.cell 1
    have ho3 := own_below ho2 ((Below.refl _ _).alloc (Nat.le_refl _) (.cells #[.string x.key, .string x.val] 31))
    have hbx3 := Whole.new w2 31 #[.string x.key, .string x.val]
    have hb3 := hb2'.alloc hb2'.size (.cells #[.string x.key, .string x.val] 31)
    replace ho2 := Lib.hid ho2
    have hln : v2.ownBlock ≠ some w2.heap.size := fun e => by
      have := (ho2.out.lt _ e).2
      omega
    replace ho3 := Lib.hid ho3
    obtain ⟨A2, c2, rfl, _, _, _⟩ := own_shape ho2.out
    go_wp2_with fail
    refine (insert_any _ w.heap.size _ L i x w2.heap.size (own_mono ho3.out (by have := hb1.size; omega)) (by omega) hi.out.le hbx3 hb3.size hln).mono ?_; rintro e w4 ⟨v4, rfl, ho4, hb4⟩
    go_wp2_with fail
    go_ret
    exact ⟨_, rfl, ho4, hb3.trans hb4⟩

theorem putL_len {L : List Row} {i : Nat} {t : Bool} {x : Row} (h : i ≤ L.length) : (putL L i t x).length = if t = true then L.length else L.length + 1 := by
  unfold putL
  split
  · rw [List.length_set]
  · exact insert_len L i x h
/-- Rows without the one that was found. -/
def cutL (L : List Row) (i : Nat) (t : Bool) : List Row := if t = true then L.eraseIdx i else L

set_option maxRecDepth 100000 in
set_option maxHeartbeats 4000000 in
theorem cut_any (w : World) (v : Value) (L : List Row) (key : ByteArray) (i : Nat) (t : Bool) (h : VRows w v L) (hm : L.length ≤ 999999) (hi : FoundAt L key i t) :
    Calls Try.prog 21 #[v, .string key] w fun e w' => ∃ v', e = .returned (.tuple #[v', .bool t]) ∧ ORows w' w.heap.size v' (cutL L i t) ∧ Below w.heap.size w w' := by
  replace h := Lib.hid h
  replace hi := Lib.hid hi
  cases t with
  | true =>
    have hlt := found_lt hi.out
    go_enter Try.func21, Try.ntmps21
    go_wp2_with fail
    refine (find_any _ _ L _ i true h.out (by omega) hi.out).mono ?_; rintro e w1 ⟨rfl, hb1⟩
    have h1 := Lib.hid (View.below h.out hb1)
    go_wp2_with fail
    refine (cloneRow _ _ L h1.out (by omega)).mono ?_; rintro e w2 ⟨v2, rfl, ho2, hb2⟩
    have hb2' := below_then hb1 hb2
    have q1 : IntKind.i64.wrap ((i : Int) + 1) = (i : Int) + 1 := by rw [IntKind.wrap_i64]; omega
    go_wp2_with fail
    refine (delete_any _ _ _ L i ho2 hlt (by omega)).mono ?_; rintro e w3 ⟨v3, rfl, ho3, hu3, hv3⟩
    have hb3 := hb2'.trans (hu3.below hb2'.size (fun b he => by have := (ho2.lt b he).1; have := hb1.size; omega))
    have hf : ORows w3 w.heap.size v3 (cutL L i true) := own_mono ho3 hb1.size
    replace hf := Lib.hid hf
    replace ho3 := Lib.hid ho3
    go_wp2_with fail
    go_ret2
    exact ⟨_, rfl, hf.out, hb3⟩
  | false =>
    go_enter Try.func21, Try.ntmps21
    go_wp2_with fail
    refine (find_any _ _ L _ i false h.out (by omega) hi.out).mono ?_; rintro e w1 ⟨rfl, hb1⟩
    have h1 := Lib.hid (View.below h.out hb1)
    go_wp2_with fail
    refine (cloneRow _ _ L h1.out (by omega)).mono ?_; rintro e w2 ⟨v2, rfl, ho2, hb2⟩
    have hf : ORows w2 w.heap.size v2 (cutL L i false) := own_mono ho2 hb1.size
    replace hf := Lib.hid hf
    replace ho2 := Lib.hid ho2
    go_wp2_with fail
    go_ret2
    exact ⟨_, rfl, hf.out, below_then hb1 hb2⟩

/-- node.Halves, as an order of its own in the text may be drawn: both slices are cloned. -/
def halfN (L : List Row) : Nat := (L.length + 1) / 2

set_option maxRecDepth 100000 in
set_option maxHeartbeats 4000000 in
theorem halves_any (w : World) (v : Value) (L : List Row) (h : VRows w v L) (hm : L.length ≤ 999999) :
    Calls Try.prog 18 #[v] w fun e w' => ∃ v1 v2, e = .returned (.tuple #[v1, v2]) ∧ ORows w' w.heap.size v1 (L.take (halfN L)) ∧ ORows w' w.heap.size v2 (L.drop (halfN L)) ∧ Below w.heap.size w w' := by
  obtain ⟨A, cap, rfl, hc, hcm⟩ := h.cells
  have hn : halfN L ≤ L.length := by unfold halfN; omega
  have h1 : VRows w (.slice A (halfN L) cap) (L.take (halfN L)) := by
    have := View.take h hn
    unfold VRows
    rw [List.length_take, Nat.min_eq_left hn, ← flatMap_take _ 2 Row.len]
    exact this
  have h2 : VRows w (.slice (if cap = halfN L then A else Option.map (fun x => x.add (halfN L * 2)) A) (L.length - halfN L) (cap - halfN L)) (L.drop (halfN L)) := by
    have := View.drop h hn
    unfold VRows
    rw [List.length_drop, ← flatMap_drop _ 2 Row.len]
    exact this
  have l1 : (L.take (halfN L)).length = halfN L := by rw [List.length_take, Nat.min_eq_left hn]
  have l2 : (L.drop (halfN L)).length = L.length - halfN L := by rw [List.length_drop]
  have hdiv : Int.tdiv ((L.length : Int) + 1) 2 = ((halfN L : Nat) : Int) := by
    rw [Int.tdiv_eq_ediv_of_nonneg (by omega)]; unfold halfN; omega
  generalize hF : L.take (halfN L) = F at *
  generalize hG : L.drop (halfN L) = G at *
  replace hF := Lib.hid hF
  replace hG := Lib.hid hG
  generalize hk : halfN L = k at *
  replace hk := Lib.hid hk
  replace h := Lib.hid h
  replace h1 := Lib.hid h1
  replace h2 := Lib.hid h2
  replace l1 := Lib.hid l1
  replace l2 := Lib.hid l2
  have q1 : (k : Int) ≤ (L.length : Int) := by omega
  have q2 : k ≤ cap := by omega
  go_enter Try.func18, Try.ntmps18
  go_wp2_with fail
  by_cases q3 : cap = k
  all_goals
    first | rw [if_pos q3] at h2 | rw [if_neg q3] at h2
    rcases A with _ | ⟨b, o, sp⟩
  all_goals
    try simp only [Option.map_some, Option.map_none] at h2
    first | (subst q3; have e0 : L.length - cap = 0 := by omega
             rw [e0, Nat.sub_self] at h2; clear e0) | skip
    replace h1 := Lib.hid (View.drew h1.out)
    replace h2 := Lib.hid (View.drew h2.out)
    refine tl_begin (fun (w' : World) => True) [] (by kernel_rfl) (trivial) (fun hHeld => ?_)
    refine tl_p (i := 0) (v := ?_) rfl (by rfl) (by kernel_rfl) (by kernel_rfl) (by kernel_rfl) (fun _ _ _ h => h) (by rfl) hHeld ?_ ?_
    rotate_left
    · intro w
      go_simp
      try (with_reducible rfl)
    try simp only [Act.put, List.setIfInBounds_toArray, List.set_cons_zero, List.set_cons_succ]
    refine tl_p (i := 1) (v := ?_) rfl (by rfl) (by kernel_rfl) (by kernel_rfl) (by kernel_rfl) (fun _ _ _ h => h) (by rfl) hHeld ?_ ?_
    rotate_left
    · intro w
      go_simp
      try (with_reducible rfl)
    try simp only [Act.put, List.setIfInBounds_toArray, List.set_cons_zero, List.set_cons_succ]
    refine tl_p (i := 2) (v := ?_) rfl (by rfl) (by kernel_rfl) (by kernel_rfl) (by kernel_rfl) (fun _ _ _ h => h) (by rfl) hHeld ?_ ?_
    rotate_left
    · intro w
      go_simp
      try (with_reducible rfl)
    try simp only [Act.put, List.setIfInBounds_toArray, List.set_cons_zero, List.set_cons_succ]
    refine tl_p (i := 4) (v := ?_) rfl (by rfl) (by kernel_rfl) (by kernel_rfl) (by kernel_rfl) (fun _ _ _ h => h) (by rfl) hHeld ?_ ?_
    rotate_left
    · intro w
      go_simp
      try (with_reducible rfl)
    try simp only [Act.put, List.setIfInBounds_toArray, List.set_cons_zero, List.set_cons_succ]
    refine tl_p (i := 5) (v := ?_) rfl (by rfl) (by kernel_rfl) (by kernel_rfl) (by kernel_rfl) (fun _ _ _ h => h) (by rfl) hHeld ?_ ?_
    rotate_left
    · intro w
      go_simp
      try (with_reducible rfl)
    try simp only [Act.put, List.setIfInBounds_toArray, List.set_cons_zero, List.set_cons_succ]
    refine tl_p (i := 6) (v := ?_) rfl (by rfl) (by kernel_rfl) (by kernel_rfl) (by kernel_rfl) (fun _ _ _ h => h) (by rfl) hHeld ?_ ?_
    rotate_left
    · intro w
      go_simp
      try (with_reducible rfl)
    try simp only [Act.put, List.setIfInBounds_toArray, List.set_cons_zero, List.set_cons_succ]
    refine tl_do (i := 3) rfl (by kernel_rfl) (by rfl) (fun K hK => ?_)
    go_simp
    go_at_call 59
    refine (cloneRow _ _ F h1.out (by rw [l1.out]; omega)).mono ?_; rintro e w2 ⟨v2, rfl, ho2, hb2⟩
    have h3 := Lib.hid (View.below h2.out hb2)
    replace ho2 := Lib.hid ho2
    try go_wp2_with fail
    refine hK.out _ _ (trivial) (fun hHeld1 => ?_)
    clear hK K hHeld
    have hHeld := hHeld1
    clear hHeld1
    try simp only [Act.put, List.setIfInBounds_toArray, List.set_cons_zero, List.set_cons_succ]
    refine tl_do (i := 7) rfl (by kernel_rfl) (by rfl) (fun K hK => ?_)
    go_simp
    go_at_call 59
    refine (cloneRow _ _ G h3.out (by rw [l2.out]; omega)).mono ?_; rintro e w3 ⟨v3, rfl, ho3, hb3⟩
    have ho2' := Lib.hid (own_below ho2.out hb3)
    replace ho3 := Lib.hid ho3
    try go_wp2_with fail
    refine hK.out _ _ (trivial) (fun hHeld1 => ?_)
    clear hK K hHeld
    have hHeld := hHeld1
    clear hHeld1
    try simp only [Act.put, List.setIfInBounds_toArray, List.set_cons_zero, List.set_cons_succ]
    refine tl_p (i := 8) (v := ?_) rfl (by rfl) (by kernel_rfl) (by kernel_rfl) (by kernel_rfl) (fun _ _ _ h => h) (by rfl) hHeld ?_ ?_
    rotate_left
    · intro w
      go_simp
      try (with_reducible rfl)
    try simp only [Act.put, List.setIfInBounds_toArray, List.set_cons_zero, List.set_cons_succ]
    refine tl_p (i := 9) (v := ?_) rfl (by rfl) (by kernel_rfl) (by kernel_rfl) (by kernel_rfl) (fun _ _ _ h => h) (by rfl) hHeld ?_ ?_
    rotate_left
    · intro w
      go_simp
      try (with_reducible rfl)
    try simp only [Act.put, List.setIfInBounds_toArray, List.set_cons_zero, List.set_cons_succ]
    refine till_done (by kernel_rfl) ?_ _
    go_wp2_with fail
    go_ret2
    exact ⟨_, _, rfl, ho2'.out, own_mono ho3.out hb2.size, (upd_to_below (Upd.refl _ w).drew).trans (below_then hb2 hb3)⟩

set_option maxHeartbeats 4000000 in
theorem alive7 (w : World) : Calls Try.prog 17 #[] w fun e w' => e = .returned (.bool true) ∧ Below w.heap.size w w' := by
  have f1 : FoundAt [] ⟨#[97]⟩ 0 false := ⟨by simp, fun j h => by simp at h, fun h => by simp at h, by simp⟩
  go_enter Try.func17, Try.ntmps17
  go_wp2_with fail
  refine (find_any _ _ [] _ _ _ (View.nil _ _) (by simp) f1).mono ?_; rintro e w1 ⟨rfl, hb1⟩
  go_wp2_with fail
  refine (put_any _ _ [] ⟨⟨#[97]⟩, ⟨#[]⟩⟩ 0 false (View.nil _ _) (by simp) f1).mono ?_; rintro e w2 ⟨v2, rfl, ho2, hb2⟩
  obtain ⟨g, cap, rfl, c1, c2, c3, c4⟩ := own_some (ho2 : w2.ownsRow _ _ _ _ 1 _) (by decide)
  have d0 := own_cell ho2 0 (by decide)
  have d1 : w2.cell? ⟨g, 0, none⟩ = some (.string ⟨#[97]⟩) := d0
  clear d0
  replace ho2 := Lib.hid ho2
  go_wp2
  go_ret
  exact ⟨rfl, below_then hb1 hb2⟩
end Go.Proofs.Ytegomkgfmaclkaa
