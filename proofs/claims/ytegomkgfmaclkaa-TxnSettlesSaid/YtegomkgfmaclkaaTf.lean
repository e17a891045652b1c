/-
  tree: leafOf and innerOf with all their blocks; leaves, inners and kid by their contracts.
-/
import Derived.Test.YtegomkgfmaclkaaTe
set_option linter.unusedVariables false
set_option linter.unusedSimpArgs false
namespace Go.Proofs.Ytegomkgfmaclkaa
open Go.RowKit Go.Proofs.PosteOrd Go.Proofs.PosteMem

section
variable {w : World} {K : Nat → Prop}
theorem leafOf_part {v : Value} {L : List Row} (hv : VRows w v L) (hK : 0 < L.length → ∀ b, blockOf v = some b → K b) (hN : ∀ b, w.heap.size ≤ b → K b) : Calls Try.prog 76 #[v] w fun e w' => ∃ q, e = .returned (.agg #[.pointer (pa 0 q), .pointer (pb 0 q)]) ∧ PAt w' K 0 q L ∧ Below w.heap.size w w' :=
  (leafOf_any hv).mono fun e w' ⟨q, h1, h2, h3, h4⟩ => ⟨q, h1, ⟨hN q h2, v, h3, View.below hv h4, hK⟩, h4⟩
theorem innerOf_part {h : Nat} {v : Value} {ts : List (T h)} (H : PL w K h v ts) (h0 : 0 < ts.length) (hm : (List.flatMap (rowsT h) ts).length ≤ 1000000) (hl : ts.length ≤ 1000000) (hN : ∀ b, w.heap.size ≤ b → K b) : Calls Try.prog 80 #[v] w fun e w' => ∃ q, e = .returned (.agg #[.pointer (pa (h + 1) q), .pointer (pb (h + 1) q)]) ∧ PAt w' K (h + 1) q ts ∧ Below w.heap.size w w' :=
  (innerOf_any H h0 rfl hm hl).mono fun e w' ⟨q, h1, h2, h3, h4⟩ => ⟨q, h1, PAt.of_inner (hN q h2) h3 (H.below h4), h4⟩
theorem cloneL {h : Nat} {v : Value} {ts : List (T h)} (H : PL w K h v ts) (hN : ∀ b, w.heap.size ≤ b → K b) (hl : ts.length ≤ 1000000) :
    Calls Try.prog 103 #[v] w fun e w' => ∃ (v' : Value) (qs : List Nat), e = .returned v' ∧ qs.length = ts.length ∧ w'.ownsRow w.heap.size 108 2 v' ts.length (qs.flatMap (pcs h)) ∧ PL w' K h v' ts ∧ (∀ i (h1 : i < qs.length) (h2 : i < ts.length), PAt w' K h qs[i] ts[i]) ∧ Below w.heap.size w w' := by
  obtain ⟨qs, k1, k2, k3, k4⟩ := H
  refine (cloneP w h v qs (by rw [k1]; exact k2) (by omega)).mono fun e w' ⟨v', h1, h2, h3⟩ => ?_
  rw [k1] at h2
  have k5 : ∀ i (h1 : i < qs.length) (h2 : i < ts.length), PAt w' K h qs[i] ts[i] := fun i a b => (k4 i a b).below h3
  exact ⟨v', qs, h1, k1, h2, PL.own h2 k1 hN k5, k5, h3⟩
/-- A row of parts that was written out. -/
theorem PL.lit {h : Nat} {ts : List (T h)} {qs : List Nat} (hl : qs.length = ts.length) (hp : ∀ i (h1 : i < qs.length) (h2 : i < ts.length), PAt w K h qs[i] ts[i]) (hN : ∀ b, w.heap.size ≤ b → K b) (hm : ts.length ≤ 1000000) : PL (w.alloc (.cells (qs.flatMap (pcs h)).toArray 108)) K h (.slice (some ⟨w.heap.size, 0, none⟩) ts.length ts.length) ts := by
  have hb : Below w.heap.size w (w.alloc (.cells (qs.flatMap (pcs h)).toArray 108)) := (Below.refl _ _).alloc (Nat.le_refl _) _
  have ho := own_lit (w := w) (B := w.heap.size) (e := 108) (sz := 2) (n := ts.length) (b := w.heap.size) (xs := qs.flatMap (pcs h)) rfl (Nat.le_refl _) (by rw [flatMap_len (pcs h) 2 (pcs_len h), hl]) (by simp only [maxLen]; omega)
  exact PL.own ho hl hN fun i a b => (hp i a b).below hb
theorem PL.lit1 {h : Nat} {t : T h} {q : Nat} (H : PAt w K h q t) (hN : ∀ b, w.heap.size ≤ b → K b) : PL (w.alloc (.cells #[.pointer (pa h q), .pointer (pb h q)] 108)) K h (.slice (some ⟨w.heap.size, 0, none⟩) 1 1) [t] := by
  refine PL.lit (qs := [q]) rfl (fun i a b => ?_) hN (by simp)
  rcases i with _ | i
  · exact H
  · simp at a
theorem PL.lit2 {h : Nat} {t1 t2 : T h} {q1 q2 : Nat} (H1 : PAt w K h q1 t1) (H2 : PAt w K h q2 t2) (hN : ∀ b, w.heap.size ≤ b → K b) : PL (w.alloc (.cells #[.pointer (pa h q1), .pointer (pb h q1), .pointer (pa h q2), .pointer (pb h q2)] 108)) K h (.slice (some ⟨w.heap.size, 0, none⟩) 2 2) [t1, t2] := by
  refine PL.lit (qs := [q1, q2]) rfl (fun i a b => ?_) hN (by simp)
  rcases i with _ | _ | i
  · exact H1
  · exact H2
  · simp at a; omega
set_option maxRecDepth 100000 in
set_option maxHeartbeats 4000000 in
theorem leaves_any {v : Value} {L : List Row} (hv : VRows w v L) (hm : L.length ≤ 999999) (hK : 0 < L.length → ∀ b, blockOf v = some b → K b) (hN : ∀ b, w.heap.size ≤ b → K b) : Calls Try.prog 97 #[v] w fun e w' => ∃ v', e = .returned v' ∧ PL w' K 0 v' (halve L) ∧ Below w.heap.size w w' := by
  obtain ⟨A, cap, rfl, _, _⟩ := hv.cells
  by_cases h6 : L.length ≤ 6
  · have q1 : (L.length : Int) ≤ 6 := by omega
    have hh : halve L = [L] := by unfold halve; rw [if_pos h6]
    rw [hh]
    have kL := Lib.hid (leafOf_part hv hK hN)
    go_enter Try.func97, Try.ntmps97
    go_wp2_with fail
    refine kL.out.mono ?_; rintro e w2 ⟨q, rfl, hP, hb⟩
    have hz := Lib.hid (PL.lit1 hP fun b hb2 => hN b (Nat.le_trans hb.size hb2))
    have hB := Lib.hid (hb.alloc hb.size (.cells #[.pointer (pa 0 q), .pointer (pb 0 q)] 108))
    clear hP hb kL
    generalize pa 0 q = a0 at *
    generalize pb 0 q = b0 at *
    go_wp2_with fail
    go_ret
    exact ⟨_, rfl, hz.out, hB.out⟩
  · have q1 : ¬ (L.length : Int) ≤ 6 := by omega
    have hh : halve L = [L.take (halfN L), L.drop (halfN L)] := by unfold halve halfN; rw [if_neg h6]
    rw [hh]
    have kH := Lib.hid (halves_any w _ L hv hm)
    have hl : L.length ≤ 1000000 := by omega
    generalize L.take (halfN L) = L1 at *
    generalize L.drop (halfN L) = L2 at *
    go_enter Try.func97, Try.ntmps97
    go_wp2_with fail
    refine kH.out.mono ?_; rintro e w2 ⟨v1, v2, rfl, ho1, ho2, hb2⟩
    have hN2 : ∀ b, w2.heap.size ≤ b → K b := fun b hb => hN b (Nat.le_trans hb2.size hb)
    have k1 : ∀ b, blockOf v1 = some b → K b := fun b hb => hN b (own_lt ho1 ((block_own v1).symm.trans hb)).1
    have k2 : ∀ b, blockOf v2 = some b → K b := fun b hb => hN b (own_lt ho2 ((block_own v2).symm.trans hb)).1
    have kL1 := Lib.hid (leafOf_part (View.of_own ho1) (fun _ => k1) hN2)
    have hv2 := Lib.hid (View.of_own ho2)
    replace k2 := Lib.hid k2
    replace hb2 := Lib.hid hb2
    obtain ⟨A1, c1, rfl, _⟩ := own_shape ho1
    obtain ⟨A2, c2, rfl, _⟩ := own_shape ho2
    clear ho1 ho2 kH
    go_wp2_with fail
    refine kL1.out.mono ?_; rintro e w3 ⟨q3, rfl, hP3, hb3⟩
    have hN3 : ∀ b, w3.heap.size ≤ b → K b := fun b hb => hN2 b (Nat.le_trans hb3.size hb)
    have kL2 := Lib.hid (leafOf_part (View.below hv2.out hb3) (fun _ => k2.out) hN3)
    have hB3 := Lib.hid (below_then hb2.out hb3)
    replace hP3 := Lib.hid hP3
    clear kL1 hb3 hb2 hv2
    go_wp2_with fail
    refine kL2.out.mono ?_; rintro e w4 ⟨q4, rfl, hP4, hb4⟩
    have hB4 := below_then hB3.out hb4
    have hz := Lib.hid (PL.lit2 (hP3.out.below hb4) hP4 fun b hb2 => hN3 b (Nat.le_trans hb4.size hb2))
    have hB := Lib.hid (hB4.alloc hB4.size (.cells #[.pointer (pa 0 q3), .pointer (pb 0 q3), .pointer (pa 0 q4), .pointer (pb 0 q4)] 108))
    clear hP3 hb4 kL2 hP4 hB3 hB4
    generalize pa 0 q3 = a0 at *
    generalize pb 0 q3 = b0 at *
    generalize pa 0 q4 = a1 at *
    generalize pb 0 q4 = b1 at *
    go_wp2_with fail
    go_ret
    exact ⟨_, rfl, hz.out, hB.out⟩
set_option maxRecDepth 100000 in
set_option maxHeartbeats 8000000 in
theorem inners_any {h : Nat} {v : Value} {ts : List (T h)} (H : PL w K h v ts) (h0 : 0 < ts.length) (hm : (List.flatMap (rowsT h) ts).length ≤ 1000000) (hl : ts.length ≤ 1000000) (hN : ∀ b, w.heap.size ≤ b → K b) : Calls Try.prog 99 #[v] w fun e w' => ∃ v', e = .returned v' ∧ PL w' K (h + 1) v' (halve (α := T h) ts) ∧ Below w.heap.size w w' := by
  obtain ⟨b, off, cap, rfl, hbl, hcl, hcm, _⟩ := H.at_ h0
  by_cases h6 : ts.length ≤ 6
  · have q1 : (ts.length : Int) ≤ 6 := by omega
    have hh : halve ts = [ts] := by unfold halve; rw [if_pos h6]
    rw [hh]
    have kL := Lib.hid (innerOf_part H h0 hm hl hN)
    clear hcl hcm
    go_enter Try.func99, Try.ntmps99
    go_wp2_with fail
    refine kL.out.mono ?_; rintro e w2 ⟨q, rfl, hP, hb⟩
    have hz := Lib.hid (PL.lit1 (h := h + 1) (t := ts) hP fun b hb2 => hN b (Nat.le_trans hb.size hb2))
    have hB := Lib.hid (hb.alloc hb.size (.cells #[.pointer (pa (h + 1) q), .pointer (pb (h + 1) q)] 108))
    clear hP hb kL
    generalize pa (h + 1) q = a0 at *
    generalize pb (h + 1) q = b0 at *
    go_wp2_with fail
    go_ret
    exact ⟨_, rfl, hz.out, hB.out⟩
  · have q1 : ¬ (ts.length : Int) ≤ 6 := by omega
    have hh : halve ts = [ts.take ((ts.length + 1) / 2), ts.drop ((ts.length + 1) / 2)] := by unfold halve; rw [if_neg h6]
    rw [hh]
    have hdiv : Int.tdiv ((ts.length : Int) + 1) 2 = (((ts.length + 1) / 2 : Nat) : Int) := by
      rw [Int.tdiv_eq_ediv_of_nonneg (by omega)]; omega
    have hkl : (ts.length + 1) / 2 < ts.length := by omega
    have hk0 : 0 < (ts.length + 1) / 2 := by omega
    generalize (ts.length + 1) / 2 = k at *
    have h1 := H.take (n := k) (by omega)
    have q4 : ¬ cap = k := by omega
    have h2 := H.drop' (n := k) (by omega) q4
    have hl1 : (ts.take k).length ≤ 1000000 := by rw [List.length_take]; omega
    have hl2 : (ts.drop k).length ≤ 1000000 := by rw [List.length_drop]; omega
    have hn1 : 0 < (ts.take k).length := by rw [List.length_take]; omega
    have hn2 : 0 < (ts.drop k).length := by rw [List.length_drop]; omega
    have hmm : (List.flatMap (rowsT h) ts).length = (List.flatMap (rowsT h) (ts.take k)).length + (List.flatMap (rowsT h) (ts.drop k)).length := by
      conv => lhs; rw [← List.take_append_drop k ts, List.flatMap_append, List.length_append]
    have hm1 : (List.flatMap (rowsT h) (ts.take k)).length ≤ 1000000 := by omega
    have hm2 : (List.flatMap (rowsT h) (ts.drop k)).length ≤ 1000000 := by omega
    have hz := Lib.hid (fun (w2 : World) (q3 q5 : Nat) (hP3 : PAt w2 K (h + 1) q3 (ts.take k)) (hP5 : PAt w2 K (h + 1) q5 (ts.drop k)) (hN2 : ∀ b, w2.heap.size ≤ b → K b) => PL.lit2 (h := h + 1) (t1 := ts.take k) (t2 := ts.drop k) hP3 hP5 hN2)
    generalize ts.take k = t1 at *
    generalize ts.drop k = t2 at *
    have q2 : (k : Int) ≤ (ts.length : Int) := by omega
    have q6 : k ≤ cap := by omega
    have q5 : ¬ (ts.length : Int) < (k : Int) := by omega
    replace hm1 := Lib.hid hm1
    replace hm2 := Lib.hid hm2
    have hNK := Lib.hid hN
    clear hmm hm H hN
    go_enter Try.func99, Try.ntmps99
    go_upto_region 4 with fail
    replace h1 := Lib.hid (h1.below (Below.drew (Below.refl _ _)))
    replace h2 := Lib.hid (h2.below (Below.drew (Below.refl _ _)))
    have hw2 : Below w.heap.size w w.drew := Below.drew (Below.refl _ _)
    replace hw2 := Lib.hid hw2
    refine tl_begin (fun (w' : World) => True) [] (by kernel_rfl) (trivial) (fun hHeld => ?_)
    refine tl_p (i := 0) (v := ?_) rfl (by rfl) (by kernel_rfl) (by kernel_rfl) (by kernel_rfl) (fun _ _ _ h => h) (by rfl) hHeld ?_ ?_
    rotate_left
    · intro w
      go_simp
      try (with_reducible rfl)
    try simp only [Act.put, List.setIfInBounds_toArray, List.set_cons_zero, List.set_cons_succ]
    refine tl_p (i := 1) (v := ?_) rfl (by rfl) (by kernel_rfl) (by kernel_rfl) (by kernel_rfl) (fun _ _ _ h => h) (by rfl) hHeld ?_ ?_
    rotate_left
    · intro w
      go_simp
      try (with_reducible rfl)
    try simp only [Act.put, List.setIfInBounds_toArray, List.set_cons_zero, List.set_cons_succ]
    refine tl_p (i := 2) (v := ?_) rfl (by rfl) (by kernel_rfl) (by kernel_rfl) (by kernel_rfl) (fun _ _ _ h => h) (by rfl) hHeld ?_ ?_
    rotate_left
    · intro w
      go_simp
      try (with_reducible rfl)
    try simp only [Act.put, List.setIfInBounds_toArray, List.set_cons_zero, List.set_cons_succ]
    refine tl_p (i := 5) (v := ?_) rfl (by rfl) (by kernel_rfl) (by kernel_rfl) (by kernel_rfl) (fun _ _ _ h => h) (by rfl) hHeld ?_ ?_
    rotate_left
    · intro w
      go_simp
      try (with_reducible rfl)
    try simp only [Act.put, List.setIfInBounds_toArray, List.set_cons_zero, List.set_cons_succ]
    refine tl_p (i := 6) (v := ?_) rfl (by rfl) (by kernel_rfl) (by kernel_rfl) (by kernel_rfl) (fun _ _ _ h => h) (by rfl) hHeld ?_ ?_
    rotate_left
    · intro w
      go_simp
      try (with_reducible rfl)
    try simp only [Act.put, List.setIfInBounds_toArray, List.set_cons_zero, List.set_cons_succ]
    refine tl_p (i := 7) (v := ?_) rfl (by rfl) (by kernel_rfl) (by kernel_rfl) (by kernel_rfl) (fun _ _ _ h => h) (by rfl) hHeld ?_ ?_
    rotate_left
    · intro w
      go_simp
      try (with_reducible rfl)
    try simp only [Act.put, List.setIfInBounds_toArray, List.set_cons_zero, List.set_cons_succ]
    refine tl_do (i := 3) rfl (by kernel_rfl) (by rfl) (fun K hK => ?_)
    go_simp
    go_at_call 103
    refine (cloneL h1.out hNK.out hl1).mono ?_; rintro e w2 ⟨v2, qs2, rfl, _, _, hP2, _, hb2⟩
    have h22 := Lib.hid (h2.out.below hb2)
    have hN2 := fun b (hb : w2.heap.size ≤ b) => hNK.out b (Nat.le_trans hb2.size hb)
    replace hP2 := Lib.hid hP2
    replace hN2 := Lib.hid hN2
    try go_wp2_with fail
    refine hK.out _ _ (trivial) (fun hHeld1 => ?_)
    clear hK K hHeld
    have hHeld := hHeld1
    clear hHeld1
    try simp only [Act.put, List.setIfInBounds_toArray, List.set_cons_zero, List.set_cons_succ]
    refine tl_do (i := 4) rfl (by kernel_rfl) (by rfl) (fun K hK => ?_)
    go_simp
    go_at_call 80
    refine (innerOf_part hP2.out hn1 hm1 hl1 hN2.out).mono ?_; rintro e w3 ⟨q3, rfl, hP3, hb3⟩
    have h23 := Lib.hid (h22.out.below hb3)
    have hN3 := fun b (hb : w3.heap.size ≤ b) => hN2.out b (Nat.le_trans hb3.size hb)
    replace hP3 := Lib.hid hP3
    replace hN3 := Lib.hid hN3
    try go_wp2_with fail
    refine hK.out _ _ (trivial) (fun hHeld1 => ?_)
    clear hK K hHeld
    have hHeld := hHeld1
    clear hHeld1
    try simp only [Act.put, List.setIfInBounds_toArray, List.set_cons_zero, List.set_cons_succ]
    refine tl_do (i := 8) rfl (by kernel_rfl) (by rfl) (fun K hK => ?_)
    go_simp
    go_at_call 103
    refine (cloneL h23.out hN3.out hl2).mono ?_; rintro e w4 ⟨v4, qs4, rfl, _, _, hP4, _, hb4⟩
    have hP34 := Lib.hid (hP3.out.below hb4)
    have hN4 := fun b (hb : w4.heap.size ≤ b) => hN3.out b (Nat.le_trans hb4.size hb)
    replace hP4 := Lib.hid hP4
    replace hN4 := Lib.hid hN4
    try go_wp2_with fail
    refine hK.out _ _ (trivial) (fun hHeld1 => ?_)
    clear hK K hHeld
    have hHeld := hHeld1
    clear hHeld1
    try simp only [Act.put, List.setIfInBounds_toArray, List.set_cons_zero, List.set_cons_succ]
    refine tl_do (i := 9) rfl (by kernel_rfl) (by rfl) (fun K hK => ?_)
    go_simp
    go_at_call 80
    refine (innerOf_part hP4.out hn2 hm2 hl2 hN4.out).mono ?_; rintro e w5 ⟨q5, rfl, hP5, hb5⟩
    have hP35 := Lib.hid (hP34.out.below hb5)
    have hN5 := fun b (hb : w5.heap.size ≤ b) => hN4.out b (Nat.le_trans hb5.size hb)
    replace hP5 := Lib.hid hP5
    replace hN5 := Lib.hid hN5
    try go_wp2_with fail
    refine hK.out _ _ (trivial) (fun hHeld1 => ?_)
    clear hK K hHeld
    have hHeld := hHeld1
    clear hHeld1
    try simp only [Act.put, List.setIfInBounds_toArray, List.set_cons_zero, List.set_cons_succ]
    refine tl_do (i := 10) rfl (by kernel_rfl) (by rfl) (fun K hK => ?_)
    go_simp
    refine hK.out _ _ (trivial) (fun hHeld1 => ?_)
    clear hK K hHeld
    have hHeld := hHeld1
    clear hHeld1
    try simp only [Act.put, List.setIfInBounds_toArray, List.set_cons_zero, List.set_cons_succ]
    refine tl_p (i := 11) (v := ?_) rfl (by rfl) (by kernel_rfl) (by kernel_rfl) (by kernel_rfl) (fun _ _ _ h => h) (by rfl) hHeld ?_ ?_
    rotate_left
    · intro w
      go_simp
      try (with_reducible rfl)
    try simp only [Act.put, List.setIfInBounds_toArray, List.set_cons_zero, List.set_cons_succ]
    refine till_done (by kernel_rfl) ?_ _
    clear hHeld
    have hz9 := hz.out w5 _ _ hP35.out hP5.out hN5.out
    have hB5 := (hw2.out.trans hb2).trans ((hb3.trans ((hb4.trans (hb5.mono hb4.size)).mono hb3.size)).mono hb2.size)
    have hB := hB5.alloc hB5.size (.cells #[.pointer (pa (h + 1) q3), .pointer (pb (h + 1) q3), .pointer (pa (h + 1) q5), .pointer (pb (h + 1) q5)] 108)
    go_wp2_with fail
    go_ret
    exact ⟨_, rfl, hz9, hB⟩
end
end Go.Proofs.Ytegomkgfmaclkaa
