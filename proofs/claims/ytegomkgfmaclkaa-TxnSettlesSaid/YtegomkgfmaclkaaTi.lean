/-
  tree: join and part.add by their contracts.
-/
import Derived.Test.YtegomkgfmaclkaaTh
set_option linter.unusedVariables false
set_option linter.unusedSimpArgs false
namespace Go.Proofs.Ytegomkgfmaclkaa
open Go.RowKit Go.Proofs.PosteOrd Go.Proofs.PosteMem

theorem concatRL2 {w : World} {v1 v2 : Value} {t1 t2 : List Row} (H1 : VRows w v1 t1) (H2 : VRows w v2 t2) (hm : (t1 ++ t2).length ≤ 1000000) :
    Calls Try.prog 116 #[.slice (some ⟨w.heap.size, 0, none⟩) 2 2] (w.alloc (.cells #[v1, v2] 22)) fun e w' => ∃ v', e = .returned v' ∧ ORows w' (w.alloc (.cells #[v1, v2] 22)).heap.size v' (t1 ++ t2) ∧ Below (w.alloc (.cells #[v1, v2] 22)).heap.size (w.alloc (.cells #[v1, v2] 22)) w' := by
  have hb : Below w.heap.size w (w.alloc (.cells #[v1, v2] 22)) := (Below.refl _ _).alloc (Nat.le_refl _) _
  have a2 := View.below H1 hb
  have b2 := View.below H2 hb
  refine (concatR _ _ [v1, v2] [t1, t2] (lit2 w v1 v2 _) rfl (by simp) (fun i x y => ?_) (zz := (t1 ++ t2).length) (by simp) hm).mono fun e w' ⟨v', e1, e2, e3⟩ => ⟨v', e1, ?_, e3⟩
  · rcases i with _ | _ | i
    · exact a2
    · exact b2
    · simp at x; omega
  · have hf : [t1, t2].flatten = t1 ++ t2 := by simp
    rw [hf] at e2
    exact e2
set_option maxRecDepth 100000 in
set_option maxHeartbeats 8000000 in
theorem join_any : ∀ (h : Nat) (w : World) (KK : Nat → Prop) (qa qb : Nat) (a b : T h), PAt w KK h qa a → PAt w KK h qb b → 1 ≤ wideT h a → wideT h a + wideT h b ≤ 12 → (rowsT h a).length + (rowsT h b).length ≤ 1000000 → (∀ b, w.heap.size ≤ b → KK b) →
    Calls Try.prog 105 #[.agg #[.pointer (pa h qa), .pointer (pb h qa)], .agg #[.pointer (pa h qb), .pointer (pb h qb)]] w fun e w' => ∃ v', e = .returned v' ∧ PL w' KK h v' (joinT h a b) ∧ Below w.heap.size w w'
  | 0, w, KK, qa, qb, L1, L2, Ha, Hb, h1, h12, _, hN => by
    obtain ⟨L1, rfl⟩ : ∃ x : List Row, x = L1 := ⟨L1, rfl⟩
    obtain ⟨L2, rfl⟩ : ∃ x : List Row, x = L2 := ⟨L2, rfl⟩
    obtain ⟨_, v1, hx1, hv1, _⟩ := Ha.leaf
    obtain ⟨_, v2, hx2, hv2, _⟩ := Hb.leaf
    have hL : L1.length + L2.length ≤ 12 := h12
    obtain ⟨hr, hl, hb⟩ := two_new w 108 108 #[ptr qa, .pointer none] #[ptr qb, .pointer none]
    obtain ⟨A1, c1, rfl, _, _⟩ := hv1.cells
    obtain ⟨A2, c2, rfl, _, _⟩ := hv2.cells
    have hcl := Lib.hid (show (L1 ++ L2).length ≤ 1000000 by rw [List.length_append]; omega)
    have hz0 := Lib.hid (show (L1 ++ L2).length ≤ 999999 by rw [List.length_append]; omega)
    have hj : joinT 0 L1 L2 = halve (α := Row) (L1 ++ L2) := rfl
    rw [hj]
    have h1 := Lib.hid (show VRows _ _ L1 from View.below hv1 (Below.drew hb))
    have h2 := Lib.hid (show VRows _ _ L2 from View.below hv2 (Below.drew hb))
    have d1 : ((w.alloc (.cells #[ptr qa, .pointer none] 108)).alloc (.cells #[ptr qb, .pointer none] 108)).cell? ⟨w.heap.size, 0, none⟩ = some (ptr qa) := hr.cell 0
    have d2 : ((w.alloc (.cells #[ptr qa, .pointer none] 108)).alloc (.cells #[ptr qb, .pointer none] 108)).cell? ⟨w.heap.size + 1, 0, none⟩ = some (ptr qb) := hl.cell 0
    have d3 : ((w.alloc (.cells #[ptr qa, .pointer none] 108)).alloc (.cells #[ptr qb, .pointer none] 108)).cell? ⟨qa, 2, none⟩ = some (.slice A1 L1.length c1) := kc hb (hx1.cell 2)
    have d4 : ((w.alloc (.cells #[ptr qa, .pointer none] 108)).alloc (.cells #[ptr qb, .pointer none] 108)).cell? ⟨qb, 2, none⟩ = some (.slice A2 L2.length c2) := kc hb (hx2.cell 2)
    generalize hn1 : L1.length = n1 at *
    generalize hn2 : L2.length = n2 at *
    replace hn1 := Lib.hid hn1
    replace hn2 := Lib.hid hn2
    have hBx := Lib.hid (Below.drew hb)
    replace hN := Lib.hid hN
    clear hr hl hx1 hx2 hv1 hv2 Ha Hb hb
    simp only [pa, pb]
    go_enter Try.func105, Try.ntmps105
    go_upto_region 2 with fail
    have hw2 : Hid (w.heap.size ≤ (((w.alloc (.cells #[ptr qa, .pointer none] 108)).alloc (.cells #[ptr qb, .pointer none] 108)).drew.alloc (.cells #[.slice A1 n1 c1, .slice A2 n2 c2] 22)).heap.size) := Lib.hid (Nat.le_trans hBx.out.size (by simp))
    generalize (w.alloc (.cells #[ptr qa, .pointer none] 108)).alloc (.cells #[ptr qb, .pointer none] 108) = w2 at *
    have p0 : w2.drew.cell? ⟨w.heap.size, 0, none⟩ = some (ptr qa) := d1
    have p2 : w2.drew.cell? ⟨w.heap.size + 1, 0, none⟩ = some (ptr qb) := d2
    have p1 : w2.drew.cell? ⟨qa, 2, none⟩ = some (.slice A1 n1 c1) := d3
    have p3 : w2.drew.cell? ⟨qb, 2, none⟩ = some (.slice A2 n2 c2) := d4
    refine tl_begin (fun (w' : World) => (w'.cell? ⟨w.heap.size, 0, none⟩ = some (ptr qa) ∧ w'.cell? ⟨qa, 2, none⟩ = some (.slice A1 n1 c1)) ∧ w'.cell? ⟨w.heap.size + 1, 0, none⟩ = some (ptr qb) ∧ w'.cell? ⟨qb, 2, none⟩ = some (.slice A2 n2 c2)) [] (by kernel_rfl) (⟨⟨p0, p1⟩, p2, p3⟩) (fun hHeld => ?_)
    refine tl_p (i := 0) (v := ?_) rfl (by rfl) (by kernel_rfl) (by kernel_rfl) (by kernel_rfl) (fun _ _ _ h => h) (by rfl) hHeld ?_ ?_
    rotate_left
    · intro w
      go_simp
      try (with_reducible rfl)
    try simp only [Act.put, List.setIfInBounds_toArray, List.set_cons_zero, List.set_cons_succ]
    refine tl_w (i := 1) (v := ?_) rfl (by rfl) (by kernel_rfl) (by kernel_rfl) (by kernel_rfl) (by kernel_rfl) (by kernel_rfl) (fun _ _ _ h => h) (by rfl) hHeld ?_ ?_
    rotate_left
    · intro w hSw
      try dsimp only at hSw
      go_simp
      try (with_reducible rfl)
    try simp only [Act.put, List.setIfInBounds_toArray, List.set_cons_zero, List.set_cons_succ]
    refine tl_p (i := 2) (v := ?_) rfl (by rfl) (by kernel_rfl) (by kernel_rfl) (by kernel_rfl) (fun _ _ _ h => h) (by rfl) hHeld ?_ ?_
    rotate_left
    · intro w
      go_simp
      try (with_reducible rfl)
    try simp only [Act.put, List.setIfInBounds_toArray, List.set_cons_zero, List.set_cons_succ]
    refine tl_p (i := 3) (v := ?_) rfl (by rfl) (by kernel_rfl) (by kernel_rfl) (by kernel_rfl) (fun _ _ _ h => h) (by rfl) hHeld ?_ ?_
    rotate_left
    · intro w
      go_simp
      try (with_reducible rfl)
    try simp only [Act.put, List.setIfInBounds_toArray, List.set_cons_zero, List.set_cons_succ]
    refine tl_w (i := 4) (v := ?_) rfl (by rfl) (by kernel_rfl) (by kernel_rfl) (by kernel_rfl) (by kernel_rfl) (by kernel_rfl) (fun _ _ _ h => h) (by rfl) hHeld ?_ ?_
    rotate_left
    · intro w hSw
      try dsimp only at hSw
      go_simp
      try (with_reducible rfl)
    try simp only [Act.put, List.setIfInBounds_toArray, List.set_cons_zero, List.set_cons_succ]
    refine tl_p (i := 5) (v := ?_) rfl (by rfl) (by kernel_rfl) (by kernel_rfl) (by kernel_rfl) (fun _ _ _ h => h) (by rfl) hHeld ?_ ?_
    rotate_left
    · intro w
      go_simp
      try (with_reducible rfl)
    try simp only [Act.put, List.setIfInBounds_toArray, List.set_cons_zero, List.set_cons_succ]
    refine tl_w (i := 6) (v := ?_) rfl (by rfl) (by kernel_rfl) (by kernel_rfl) (by kernel_rfl) (by kernel_rfl) (by kernel_rfl) (fun _ _ _ h => h) (by rfl) hHeld ?_ ?_
    rotate_left
    · intro w hSw
      try dsimp only at hSw
      go_simp
      try (with_reducible rfl)
    try simp only [Act.put, List.setIfInBounds_toArray, List.set_cons_zero, List.set_cons_succ]
    refine tl_p (i := 7) (v := ?_) rfl (by rfl) (by kernel_rfl) (by kernel_rfl) (by kernel_rfl) (fun _ _ _ h => h) (by rfl) hHeld ?_ ?_
    rotate_left
    · intro w
      go_simp
      try (with_reducible rfl)
    try simp only [Act.put, List.setIfInBounds_toArray, List.set_cons_zero, List.set_cons_succ]
    refine tl_p (i := 8) (v := ?_) rfl (by rfl) (by kernel_rfl) (by kernel_rfl) (by kernel_rfl) (fun _ _ _ h => h) (by rfl) hHeld ?_ ?_
    rotate_left
    · intro w
      go_simp
      try (with_reducible rfl)
    try simp only [Act.put, List.setIfInBounds_toArray, List.set_cons_zero, List.set_cons_succ]
    refine tl_w (i := 9) (v := ?_) rfl (by rfl) (by kernel_rfl) (by kernel_rfl) (by kernel_rfl) (by kernel_rfl) (by kernel_rfl) (fun _ _ _ h => h) (by rfl) hHeld ?_ ?_
    rotate_left
    · intro w hSw
      try dsimp only at hSw
      go_simp
      try (with_reducible rfl)
    try simp only [Act.put, List.setIfInBounds_toArray, List.set_cons_zero, List.set_cons_succ]
    refine tl_do (i := 10) rfl (by kernel_rfl) (by rfl) (fun K hK => ?_)
    go_simp
    refine hK.out _ _ (⟨⟨cell_alloc _ p0, cell_alloc _ p1⟩, cell_alloc _ p2, cell_alloc _ p3⟩) (fun hHeld1 => ?_)
    clear hK K hHeld
    have hHeld := hHeld1
    clear hHeld1
    try simp only [Act.put, List.setIfInBounds_toArray, List.set_cons_zero, List.set_cons_succ]
    refine tl_do (i := 11) rfl (by kernel_rfl) (by rfl) (fun K hK => ?_)
    go_simp
    go_at_call 116
    refine (concatRL2 (w := w2.drew) h1.out h2.out hcl.out).mono ?_; rintro e w6 ⟨v6, rfl, hP6, hb6⟩
    have hc6 := And.intro (And.intro (kc hb6 (cell_alloc _ p0)) (kc hb6 (cell_alloc _ p1))) (And.intro (kc hb6 (cell_alloc _ p2)) (kc hb6 (cell_alloc _ p3)))
    have hw6 := Lib.hid ((hBx.out.alloc hBx.out.size _).trans (hb6.mono (Nat.le_trans hBx.out.size (by simp))))
    have hl6 := Lib.hid (leaves_any (View.of_own hP6) hz0.out (fun _ b hb => hN.out b (Nat.le_trans hw2.out (own_lt hP6 ((block_own v6).symm.trans hb)).1)) (fun b hb => hN.out b (Nat.le_trans hw6.out.size hb)))
    clear hb6
    try go_wp2_with fail
    refine hK.out _ _ (hc6) (fun hHeld1 => ?_)
    clear hK K hHeld
    have hHeld := hHeld1
    clear hHeld1
    try simp only [Act.put, List.setIfInBounds_toArray, List.set_cons_zero, List.set_cons_succ]
    refine tl_do (i := 12) rfl (by kernel_rfl) (by rfl) (fun K hK => ?_)
    go_simp
    go_at_call 97
    refine hl6.out.mono ?_; rintro e w7 ⟨v7, rfl, hP7, hb7⟩
    have hc7 := And.intro (And.intro (kc hb7 hc6.1.1) (kc hb7 hc6.1.2)) (And.intro (kc hb7 hc6.2.1) (kc hb7 hc6.2.2))
    have hw7 := Lib.hid (hw6.out.trans (hb7.mono hw6.out.size))
    replace hP7 := Lib.hid hP7
    clear hb7
    try go_wp2_with fail
    refine hK.out _ _ (hc7) (fun hHeld1 => ?_)
    clear hK K hHeld
    have hHeld := hHeld1
    clear hHeld1
    try simp only [Act.put, List.setIfInBounds_toArray, List.set_cons_zero, List.set_cons_succ]
    refine tl_p (i := 13) (v := ?_) rfl (by rfl) (by kernel_rfl) (by kernel_rfl) (by kernel_rfl) (fun _ _ _ h => h) (by rfl) hHeld ?_ ?_
    rotate_left
    · intro w
      go_simp
      try (with_reducible rfl)
    try simp only [Act.put, List.setIfInBounds_toArray, List.set_cons_zero, List.set_cons_succ]
    refine till_done (by kernel_rfl) ?_ _
    clear hHeld
    go_wp2_with fail
    go_ret
    exact ⟨_, rfl, hP7.out, hw7.out⟩
  | h + 1, w, KK, qa, qb, L1, L2, Ha, Hb, h1, h12, hm, hN => by
    obtain ⟨L1, rfl⟩ : ∃ x : List (T h), x = L1 := ⟨L1, rfl⟩
    obtain ⟨L2, rfl⟩ : ∃ x : List (T h), x = L2 := ⟨L2, rfl⟩
    obtain ⟨_, v1, hx1, hv1⟩ := Ha.inner
    obtain ⟨_, v2, hx2, hv2⟩ := Hb.inner
    have hL : L1.length + L2.length ≤ 12 := h12
    have hL0 : 1 ≤ L1.length := h1
    have hm' : (List.flatMap (rowsT h) L1).length + (List.flatMap (rowsT h) L2).length ≤ 1000000 := hm
    obtain ⟨hr, hl, hb⟩ := two_new w 108 108 #[.pointer none, ptr qa] #[.pointer none, ptr qb]
    obtain ⟨A1, c1, rfl, _, _⟩ := hv1.cells
    obtain ⟨A2, c2, rfl, _, _⟩ := hv2.cells
    have hcl := Lib.hid (show (L1 ++ L2).length ≤ 1000000 by rw [List.length_append]; omega)
    have hz0 := Lib.hid (show 0 < (L1 ++ L2).length by rw [List.length_append]; omega)
    have hz1 := Lib.hid (show (List.flatMap (rowsT h) (L1 ++ L2)).length ≤ 1000000 by rw [List.flatMap_append, List.length_append]; omega)
    have hj : joinT (h + 1) L1 L2 = halve (α := T h) (L1 ++ L2) := rfl
    rw [hj]
    have h1 := Lib.hid (hv1.below (Below.drew hb))
    have h2 := Lib.hid (hv2.below (Below.drew hb))
    have d0 : ((w.alloc (.cells #[.pointer none, ptr qa] 108)).alloc (.cells #[.pointer none, ptr qb] 108)).cell? ⟨w.heap.size, 0, none⟩ = some (.pointer none) := hr.cell 0
    have d1 : ((w.alloc (.cells #[.pointer none, ptr qa] 108)).alloc (.cells #[.pointer none, ptr qb] 108)).cell? ⟨w.heap.size, 1, none⟩ = some (ptr qa) := hr.cell 1
    have d2 : ((w.alloc (.cells #[.pointer none, ptr qa] 108)).alloc (.cells #[.pointer none, ptr qb] 108)).cell? ⟨w.heap.size + 1, 1, none⟩ = some (ptr qb) := hl.cell 1
    have d3 : ((w.alloc (.cells #[.pointer none, ptr qa] 108)).alloc (.cells #[.pointer none, ptr qb] 108)).cell? ⟨qa, 2, none⟩ = some (.slice A1 L1.length c1) := kc hb (hx1.cell 2)
    have d4 : ((w.alloc (.cells #[.pointer none, ptr qa] 108)).alloc (.cells #[.pointer none, ptr qb] 108)).cell? ⟨qb, 2, none⟩ = some (.slice A2 L2.length c2) := kc hb (hx2.cell 2)
    generalize hn1 : L1.length = n1 at *
    generalize hn2 : L2.length = n2 at *
    replace hn1 := Lib.hid hn1
    replace hn2 := Lib.hid hn2
    have hBx := Lib.hid (Below.drew hb)
    replace hN := Lib.hid hN
    clear hr hl hx1 hx2 hv1 hv2 Ha Hb hb hm hm'
    simp only [pa, pb]
    go_enter Try.func105, Try.ntmps105
    go_upto_region 3 with fail
    generalize (w.alloc (.cells #[.pointer none, ptr qa] 108)).alloc (.cells #[.pointer none, ptr qb] 108) = w2 at *
    have p0 : w2.drew.cell? ⟨w.heap.size, 1, none⟩ = some (ptr qa) := d1
    have p2 : w2.drew.cell? ⟨w.heap.size + 1, 1, none⟩ = some (ptr qb) := d2
    have p1 : w2.drew.cell? ⟨qa, 2, none⟩ = some (.slice A1 n1 c1) := d3
    have p3 : w2.drew.cell? ⟨qb, 2, none⟩ = some (.slice A2 n2 c2) := d4
    refine tl_begin (fun (w' : World) => (w'.cell? ⟨w.heap.size, 1, none⟩ = some (ptr qa) ∧ w'.cell? ⟨qa, 2, none⟩ = some (.slice A1 n1 c1)) ∧ w'.cell? ⟨w.heap.size + 1, 1, none⟩ = some (ptr qb) ∧ w'.cell? ⟨qb, 2, none⟩ = some (.slice A2 n2 c2)) [] (by kernel_rfl) (⟨⟨p0, p1⟩, p2, p3⟩) (fun hHeld => ?_)
    refine tl_p (i := 0) (v := ?_) rfl (by rfl) (by kernel_rfl) (by kernel_rfl) (by kernel_rfl) (fun _ _ _ h => h) (by rfl) hHeld ?_ ?_
    rotate_left
    · intro w
      go_simp
      try (with_reducible rfl)
    try simp only [Act.put, List.setIfInBounds_toArray, List.set_cons_zero, List.set_cons_succ]
    refine tl_w (i := 1) (v := ?_) rfl (by rfl) (by kernel_rfl) (by kernel_rfl) (by kernel_rfl) (by kernel_rfl) (by kernel_rfl) (fun _ _ _ h => h) (by rfl) hHeld ?_ ?_
    rotate_left
    · intro w hSw
      try dsimp only at hSw
      go_simp
      try (with_reducible rfl)
    try simp only [Act.put, List.setIfInBounds_toArray, List.set_cons_zero, List.set_cons_succ]
    refine tl_p (i := 2) (v := ?_) rfl (by rfl) (by kernel_rfl) (by kernel_rfl) (by kernel_rfl) (fun _ _ _ h => h) (by rfl) hHeld ?_ ?_
    rotate_left
    · intro w
      go_simp
      try (with_reducible rfl)
    try simp only [Act.put, List.setIfInBounds_toArray, List.set_cons_zero, List.set_cons_succ]
    refine tl_p (i := 3) (v := ?_) rfl (by rfl) (by kernel_rfl) (by kernel_rfl) (by kernel_rfl) (fun _ _ _ h => h) (by rfl) hHeld ?_ ?_
    rotate_left
    · intro w
      go_simp
      try (with_reducible rfl)
    try simp only [Act.put, List.setIfInBounds_toArray, List.set_cons_zero, List.set_cons_succ]
    refine tl_w (i := 4) (v := ?_) rfl (by rfl) (by kernel_rfl) (by kernel_rfl) (by kernel_rfl) (by kernel_rfl) (by kernel_rfl) (fun _ _ _ h => h) (by rfl) hHeld ?_ ?_
    rotate_left
    · intro w hSw
      try dsimp only at hSw
      go_simp
      try (with_reducible rfl)
    try simp only [Act.put, List.setIfInBounds_toArray, List.set_cons_zero, List.set_cons_succ]
    refine tl_p (i := 5) (v := ?_) rfl (by rfl) (by kernel_rfl) (by kernel_rfl) (by kernel_rfl) (fun _ _ _ h => h) (by rfl) hHeld ?_ ?_
    rotate_left
    · intro w
      go_simp
      try (with_reducible rfl)
    try simp only [Act.put, List.setIfInBounds_toArray, List.set_cons_zero, List.set_cons_succ]
    refine tl_w (i := 6) (v := ?_) rfl (by rfl) (by kernel_rfl) (by kernel_rfl) (by kernel_rfl) (by kernel_rfl) (by kernel_rfl) (fun _ _ _ h => h) (by rfl) hHeld ?_ ?_
    rotate_left
    · intro w hSw
      try dsimp only at hSw
      go_simp
      try (with_reducible rfl)
    try simp only [Act.put, List.setIfInBounds_toArray, List.set_cons_zero, List.set_cons_succ]
    refine tl_p (i := 7) (v := ?_) rfl (by rfl) (by kernel_rfl) (by kernel_rfl) (by kernel_rfl) (fun _ _ _ h => h) (by rfl) hHeld ?_ ?_
    rotate_left
    · intro w
      go_simp
      try (with_reducible rfl)
    try simp only [Act.put, List.setIfInBounds_toArray, List.set_cons_zero, List.set_cons_succ]
    refine tl_p (i := 8) (v := ?_) rfl (by rfl) (by kernel_rfl) (by kernel_rfl) (by kernel_rfl) (fun _ _ _ h => h) (by rfl) hHeld ?_ ?_
    rotate_left
    · intro w
      go_simp
      try (with_reducible rfl)
    try simp only [Act.put, List.setIfInBounds_toArray, List.set_cons_zero, List.set_cons_succ]
    refine tl_w (i := 9) (v := ?_) rfl (by rfl) (by kernel_rfl) (by kernel_rfl) (by kernel_rfl) (by kernel_rfl) (by kernel_rfl) (fun _ _ _ h => h) (by rfl) hHeld ?_ ?_
    rotate_left
    · intro w hSw
      try dsimp only at hSw
      go_simp
      try (with_reducible rfl)
    try simp only [Act.put, List.setIfInBounds_toArray, List.set_cons_zero, List.set_cons_succ]
    refine tl_do (i := 10) rfl (by kernel_rfl) (by rfl) (fun K hK => ?_)
    go_simp
    refine hK.out _ _ (⟨⟨cell_alloc _ p0, cell_alloc _ p1⟩, cell_alloc _ p2, cell_alloc _ p3⟩) (fun hHeld1 => ?_)
    clear hK K hHeld
    have hHeld := hHeld1
    clear hHeld1
    try simp only [Act.put, List.setIfInBounds_toArray, List.set_cons_zero, List.set_cons_succ]
    refine tl_do (i := 11) rfl (by kernel_rfl) (by rfl) (fun K hK => ?_)
    go_simp
    go_at_call 100
    refine (concatL2 (w := w2.drew) h1.out h2.out (fun b hb => hN.out b (Nat.le_trans hBx.out.size hb)) hcl.out).mono ?_; rintro e w6 ⟨v6, rfl, hP6, hb6⟩
    have hc6 := And.intro (And.intro (kc hb6 (cell_alloc _ p0)) (kc hb6 (cell_alloc _ p1))) (And.intro (kc hb6 (cell_alloc _ p2)) (kc hb6 (cell_alloc _ p3)))
    have hw6 := Lib.hid ((hBx.out.alloc hBx.out.size _).trans (hb6.mono (Nat.le_trans hBx.out.size (by simp))))
    have hl6 := Lib.hid (inners_any hP6 hz0.out hz1.out hcl.out (fun b hb => hN.out b (Nat.le_trans hw6.out.size hb)))
    clear hb6
    try go_wp2_with fail
    refine hK.out _ _ (hc6) (fun hHeld1 => ?_)
    clear hK K hHeld
    have hHeld := hHeld1
    clear hHeld1
    try simp only [Act.put, List.setIfInBounds_toArray, List.set_cons_zero, List.set_cons_succ]
    refine tl_do (i := 12) rfl (by kernel_rfl) (by rfl) (fun K hK => ?_)
    go_simp
    go_at_call 99
    refine hl6.out.mono ?_; rintro e w7 ⟨v7, rfl, hP7, hb7⟩
    have hc7 := And.intro (And.intro (kc hb7 hc6.1.1) (kc hb7 hc6.1.2)) (And.intro (kc hb7 hc6.2.1) (kc hb7 hc6.2.2))
    have hw7 := Lib.hid (hw6.out.trans (hb7.mono hw6.out.size))
    replace hP7 := Lib.hid hP7
    clear hb7
    try go_wp2_with fail
    refine hK.out _ _ (hc7) (fun hHeld1 => ?_)
    clear hK K hHeld
    have hHeld := hHeld1
    clear hHeld1
    try simp only [Act.put, List.setIfInBounds_toArray, List.set_cons_zero, List.set_cons_succ]
    refine tl_p (i := 13) (v := ?_) rfl (by rfl) (by kernel_rfl) (by kernel_rfl) (by kernel_rfl) (fun _ _ _ h => h) (by rfl) hHeld ?_ ?_
    rotate_left
    · intro w
      go_simp
      try (with_reducible rfl)
    try simp only [Act.put, List.setIfInBounds_toArray, List.set_cons_zero, List.set_cons_succ]
    refine till_done (by kernel_rfl) ?_ _
    clear hHeld
    go_wp2_with fail
    go_ret
    exact ⟨_, rfl, hP7.out, hw7.out⟩
end Go.Proofs.Ytegomkgfmaclkaa
