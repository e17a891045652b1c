/-
  tree: part.put by its contract, for parts of every height.
-/
import Derived.Test.YtegomkgfmaclkaaTg
set_option linter.unusedVariables false
set_option linter.unusedSimpArgs false
namespace Go.Proofs.Ytegomkgfmaclkaa
open Go.RowKit Go.Proofs.PosteOrd Go.Proofs.PosteMem

theorem kc {w w' : World} (hb : Below w.heap.size w w') {b o : Nat} {u : Value} (hc : w.cell? ⟨b, o, none⟩ = some u) : w'.cell? ⟨b, o, none⟩ = some u := (hb.cell (p := ⟨b, o, none⟩) (World.block_lt_of_cell? w _ hc)).trans hc
theorem cell_alloc {w : World} (x : Obj) {b o : Nat} {u : Value} (hc : w.cell? ⟨b, o, none⟩ = some u) : (w.alloc x).cell? ⟨b, o, none⟩ = some u := kc ((Below.refl _ _).alloc (Nat.le_refl _) x) hc
section
variable {w : World} {K : Nat → Prop}
theorem lit3 (w : World) (v1 v2 v3 : Value) (t : TypeId) : View (w.alloc (.cells #[v1, v2, v3] t)) 1 (.slice (some ⟨w.heap.size, 0, none⟩) 3 3) 3 [v1, v2, v3] := View.of_own (own_lit (w := w) (B := 0) (e := t) (sz := 1) (n := 3) (b := w.heap.size) (xs := [v1, v2, v3]) rfl (Nat.zero_le _) rfl (by decide))
theorem lit2 (w : World) (v1 v2 : Value) (t : TypeId) : View (w.alloc (.cells #[v1, v2] t)) 1 (.slice (some ⟨w.heap.size, 0, none⟩) 2 2) 2 [v1, v2] := View.of_own (own_lit (w := w) (B := 0) (e := t) (sz := 1) (n := 2) (b := w.heap.size) (xs := [v1, v2]) rfl (Nat.zero_le _) rfl (by decide))
theorem PAt.lists {W : World} {h : Nat} {q1 q2 : List Nat} {t1 t2 : List (T h)} (l1 : q1.length = t1.length) (H1 : ∀ i (h1 : i < q1.length) (h2 : i < t1.length), PAt W K h q1[i] t1[i]) (H2 : ∀ i (h1 : i < q2.length) (h2 : i < t2.length), PAt W K h q2[i] t2[i]) :
    ∀ i (h1 : i < (q1 ++ q2).length) (h2 : i < (t1 ++ t2).length), PAt W K h (q1 ++ q2)[i] (t1 ++ t2)[i] := fun i a b => by
  by_cases hi : i < q1.length
  · rw [List.getElem_append_left hi, List.getElem_append_left (by omega)]
    exact H1 i hi (by omega)
  · rw [List.getElem_append_right (by omega), List.getElem_append_right (by omega)]
    simp only [l1]
    exact H2 _ (by simp at a; omega) (by simp at b; omega)
theorem concatL3 {h : Nat} {v1 v2 v3 : Value} {t1 t2 t3 : List (T h)} (H1 : PL w K h v1 t1) (H2 : PL w K h v2 t2) (H3 : PL w K h v3 t3) (hN : ∀ b, w.heap.size ≤ b → K b) (hm : (t1 ++ t2 ++ t3).length ≤ 1000000) :
    Calls Try.prog 100 #[.slice (some ⟨w.heap.size, 0, none⟩) 3 3] (w.alloc (.cells #[v1, v2, v3] 116)) fun e w' => ∃ v', e = .returned v' ∧ PL w' K h v' (t1 ++ t2 ++ t3) ∧ Below (w.alloc (.cells #[v1, v2, v3] 116)).heap.size (w.alloc (.cells #[v1, v2, v3] 116)) w' := by
  have hb : Below w.heap.size w (w.alloc (.cells #[v1, v2, v3] 116)) := (Below.refl _ _).alloc (Nat.le_refl _) _
  obtain ⟨q1, a1, a2, a3, a4⟩ := H1.below hb
  obtain ⟨q2, b1, b2, b3, b4⟩ := H2.below hb
  obtain ⟨q3, c1, c2, c3, c4⟩ := H3.below hb
  refine (concatP _ h _ [v1, v2, v3] [q1, q2, q3] (lit3 w v1 v2 v3 _) rfl (by simp) (fun i x y => ?_) (zz := (t1 ++ t2 ++ t3).length) (by simp [a1, b1, c1, Nat.add_assoc]) hm).mono fun e w' ⟨v', e1, e2, e3⟩ => ⟨v', e1, ?_, e3⟩
  · rcases i with _ | _ | _ | i
    · rw [← a1] at a2; exact a2
    · rw [← b1] at b2; exact b2
    · rw [← c1] at c2; exact c2
    · simp at x; omega
  · have hf : [q1, q2, q3].flatten = q1 ++ q2 ++ q3 := by simp
    rw [hf] at e2
    refine PL.own e2 (by simp [a1, b1, c1]) (fun b hb2 => hN b (Nat.le_trans hb.size hb2)) ?_
    exact PAt.lists (by simp [a1, b1]) (PAt.lists a1 (fun i x y => (a4 i x y).below e3) (fun i x y => (b4 i x y).below e3)) (fun i x y => (c4 i x y).below e3)
theorem concatL2 {h : Nat} {v1 v2 : Value} {t1 t2 : List (T h)} (H1 : PL w K h v1 t1) (H2 : PL w K h v2 t2) (hN : ∀ b, w.heap.size ≤ b → K b) (hm : (t1 ++ t2).length ≤ 1000000) :
    Calls Try.prog 100 #[.slice (some ⟨w.heap.size, 0, none⟩) 2 2] (w.alloc (.cells #[v1, v2] 116)) fun e w' => ∃ v', e = .returned v' ∧ PL w' K h v' (t1 ++ t2) ∧ Below (w.alloc (.cells #[v1, v2] 116)).heap.size (w.alloc (.cells #[v1, v2] 116)) w' := by
  have hb : Below w.heap.size w (w.alloc (.cells #[v1, v2] 116)) := (Below.refl _ _).alloc (Nat.le_refl _) _
  obtain ⟨q1, a1, a2, a3, a4⟩ := H1.below hb
  obtain ⟨q2, b1, b2, b3, b4⟩ := H2.below hb
  refine (concatP _ h _ [v1, v2] [q1, q2] (lit2 w v1 v2 _) rfl (by simp) (fun i x y => ?_) (zz := (t1 ++ t2).length) (by simp [a1, b1]) hm).mono fun e w' ⟨v', e1, e2, e3⟩ => ⟨v', e1, ?_, e3⟩
  · rcases i with _ | _ | i
    · rw [← a1] at a2; exact a2
    · rw [← b1] at b2; exact b2
    · simp at x; omega
  · have hf : [q1, q2].flatten = q1 ++ q2 := by simp
    rw [hf] at e2
    refine PL.own e2 (by simp [a1, b1]) (fun b hb2 => hN b (Nat.le_trans hb.size hb2)) ?_
    exact PAt.lists a1 (fun i x y => (a4 i x y).below e3) (fun i x y => (b4 i x y).below e3)
end

set_option maxRecDepth 100000 in
set_option maxHeartbeats 8000000 in
theorem partPut_any : ∀ (h : Nat) (w : World) (KK : Nat → Prop) (q : Nat) (t : T h) (r : Row), PAt w KK h q t → OkT h t → (1 ≤ h → 1 ≤ wideT h t) → wideT h t ≤ 6 → Srt (rowsT h t) → (rowsT h t).length ≤ 900000 → (∀ b, w.heap.size ≤ b → KK b) →
    Calls Try.prog 79 #[.agg #[.pointer (pa h q), .pointer (pb h q)], .agg #[.string r.key, .string r.val]] w fun e w' => ∃ v', e = .returned v' ∧ PL w' KK h v' (putT h t r) ∧ Below w.heap.size w w'
  | 0, w, KK, q, L, r, H, _, _, h6, _, hm, hN => by
    obtain ⟨L, rfl⟩ : ∃ x : List Row, x = L := ⟨L, rfl⟩
    obtain ⟨_, v, hx, hv, _⟩ := H.leaf
    have hL : L.length ≤ 6 := h6
    obtain ⟨key, val⟩ := r
    obtain ⟨hr, hl, hb⟩ := two_new w 108 31 #[ptr q, .pointer none] #[.string key, .string val]
    have hlm : (putS L ⟨key, val⟩).length ≤ 999999 := by rw [putS_len]; split <;> omega
    have kP := Lib.hid (put_any ((w.alloc (.cells #[ptr q, .pointer none] 108)).alloc (.cells #[.string key, .string val] 31)).drew v L ⟨key, val⟩ _ _ (View.below hv (Below.drew hb)) (by omega) (found_at L key))
    obtain ⟨A, cap, rfl, _, _⟩ := hv.cells
    have c0 : ((w.alloc (.cells #[ptr q, .pointer none] 108)).alloc (.cells #[.string key, .string val] 31)).drew.cell? ⟨w.heap.size, 0, none⟩ = some (ptr q) := hr.cell 0
    have c1 : ((w.alloc (.cells #[ptr q, .pointer none] 108)).alloc (.cells #[.string key, .string val] 31)).drew.cell? ⟨q, 2, none⟩ = some (.slice A L.length cap) := kc hb (hx.cell 2)
    have c2 : ((w.alloc (.cells #[ptr q, .pointer none] 108)).alloc (.cells #[.string key, .string val] 31)).drew.cell? ⟨w.heap.size + 1, 0, none⟩ = some (.string key) := hl.cell 0
    have c3 : ((w.alloc (.cells #[ptr q, .pointer none] 108)).alloc (.cells #[.string key, .string val] 31)).drew.cell? ⟨w.heap.size + 1, 1, none⟩ = some (.string val) := hl.cell 1
    have hBx := Lib.hid (Below.drew hb)
    replace hN := Lib.hid hN
    replace hlm := Lib.hid hlm
    have hput : putT 0 L ⟨key, val⟩ = halve (putS L ⟨key, val⟩) := rfl
    rw [hput]
    have hS : putL L (pos L key) (hit L key) ⟨key, val⟩ = putS L ⟨key, val⟩ := rfl
    simp only at kP
    rw [hS] at kP
    clear hput hS hv hx H hm h6
    generalize putS L ⟨key, val⟩ = L2 at *
    have d0 : ((w.alloc (.cells #[ptr q, .pointer none] 108)).alloc (.cells #[.string key, .string val] 31)).cell? ⟨w.heap.size, 0, none⟩ = some (ptr q) := c0
    have dq : ((w.alloc (.cells #[ptr q, .pointer none] 108)).alloc (.cells #[.string key, .string val] 31)).cell? ⟨q, 2, none⟩ = some (.slice A L.length cap) := c1
    clear hb hr hl
    simp only [pa, pb]
    go_enter Try.func79, Try.ntmps79
    go_upto_region 2 with fail
    generalize (w.alloc (.cells #[ptr q, .pointer none] 108)).alloc (.cells #[.string key, .string val] 31) = w2 at *
    refine tl_begin (fun (w' : World) => (w'.cell? ⟨w.heap.size, 0, none⟩ = some (ptr q) ∧ w'.cell? ⟨q, 2, none⟩ = some (.slice A L.length cap)) ∧ w'.cell? ⟨w.heap.size + 1, 0, none⟩ = some (.string key) ∧ w'.cell? ⟨w.heap.size + 1, 1, none⟩ = some (.string val)) [] (by kernel_rfl) (⟨⟨c0, c1⟩, c2, c3⟩) (fun hHeld => ?_)
    refine tl_p (i := 0) (v := ?_) rfl (by rfl) (by kernel_rfl) (by kernel_rfl) (by kernel_rfl) (fun _ _ _ h => h) (by rfl) hHeld ?_ ?_
    rotate_left
    · intro w
      go_simp
      try (with_reducible rfl)
    try simp only [Act.put, List.setIfInBounds_toArray, List.set_cons_zero, List.set_cons_succ]
    refine tl_w (i := 1) (v := ?_) rfl (by rfl) (by kernel_rfl) (by kernel_rfl) (by kernel_rfl) (by kernel_rfl) (by kernel_rfl) (fun _ _ _ h => h) (by rfl) hHeld ?_ ?_
    rotate_left
    · intro w hSw
      try dsimp only at hSw
      go_simp
      try (with_reducible rfl)
    try simp only [Act.put, List.setIfInBounds_toArray, List.set_cons_zero, List.set_cons_succ]
    refine tl_p (i := 2) (v := ?_) rfl (by rfl) (by kernel_rfl) (by kernel_rfl) (by kernel_rfl) (fun _ _ _ h => h) (by rfl) hHeld ?_ ?_
    rotate_left
    · intro w
      go_simp
      try (with_reducible rfl)
    try simp only [Act.put, List.setIfInBounds_toArray, List.set_cons_zero, List.set_cons_succ]
    refine tl_p (i := 3) (v := ?_) rfl (by rfl) (by kernel_rfl) (by kernel_rfl) (by kernel_rfl) (fun _ _ _ h => h) (by rfl) hHeld ?_ ?_
    rotate_left
    · intro w
      go_simp
      try (with_reducible rfl)
    try simp only [Act.put, List.setIfInBounds_toArray, List.set_cons_zero, List.set_cons_succ]
    refine tl_w (i := 4) (v := ?_) rfl (by rfl) (by kernel_rfl) (by kernel_rfl) (by kernel_rfl) (by kernel_rfl) (by kernel_rfl) (fun _ _ _ h => h) (by rfl) hHeld ?_ ?_
    rotate_left
    · intro w hSw
      try dsimp only at hSw
      go_simp
      try (with_reducible rfl)
    try simp only [Act.put, List.setIfInBounds_toArray, List.set_cons_zero, List.set_cons_succ]
    refine tl_w (i := 5) (v := ?_) rfl (by rfl) (by kernel_rfl) (by kernel_rfl) (by kernel_rfl) (by kernel_rfl) (by kernel_rfl) (fun _ _ _ h => h) (by rfl) hHeld ?_ ?_
    rotate_left
    · intro w hSw
      try dsimp only at hSw
      go_simp
      try (with_reducible rfl)
    try simp only [Act.put, List.setIfInBounds_toArray, List.set_cons_zero, List.set_cons_succ]
    refine tl_do (i := 6) rfl (by kernel_rfl) (by rfl) (fun K hK => ?_)
    go_simp
    go_at_call 19
    refine kP.out.mono ?_; rintro e w3 ⟨v3, rfl, ho3, hb3⟩
    have hN3 := fun b (hb : w3.heap.size ≤ b) => hN.out b (Nat.le_trans hBx.out.size (Nat.le_trans hb3.size hb))
    have k3 : ∀ b, blockOf v3 = some b → KK b := fun b hb => hN.out b (Nat.le_trans hBx.out.size (own_lt ho3 ((block_own v3).symm.trans hb)).1)
    have hl3 := Lib.hid (leaves_any (View.of_own ho3) hlm.out (fun _ => k3) hN3)
    have hw3 := Lib.hid (hBx.out.trans (hb3.mono hBx.out.size))
    have hc3 := And.intro (And.intro (kc hb3 c0) (kc hb3 c1)) (And.intro (kc hb3 c2) (kc hb3 c3))
    clear ho3 hb3 k3
    try go_wp2_with fail
    refine hK.out _ _ (hc3) (fun hHeld1 => ?_)
    clear hK K hHeld
    have hHeld := hHeld1
    clear hHeld1
    try simp only [Act.put, List.setIfInBounds_toArray, List.set_cons_zero, List.set_cons_succ]
    refine tl_do (i := 7) rfl (by kernel_rfl) (by rfl) (fun K hK => ?_)
    go_simp
    go_at_call 97
    refine hl3.out.mono ?_; rintro e w4 ⟨v4, rfl, hP4, hb4⟩
    have hw4 := Lib.hid (hw3.out.trans (hb4.mono hw3.out.size))
    have hP4' := Lib.hid hP4
    have hc4 := And.intro (And.intro (kc hb4 hc3.1.1) (kc hb4 hc3.1.2)) (And.intro (kc hb4 hc3.2.1) (kc hb4 hc3.2.2))
    clear hP4 hb4
    try go_wp2_with fail
    refine hK.out _ _ (hc4) (fun hHeld1 => ?_)
    clear hK K hHeld
    have hHeld := hHeld1
    clear hHeld1
    try simp only [Act.put, List.setIfInBounds_toArray, List.set_cons_zero, List.set_cons_succ]
    refine tl_p (i := 8) (v := ?_) rfl (by rfl) (by kernel_rfl) (by kernel_rfl) (by kernel_rfl) (fun _ _ _ h => h) (by rfl) hHeld ?_ ?_
    rotate_left
    · intro w
      go_simp
      try (with_reducible rfl)
    try simp only [Act.put, List.setIfInBounds_toArray, List.set_cons_zero, List.set_cons_succ]
    refine till_done (by kernel_rfl) ?_ _
    clear hHeld
    go_wp2_with fail
    go_ret
    exact ⟨_, rfl, hP4'.out, hw4.out⟩
  | h + 1, w, KK, q, kids, r, H, hk, h1, h6, hs, hm, hN => by
    obtain ⟨kids, rfl⟩ : ∃ x : List (T h), x = kids := ⟨kids, rfl⟩
    obtain ⟨_, v, hx, HP⟩ := H.inner
    have hk' : ∀ k ∈ kids, OkT h k ∧ 3 ≤ wideT h k ∧ wideT h k ≤ 6 := hk
    have h0 : 0 < kids.length := h1 (by omega)
    have hl6 : kids.length ≤ 6 := h6
    have hs' : Srt (List.flatMap (rowsT h) kids) := hs
    have hm' : (List.flatMap (rowsT h) kids).length ≤ 900000 := hm
    obtain ⟨b, off, cap, rfl, hbl, hcl, hcm, hat⟩ := HP.at_ h0
    obtain ⟨key, val⟩ := r
    obtain ⟨e1, e2, e3⟩ := kid_at hk' h0 hs' key
    have hP := (putT_ok (h + 1) kids ⟨key, val⟩ hk h1 h6 hs).2
    rw [putT_succ (r := ⟨key, val⟩) e1] at hP ⊢
    rw [flatS] at hP
    have hki := hk' _ (List.getElem_mem e1)
    have hpk := (putT_ok h kids[kidT h kids key] ⟨key, val⟩ hki.1 (fun _ => by omega) hki.2.2 (sub_srt hs' e1)).1
    have hpl : 1 ≤ (putT h kids[kidT h kids key] ⟨key, val⟩).length ∧ (putT h kids[kidT h kids key] ⟨key, val⟩).length ≤ 2 := by
      rcases hpk with ⟨p, e, _⟩ | ⟨p, q, e, _⟩ <;> rw [e] <;> simp
    have hsl : (rowsT h kids[kidT h kids key]).length ≤ 900000 := by
      have h9 := flat_split (h := h) e1
      rw [h9, List.length_append, List.length_append] at hm'
      omega
    obtain ⟨qi, b1, b2, b3⟩ := hat _ e1
    obtain ⟨hr, hl, hb⟩ := two_new w 108 31 #[.pointer none, ptr q] #[.string key, .string val]
    have kK := Lib.hid (kid_any (H.below hb) key h0 (by omega))
    have hts : (kids.take (kidT h kids key) ++ putT h kids[kidT h kids key] ⟨key, val⟩ ++ kids.drop (kidT h kids key + 1)).length ≤ 7 ∧ 0 < (kids.take (kidT h kids key) ++ putT h kids[kidT h kids key] ⟨key, val⟩ ++ kids.drop (kidT h kids key + 1)).length := by
      simp only [List.length_append, List.length_take, List.length_drop]
      omega
    have hrl : (List.flatMap (rowsT h) (kids.take (kidT h kids key) ++ putT h kids[kidT h kids key] ⟨key, val⟩ ++ kids.drop (kidT h kids key + 1))).length ≤ 1000000 := by
      rw [hP, putS_len]
      have : (rowsT (h + 1) kids).length ≤ 900000 := hm
      split <;> omega
    have kI0 := fun (W : World) (hW : Below w.heap.size w W) => partPut_any h W KK qi kids[kidT h kids key] ⟨key, val⟩ (b1.below hW) hki.1 (fun _ => by omega) hki.2.2 (sub_srt hs' e1) hsl (fun b hb => hN b (Nat.le_trans hW.size hb))
    have hd1 := HP.take (n := kidT h kids key) (by omega)
    have hdd : (¬ cap = kidT h kids key + 1 → PL w KK h (.slice (some ⟨b, off + (kidT h kids key + 1) * 2, none⟩) (kids.length - (kidT h kids key + 1)) (cap - (kidT h kids key + 1))) (kids.drop (kidT h kids key + 1))) ∧ (cap = kidT h kids key + 1 → PL w KK h (.slice (some ⟨b, off, none⟩) (kids.length - (kidT h kids key + 1)) (cap - (kidT h kids key + 1))) (kids.drop (kidT h kids key + 1))) := ⟨fun hc => HP.drop' (by omega) hc, fun hc => HP.drop0 (by omega) hc⟩
    have d1 : ((w.alloc (.cells #[.pointer none, ptr q] 108)).alloc (.cells #[.string key, .string val] 31)).cell? ⟨w.heap.size, 0, none⟩ = some (.pointer none) := hr.cell 0
    have d2 : ((w.alloc (.cells #[.pointer none, ptr q] 108)).alloc (.cells #[.string key, .string val] 31)).cell? ⟨w.heap.size, 1, none⟩ = some (ptr q) := hr.cell 1
    have d3 : ((w.alloc (.cells #[.pointer none, ptr q] 108)).alloc (.cells #[.string key, .string val] 31)).cell? ⟨w.heap.size + 1, 0, none⟩ = some (.string key) := hl.cell 0
    have d4 : ((w.alloc (.cells #[.pointer none, ptr q] 108)).alloc (.cells #[.string key, .string val] 31)).cell? ⟨w.heap.size + 1, 1, none⟩ = some (.string val) := hl.cell 1
    have d5 : ((w.alloc (.cells #[.pointer none, ptr q] 108)).alloc (.cells #[.string key, .string val] 31)).cell? ⟨q, 2, none⟩ = some (.slice (some ⟨b, off, none⟩) kids.length cap) := kc hb (hx.cell 2)
    have d6 := kc hb b2
    have d7 := kc hb b3
    generalize hi : kidT h kids key = i at *
    clear hki hpk hP hk' hk hs hs' h1 h6 hm hm' hat e2 e3 hx HP H b1 b2 b3 hr hl
    generalize kids.take i = t1 at *
    generalize putT h kids[i] ⟨key, val⟩ = t2 at *
    generalize kids.drop (i + 1) = t3 at *
    have hz0 := Lib.hid hts.2
    have hz2 := Lib.hid (show (t1 ++ t2 ++ t3).length ≤ 1000000 by omega)
    have hz1 := Lib.hid hrl
    have hcl := hz2
    generalize hth : halve (α := T h) (t1 ++ t2 ++ t3) = th at *
    replace hth := Lib.hid hth
    have ew : IntKind.i64.wrap ((i : Int) + 1) = (i : Int) + 1 := by rw [IntKind.wrap_i64]; omega
    have q1 : (i : Int) < (kids.length : Int) := by omega
    have q2 : (i : Int) + 1 ≤ (kids.length : Int) := by omega
    have q8 : (0 : Int) ≤ (i : Int) + 1 := by omega
    have q3 : i ≤ cap := by omega
    have q5 : i + 1 ≤ cap := by omega
    have q6 : ¬ (kids.length : Int) < (i : Int) + 1 := by omega
    replace kI0 := Lib.hid kI0
    replace hd1 := Lib.hid hd1
    replace hdd := Lib.hid hdd
    replace hN := Lib.hid hN
    replace hb := Lib.hid hb
    replace hi := Lib.hid hi
    clear hrl hts
    simp only [pa, pb]
    go_enter Try.func79, Try.ntmps79
    go_wp2_with fail
    refine kK.out.mono ?_; rintro e w3 ⟨rfl, hb3⟩
    have hBx := Below.drew (hb.out.trans (hb3.mono hb.out.size))
    have c0 : w3.drew.cell? ⟨w.heap.size, 1, none⟩ = some (ptr q) := kc hb3 d2
    have c1 : w3.drew.cell? ⟨q, 2, none⟩ = some (.slice (some ⟨b, off, none⟩) kids.length cap) := kc hb3 d5
    have c2 : w3.drew.cell? ⟨w.heap.size + 1, 0, none⟩ = some (.string key) := kc hb3 d3
    have c3 : w3.drew.cell? ⟨w.heap.size + 1, 1, none⟩ = some (.string val) := kc hb3 d4
    have p0 : w3.drew.cell? ⟨b, off + i * 2, none⟩ = some (.pointer (pa h qi)) := kc hb3 d6
    have p1 : w3.drew.cell? ⟨b, off + i * 2 + 1, none⟩ = some (.pointer (pb h qi)) := kc hb3 d7
    have kI := Lib.hid (kI0.out _ hBx)
    have h1 := Lib.hid (hd1.out.below hBx)
    have h2' := fun hc => (hdd.out.1 hc).below hBx
    have h2'' := fun hc => (hdd.out.2 hc).below hBx
    generalize pa h qi = a0 at *
    generalize pb h qi = b0 at *
    replace hBx := Lib.hid hBx
    replace h2' := Lib.hid h2'
    replace h2'' := Lib.hid h2''
    clear d1 d2 d3 d4 d5 d6 d7 hb3 kK kI0 hd1 hdd hb
    go_upto_region 4 with fail
    obtain ⟨n, hn⟩ : ∃ n, kids.length = n := ⟨_, rfl⟩
    rw [hn] at c1 q1 q2 q6 h2' h2''
    by_cases q4 : cap = i + 1
    · have h2 := h2''.out q4
      have q7 : (cap = i + 1) = True := eq_true q4
      replace q4 := Lib.hid q4
      replace h2 := Lib.hid h2
      clear h2' h2'' hn
      refine tl_begin (fun (w' : World) => ((w'.cell? ⟨w.heap.size, 1, none⟩ = some (ptr q) ∧ w'.cell? ⟨q, 2, none⟩ = some (.slice (some ⟨b, off, none⟩) n cap)) ∧ w'.cell? ⟨w.heap.size + 1, 0, none⟩ = some (.string key) ∧ w'.cell? ⟨w.heap.size + 1, 1, none⟩ = some (.string val)) ∧ w'.cell? ⟨b, off + i * 2, none⟩ = some (.pointer a0) ∧ w'.cell? ⟨b, off + i * 2 + 1, none⟩ = some (.pointer b0)) [] (by kernel_rfl) (⟨⟨⟨c0, c1⟩, c2, c3⟩, p0, p1⟩) (fun hHeld => ?_)
      refine tl_p (i := 0) (v := ?_) rfl (by rfl) (by kernel_rfl) (by kernel_rfl) (by kernel_rfl) (fun _ _ _ h => h) (by rfl) hHeld ?_ ?_
      rotate_left
      · intro w
        go_simp
        try (with_reducible rfl)
      try simp only [Act.put, List.setIfInBounds_toArray, List.set_cons_zero, List.set_cons_succ]
      refine tl_w (i := 1) (v := ?_) rfl (by rfl) (by kernel_rfl) (by kernel_rfl) (by kernel_rfl) (by kernel_rfl) (by kernel_rfl) (fun _ _ _ h => h) (by rfl) hHeld ?_ ?_
      rotate_left
      · intro w hSw
        try dsimp only at hSw
        go_simp
        try (with_reducible rfl)
      try simp only [Act.put, List.setIfInBounds_toArray, List.set_cons_zero, List.set_cons_succ]
      refine tl_p (i := 2) (v := ?_) rfl (by rfl) (by kernel_rfl) (by kernel_rfl) (by kernel_rfl) (fun _ _ _ h => h) (by rfl) hHeld ?_ ?_
      rotate_left
      · intro w
        go_simp
        try (with_reducible rfl)
      try simp only [Act.put, List.setIfInBounds_toArray, List.set_cons_zero, List.set_cons_succ]
      refine tl_p (i := 3) (v := ?_) rfl (by rfl) (by kernel_rfl) (by kernel_rfl) (by kernel_rfl) (fun _ _ _ h => h) (by rfl) hHeld ?_ ?_
      rotate_left
      · intro w
        go_simp
        try (with_reducible rfl)
      try simp only [Act.put, List.setIfInBounds_toArray, List.set_cons_zero, List.set_cons_succ]
      refine tl_w (i := 4) (v := ?_) rfl (by rfl) (by kernel_rfl) (by kernel_rfl) (by kernel_rfl) (by kernel_rfl) (by kernel_rfl) (fun _ _ _ h => h) (by rfl) hHeld ?_ ?_
      rotate_left
      · intro w hSw
        try dsimp only at hSw
        go_simp
        try (with_reducible rfl)
      try simp only [Act.put, List.setIfInBounds_toArray, List.set_cons_zero, List.set_cons_succ]
      refine tl_p (i := 5) (v := ?_) rfl (by rfl) (by kernel_rfl) (by kernel_rfl) (by kernel_rfl) (fun _ _ _ h => h) (by rfl) hHeld ?_ ?_
      rotate_left
      · intro w
        go_simp
        try (with_reducible rfl)
      try simp only [Act.put, List.setIfInBounds_toArray, List.set_cons_zero, List.set_cons_succ]
      refine tl_p (i := 6) (v := ?_) rfl (by rfl) (by kernel_rfl) (by kernel_rfl) (by kernel_rfl) (fun _ _ _ h => h) (by rfl) hHeld ?_ ?_
      rotate_left
      · intro w
        go_simp
        try (with_reducible rfl)
      try simp only [Act.put, List.setIfInBounds_toArray, List.set_cons_zero, List.set_cons_succ]
      refine tl_p (i := 7) (v := ?_) rfl (by rfl) (by kernel_rfl) (by kernel_rfl) (by kernel_rfl) (fun _ _ _ h => h) (by rfl) hHeld ?_ ?_
      rotate_left
      · intro w
        go_simp
        try (with_reducible rfl)
      try simp only [Act.put, List.setIfInBounds_toArray, List.set_cons_zero, List.set_cons_succ]
      refine tl_w (i := 8) (v := ?_) rfl (by rfl) (by kernel_rfl) (by kernel_rfl) (by kernel_rfl) (by kernel_rfl) (by kernel_rfl) (fun _ _ _ h => h) (by rfl) hHeld ?_ ?_
      rotate_left
      · intro w hSw
        try dsimp only at hSw
        go_simp
        try (with_reducible rfl)
      try simp only [Act.put, List.setIfInBounds_toArray, List.set_cons_zero, List.set_cons_succ]
      refine tl_p (i := 9) (v := ?_) rfl (by rfl) (by kernel_rfl) (by kernel_rfl) (by kernel_rfl) (fun _ _ _ h => h) (by rfl) hHeld ?_ ?_
      rotate_left
      · intro w
        go_simp
        try (with_reducible rfl)
      try simp only [Act.put, List.setIfInBounds_toArray, List.set_cons_zero, List.set_cons_succ]
      refine tl_p (i := 10) (v := ?_) rfl (by rfl) (by kernel_rfl) (by kernel_rfl) (by kernel_rfl) (fun _ _ _ h => h) (by rfl) hHeld ?_ ?_
      rotate_left
      · intro w
        go_simp
        try (with_reducible rfl)
      try simp only [Act.put, List.setIfInBounds_toArray, List.set_cons_zero, List.set_cons_succ]
      refine tl_w (i := 11) (v := ?_) rfl (by rfl) (by kernel_rfl) (by kernel_rfl) (by kernel_rfl) (by kernel_rfl) (by kernel_rfl) (fun _ _ _ h => h) (by rfl) hHeld ?_ ?_
      rotate_left
      · intro w hSw
        try dsimp only at hSw
        go_simp
        try (with_reducible rfl)
      try simp only [Act.put, List.setIfInBounds_toArray, List.set_cons_zero, List.set_cons_succ]
      refine tl_p (i := 12) (v := ?_) rfl (by rfl) (by kernel_rfl) (by kernel_rfl) (by kernel_rfl) (fun _ _ _ h => h) (by rfl) hHeld ?_ ?_
      rotate_left
      · intro w
        go_simp
        try (with_reducible rfl)
      try simp only [Act.put, List.setIfInBounds_toArray, List.set_cons_zero, List.set_cons_succ]
      refine tl_p (i := 13) (v := ?_) rfl (by rfl) (by kernel_rfl) (by kernel_rfl) (by kernel_rfl) (fun _ _ _ h => h) (by rfl) hHeld ?_ ?_
      rotate_left
      · intro w
        go_simp
        try (with_reducible rfl)
      try simp only [Act.put, List.setIfInBounds_toArray, List.set_cons_zero, List.set_cons_succ]
      refine tl_w (i := 14) (v := ?_) rfl (by rfl) (by kernel_rfl) (by kernel_rfl) (by kernel_rfl) (by kernel_rfl) (by kernel_rfl) (fun _ _ _ h => h) (by rfl) hHeld ?_ ?_
      rotate_left
      · intro w hSw
        try dsimp only at hSw
        go_simp
        try (with_reducible rfl)
      try simp only [Act.put, List.setIfInBounds_toArray, List.set_cons_zero, List.set_cons_succ]
      refine tl_w (i := 15) (v := ?_) rfl (by rfl) (by kernel_rfl) (by kernel_rfl) (by kernel_rfl) (by kernel_rfl) (by kernel_rfl) (fun _ _ _ h => h) (by rfl) hHeld ?_ ?_
      rotate_left
      · intro w hSw
        try dsimp only at hSw
        go_simp
        try (with_reducible rfl)
      try simp only [Act.put, List.setIfInBounds_toArray, List.set_cons_zero, List.set_cons_succ]
      refine tl_p (i := 17) (v := ?_) rfl (by rfl) (by kernel_rfl) (by kernel_rfl) (by kernel_rfl) (fun _ _ _ h => h) (by rfl) hHeld ?_ ?_
      rotate_left
      · intro w
        go_simp
        try (with_reducible rfl)
      try simp only [Act.put, List.setIfInBounds_toArray, List.set_cons_zero, List.set_cons_succ]
      refine tl_w (i := 18) (v := ?_) rfl (by rfl) (by kernel_rfl) (by kernel_rfl) (by kernel_rfl) (by kernel_rfl) (by kernel_rfl) (fun _ _ _ h => h) (by rfl) hHeld ?_ ?_
      rotate_left
      · intro w hSw
        try dsimp only at hSw
        go_simp
        try (with_reducible rfl)
      try simp only [Act.put, List.setIfInBounds_toArray, List.set_cons_zero, List.set_cons_succ]
      refine tl_p (i := 19) (v := ?_) rfl (by rfl) (by kernel_rfl) (by kernel_rfl) (by kernel_rfl) (fun _ _ _ h => h) (by rfl) hHeld ?_ ?_
      rotate_left
      · intro w
        go_simp
        try (with_reducible rfl)
      try simp only [Act.put, List.setIfInBounds_toArray, List.set_cons_zero, List.set_cons_succ]
      refine tl_p (i := 20) (v := ?_) rfl (by rfl) (by kernel_rfl) (by kernel_rfl) (by kernel_rfl) (fun _ _ _ h => h) (by rfl) hHeld ?_ ?_
      rotate_left
      · intro w
        go_simp
        try (with_reducible rfl)
      try simp only [Act.put, List.setIfInBounds_toArray, List.set_cons_zero, List.set_cons_succ]
      refine tl_w (i := 21) (v := ?_) rfl (by rfl) (by kernel_rfl) (by kernel_rfl) (by kernel_rfl) (by kernel_rfl) (by kernel_rfl) (fun _ _ _ h => h) (by rfl) hHeld ?_ ?_
      rotate_left
      · intro w hSw
        try dsimp only at hSw
        go_simp
        try (with_reducible rfl)
      try simp only [Act.put, List.setIfInBounds_toArray, List.set_cons_zero, List.set_cons_succ]
      refine tl_p (i := 22) (v := ?_) rfl (by rfl) (by kernel_rfl) (by kernel_rfl) (by kernel_rfl) (fun _ _ _ h => h) (by rfl) hHeld ?_ ?_
      rotate_left
      · intro w
        go_simp
        try (with_reducible rfl)
      try simp only [Act.put, List.setIfInBounds_toArray, List.set_cons_zero, List.set_cons_succ]
      refine tl_p (i := 23) (v := ?_) rfl (by rfl) (by kernel_rfl) (by kernel_rfl) (by kernel_rfl) (fun _ _ _ h => h) (by rfl) hHeld ?_ ?_
      rotate_left
      · intro w
        go_simp
        try (with_reducible rfl)
      try simp only [Act.put, List.setIfInBounds_toArray, List.set_cons_zero, List.set_cons_succ]
      refine tl_p (i := 24) (v := ?_) rfl (by rfl) (by kernel_rfl) (by kernel_rfl) (by kernel_rfl) (fun _ _ _ h => h) (by rfl) hHeld ?_ ?_
      rotate_left
      · intro w
        go_simp
        try (with_reducible rfl)
      try simp only [Act.put, List.setIfInBounds_toArray, List.set_cons_zero, List.set_cons_succ]
      refine tl_do (i := 16) rfl (by kernel_rfl) (by rfl) (fun K hK => ?_)
      go_simp
      go_at_call 79
      refine kI.out.mono ?_; rintro e w5 ⟨v5, rfl, hP5, hb5⟩
      have hc5 := And.intro (And.intro (And.intro (kc hb5 c0) (kc hb5 c1)) (And.intro (kc hb5 c2) (kc hb5 c3))) (And.intro (kc hb5 p0) (kc hb5 p1))
      have h15 := Lib.hid (h1.out.below hb5)
      have h25 := Lib.hid (h2.out.below hb5)
      have hw5 := Lib.hid (hBx.out.trans (hb5.mono hBx.out.size))
      obtain ⟨A5, c5, rfl, _, _⟩ := hP5.cells
      replace hP5 := Lib.hid hP5
      clear hb5
      try go_wp2_with fail
      refine hK.out _ _ (hc5) (fun hHeld1 => ?_)
      clear hK K hHeld
      have hHeld := hHeld1
      clear hHeld1
      try simp only [Act.put, List.setIfInBounds_toArray, List.set_cons_zero, List.set_cons_succ]
      refine tl_do (i := 25) rfl (by kernel_rfl) (by rfl) (fun K hK => ?_)
      go_simp
      refine hK.out _ _ (⟨⟨⟨cell_alloc _ hc5.1.1.1, cell_alloc _ hc5.1.1.2⟩, cell_alloc _ hc5.1.2.1, cell_alloc _ hc5.1.2.2⟩, cell_alloc _ hc5.2.1, cell_alloc _ hc5.2.2⟩) (fun hHeld1 => ?_)
      clear hK K hHeld
      have hHeld := hHeld1
      clear hHeld1
      try simp only [Act.put, List.setIfInBounds_toArray, List.set_cons_zero, List.set_cons_succ]
      refine tl_do (i := 26) rfl (by kernel_rfl) (by rfl) (fun K hK => ?_)
      go_simp
      go_at_call 100
      refine (concatL3 h15.out hP5.out h25.out (fun b hb => hN.out b (Nat.le_trans hw5.out.size hb)) hcl.out).mono ?_; rintro e w6 ⟨v6, rfl, hP6, hb6⟩
      have hc6 := And.intro (And.intro (And.intro (kc hb6 (cell_alloc _ hc5.1.1.1)) (kc hb6 (cell_alloc _ hc5.1.1.2))) (And.intro (kc hb6 (cell_alloc _ hc5.1.2.1)) (kc hb6 (cell_alloc _ hc5.1.2.2)))) (And.intro (kc hb6 (cell_alloc _ hc5.2.1)) (kc hb6 (cell_alloc _ hc5.2.2)))
      have hw6 := Lib.hid ((hw5.out.alloc hw5.out.size _).trans (hb6.mono (Nat.le_trans hw5.out.size (by simp))))
      replace hP6 := Lib.hid hP6
      clear hb6
      try go_wp2_with fail
      refine hK.out _ _ (hc6) (fun hHeld1 => ?_)
      clear hK K hHeld
      have hHeld := hHeld1
      clear hHeld1
      try simp only [Act.put, List.setIfInBounds_toArray, List.set_cons_zero, List.set_cons_succ]
      refine tl_do (i := 27) rfl (by kernel_rfl) (by rfl) (fun K hK => ?_)
      go_simp
      go_at_call 99
      refine (inners_any hP6.out hz0.out hz1.out hz2.out (fun b hb => hN.out b (Nat.le_trans hw6.out.size hb))).mono ?_; rintro e w7 ⟨v7, rfl, hP7, hb7⟩
      have hc7 := And.intro (And.intro (And.intro (kc hb7 hc6.1.1.1) (kc hb7 hc6.1.1.2)) (And.intro (kc hb7 hc6.1.2.1) (kc hb7 hc6.1.2.2))) (And.intro (kc hb7 hc6.2.1) (kc hb7 hc6.2.2))
      have hw7 := Lib.hid (hw6.out.trans (hb7.mono hw6.out.size))
      replace hP7 := Lib.hid hP7
      clear hb7
      try go_wp2_with fail
      refine hK.out _ _ (hc7) (fun hHeld1 => ?_)
      clear hK K hHeld
      have hHeld := hHeld1
      clear hHeld1
      try simp only [Act.put, List.setIfInBounds_toArray, List.set_cons_zero, List.set_cons_succ]
      refine tl_p (i := 28) (v := ?_) rfl (by rfl) (by kernel_rfl) (by kernel_rfl) (by kernel_rfl) (fun _ _ _ h => h) (by rfl) hHeld ?_ ?_
      rotate_left
      · intro w
        go_simp
        try (with_reducible rfl)
      try simp only [Act.put, List.setIfInBounds_toArray, List.set_cons_zero, List.set_cons_succ]
      refine till_done (by kernel_rfl) ?_ _
      clear hHeld
      go_wp2_with fail
      go_ret
      exact ⟨_, rfl, hth.out ▸ hP7.out, hw7.out⟩
    · have h2 := Lib.hid (h2'.out q4)
      clear h2' h2'' hn
      refine tl_begin (fun (w' : World) => ((w'.cell? ⟨w.heap.size, 1, none⟩ = some (ptr q) ∧ w'.cell? ⟨q, 2, none⟩ = some (.slice (some ⟨b, off, none⟩) n cap)) ∧ w'.cell? ⟨w.heap.size + 1, 0, none⟩ = some (.string key) ∧ w'.cell? ⟨w.heap.size + 1, 1, none⟩ = some (.string val)) ∧ w'.cell? ⟨b, off + i * 2, none⟩ = some (.pointer a0) ∧ w'.cell? ⟨b, off + i * 2 + 1, none⟩ = some (.pointer b0)) [] (by kernel_rfl) (⟨⟨⟨c0, c1⟩, c2, c3⟩, p0, p1⟩) (fun hHeld => ?_)
      refine tl_p (i := 0) (v := ?_) rfl (by rfl) (by kernel_rfl) (by kernel_rfl) (by kernel_rfl) (fun _ _ _ h => h) (by rfl) hHeld ?_ ?_
      rotate_left
      · intro w
        go_simp
        try (with_reducible rfl)
      try simp only [Act.put, List.setIfInBounds_toArray, List.set_cons_zero, List.set_cons_succ]
      refine tl_w (i := 1) (v := ?_) rfl (by rfl) (by kernel_rfl) (by kernel_rfl) (by kernel_rfl) (by kernel_rfl) (by kernel_rfl) (fun _ _ _ h => h) (by rfl) hHeld ?_ ?_
      rotate_left
      · intro w hSw
        try dsimp only at hSw
        go_simp
        try (with_reducible rfl)
      try simp only [Act.put, List.setIfInBounds_toArray, List.set_cons_zero, List.set_cons_succ]
      refine tl_p (i := 2) (v := ?_) rfl (by rfl) (by kernel_rfl) (by kernel_rfl) (by kernel_rfl) (fun _ _ _ h => h) (by rfl) hHeld ?_ ?_
      rotate_left
      · intro w
        go_simp
        try (with_reducible rfl)
      try simp only [Act.put, List.setIfInBounds_toArray, List.set_cons_zero, List.set_cons_succ]
      refine tl_p (i := 3) (v := ?_) rfl (by rfl) (by kernel_rfl) (by kernel_rfl) (by kernel_rfl) (fun _ _ _ h => h) (by rfl) hHeld ?_ ?_
      rotate_left
      · intro w
        go_simp
        try (with_reducible rfl)
      try simp only [Act.put, List.setIfInBounds_toArray, List.set_cons_zero, List.set_cons_succ]
      refine tl_w (i := 4) (v := ?_) rfl (by rfl) (by kernel_rfl) (by kernel_rfl) (by kernel_rfl) (by kernel_rfl) (by kernel_rfl) (fun _ _ _ h => h) (by rfl) hHeld ?_ ?_
      rotate_left
      · intro w hSw
        try dsimp only at hSw
        go_simp
        try (with_reducible rfl)
      try simp only [Act.put, List.setIfInBounds_toArray, List.set_cons_zero, List.set_cons_succ]
      refine tl_p (i := 5) (v := ?_) rfl (by rfl) (by kernel_rfl) (by kernel_rfl) (by kernel_rfl) (fun _ _ _ h => h) (by rfl) hHeld ?_ ?_
      rotate_left
      · intro w
        go_simp
        try (with_reducible rfl)
      try simp only [Act.put, List.setIfInBounds_toArray, List.set_cons_zero, List.set_cons_succ]
      refine tl_p (i := 6) (v := ?_) rfl (by rfl) (by kernel_rfl) (by kernel_rfl) (by kernel_rfl) (fun _ _ _ h => h) (by rfl) hHeld ?_ ?_
      rotate_left
      · intro w
        go_simp
        try (with_reducible rfl)
      try simp only [Act.put, List.setIfInBounds_toArray, List.set_cons_zero, List.set_cons_succ]
      refine tl_p (i := 7) (v := ?_) rfl (by rfl) (by kernel_rfl) (by kernel_rfl) (by kernel_rfl) (fun _ _ _ h => h) (by rfl) hHeld ?_ ?_
      rotate_left
      · intro w
        go_simp
        try (with_reducible rfl)
      try simp only [Act.put, List.setIfInBounds_toArray, List.set_cons_zero, List.set_cons_succ]
      refine tl_w (i := 8) (v := ?_) rfl (by rfl) (by kernel_rfl) (by kernel_rfl) (by kernel_rfl) (by kernel_rfl) (by kernel_rfl) (fun _ _ _ h => h) (by rfl) hHeld ?_ ?_
      rotate_left
      · intro w hSw
        try dsimp only at hSw
        go_simp
        try (with_reducible rfl)
      try simp only [Act.put, List.setIfInBounds_toArray, List.set_cons_zero, List.set_cons_succ]
      refine tl_p (i := 9) (v := ?_) rfl (by rfl) (by kernel_rfl) (by kernel_rfl) (by kernel_rfl) (fun _ _ _ h => h) (by rfl) hHeld ?_ ?_
      rotate_left
      · intro w
        go_simp
        try (with_reducible rfl)
      try simp only [Act.put, List.setIfInBounds_toArray, List.set_cons_zero, List.set_cons_succ]
      refine tl_p (i := 10) (v := ?_) rfl (by rfl) (by kernel_rfl) (by kernel_rfl) (by kernel_rfl) (fun _ _ _ h => h) (by rfl) hHeld ?_ ?_
      rotate_left
      · intro w
        go_simp
        try (with_reducible rfl)
      try simp only [Act.put, List.setIfInBounds_toArray, List.set_cons_zero, List.set_cons_succ]
      refine tl_w (i := 11) (v := ?_) rfl (by rfl) (by kernel_rfl) (by kernel_rfl) (by kernel_rfl) (by kernel_rfl) (by kernel_rfl) (fun _ _ _ h => h) (by rfl) hHeld ?_ ?_
      rotate_left
      · intro w hSw
        try dsimp only at hSw
        go_simp
        try (with_reducible rfl)
      try simp only [Act.put, List.setIfInBounds_toArray, List.set_cons_zero, List.set_cons_succ]
      refine tl_p (i := 12) (v := ?_) rfl (by rfl) (by kernel_rfl) (by kernel_rfl) (by kernel_rfl) (fun _ _ _ h => h) (by rfl) hHeld ?_ ?_
      rotate_left
      · intro w
        go_simp
        try (with_reducible rfl)
      try simp only [Act.put, List.setIfInBounds_toArray, List.set_cons_zero, List.set_cons_succ]
      refine tl_p (i := 13) (v := ?_) rfl (by rfl) (by kernel_rfl) (by kernel_rfl) (by kernel_rfl) (fun _ _ _ h => h) (by rfl) hHeld ?_ ?_
      rotate_left
      · intro w
        go_simp
        try (with_reducible rfl)
      try simp only [Act.put, List.setIfInBounds_toArray, List.set_cons_zero, List.set_cons_succ]
      refine tl_w (i := 14) (v := ?_) rfl (by rfl) (by kernel_rfl) (by kernel_rfl) (by kernel_rfl) (by kernel_rfl) (by kernel_rfl) (fun _ _ _ h => h) (by rfl) hHeld ?_ ?_
      rotate_left
      · intro w hSw
        try dsimp only at hSw
        go_simp
        try (with_reducible rfl)
      try simp only [Act.put, List.setIfInBounds_toArray, List.set_cons_zero, List.set_cons_succ]
      refine tl_w (i := 15) (v := ?_) rfl (by rfl) (by kernel_rfl) (by kernel_rfl) (by kernel_rfl) (by kernel_rfl) (by kernel_rfl) (fun _ _ _ h => h) (by rfl) hHeld ?_ ?_
      rotate_left
      · intro w hSw
        try dsimp only at hSw
        go_simp
        try (with_reducible rfl)
      try simp only [Act.put, List.setIfInBounds_toArray, List.set_cons_zero, List.set_cons_succ]
      refine tl_p (i := 17) (v := ?_) rfl (by rfl) (by kernel_rfl) (by kernel_rfl) (by kernel_rfl) (fun _ _ _ h => h) (by rfl) hHeld ?_ ?_
      rotate_left
      · intro w
        go_simp
        try (with_reducible rfl)
      try simp only [Act.put, List.setIfInBounds_toArray, List.set_cons_zero, List.set_cons_succ]
      refine tl_w (i := 18) (v := ?_) rfl (by rfl) (by kernel_rfl) (by kernel_rfl) (by kernel_rfl) (by kernel_rfl) (by kernel_rfl) (fun _ _ _ h => h) (by rfl) hHeld ?_ ?_
      rotate_left
      · intro w hSw
        try dsimp only at hSw
        go_simp
        try (with_reducible rfl)
      try simp only [Act.put, List.setIfInBounds_toArray, List.set_cons_zero, List.set_cons_succ]
      refine tl_p (i := 19) (v := ?_) rfl (by rfl) (by kernel_rfl) (by kernel_rfl) (by kernel_rfl) (fun _ _ _ h => h) (by rfl) hHeld ?_ ?_
      rotate_left
      · intro w
        go_simp
        try (with_reducible rfl)
      try simp only [Act.put, List.setIfInBounds_toArray, List.set_cons_zero, List.set_cons_succ]
      refine tl_p (i := 20) (v := ?_) rfl (by rfl) (by kernel_rfl) (by kernel_rfl) (by kernel_rfl) (fun _ _ _ h => h) (by rfl) hHeld ?_ ?_
      rotate_left
      · intro w
        go_simp
        try (with_reducible rfl)
      try simp only [Act.put, List.setIfInBounds_toArray, List.set_cons_zero, List.set_cons_succ]
      refine tl_w (i := 21) (v := ?_) rfl (by rfl) (by kernel_rfl) (by kernel_rfl) (by kernel_rfl) (by kernel_rfl) (by kernel_rfl) (fun _ _ _ h => h) (by rfl) hHeld ?_ ?_
      rotate_left
      · intro w hSw
        try dsimp only at hSw
        go_simp
        try (with_reducible rfl)
      try simp only [Act.put, List.setIfInBounds_toArray, List.set_cons_zero, List.set_cons_succ]
      refine tl_p (i := 22) (v := ?_) rfl (by rfl) (by kernel_rfl) (by kernel_rfl) (by kernel_rfl) (fun _ _ _ h => h) (by rfl) hHeld ?_ ?_
      rotate_left
      · intro w
        go_simp
        try (with_reducible rfl)
      try simp only [Act.put, List.setIfInBounds_toArray, List.set_cons_zero, List.set_cons_succ]
      refine tl_p (i := 23) (v := ?_) rfl (by rfl) (by kernel_rfl) (by kernel_rfl) (by kernel_rfl) (fun _ _ _ h => h) (by rfl) hHeld ?_ ?_
      rotate_left
      · intro w
        go_simp
        try (with_reducible rfl)
      try simp only [Act.put, List.setIfInBounds_toArray, List.set_cons_zero, List.set_cons_succ]
      refine tl_p (i := 24) (v := ?_) rfl (by rfl) (by kernel_rfl) (by kernel_rfl) (by kernel_rfl) (fun _ _ _ h => h) (by rfl) hHeld ?_ ?_
      rotate_left
      · intro w
        go_simp
        try (with_reducible rfl)
      try simp only [Act.put, List.setIfInBounds_toArray, List.set_cons_zero, List.set_cons_succ]
      refine tl_do (i := 16) rfl (by kernel_rfl) (by rfl) (fun K hK => ?_)
      go_simp
      go_at_call 79
      refine kI.out.mono ?_; rintro e w5 ⟨v5, rfl, hP5, hb5⟩
      have hc5 := And.intro (And.intro (And.intro (kc hb5 c0) (kc hb5 c1)) (And.intro (kc hb5 c2) (kc hb5 c3))) (And.intro (kc hb5 p0) (kc hb5 p1))
      have h15 := Lib.hid (h1.out.below hb5)
      have h25 := Lib.hid (h2.out.below hb5)
      have hw5 := Lib.hid (hBx.out.trans (hb5.mono hBx.out.size))
      obtain ⟨A5, c5, rfl, _, _⟩ := hP5.cells
      replace hP5 := Lib.hid hP5
      clear hb5
      try go_wp2_with fail
      refine hK.out _ _ (hc5) (fun hHeld1 => ?_)
      clear hK K hHeld
      have hHeld := hHeld1
      clear hHeld1
      try simp only [Act.put, List.setIfInBounds_toArray, List.set_cons_zero, List.set_cons_succ]
      refine tl_do (i := 25) rfl (by kernel_rfl) (by rfl) (fun K hK => ?_)
      go_simp
      refine hK.out _ _ (⟨⟨⟨cell_alloc _ hc5.1.1.1, cell_alloc _ hc5.1.1.2⟩, cell_alloc _ hc5.1.2.1, cell_alloc _ hc5.1.2.2⟩, cell_alloc _ hc5.2.1, cell_alloc _ hc5.2.2⟩) (fun hHeld1 => ?_)
      clear hK K hHeld
      have hHeld := hHeld1
      clear hHeld1
      try simp only [Act.put, List.setIfInBounds_toArray, List.set_cons_zero, List.set_cons_succ]
      refine tl_do (i := 26) rfl (by kernel_rfl) (by rfl) (fun K hK => ?_)
      go_simp
      go_at_call 100
      refine (concatL3 h15.out hP5.out h25.out (fun b hb => hN.out b (Nat.le_trans hw5.out.size hb)) hcl.out).mono ?_; rintro e w6 ⟨v6, rfl, hP6, hb6⟩
      have hc6 := And.intro (And.intro (And.intro (kc hb6 (cell_alloc _ hc5.1.1.1)) (kc hb6 (cell_alloc _ hc5.1.1.2))) (And.intro (kc hb6 (cell_alloc _ hc5.1.2.1)) (kc hb6 (cell_alloc _ hc5.1.2.2)))) (And.intro (kc hb6 (cell_alloc _ hc5.2.1)) (kc hb6 (cell_alloc _ hc5.2.2)))
      have hw6 := Lib.hid ((hw5.out.alloc hw5.out.size _).trans (hb6.mono (Nat.le_trans hw5.out.size (by simp))))
      replace hP6 := Lib.hid hP6
      clear hb6
      try go_wp2_with fail
      refine hK.out _ _ (hc6) (fun hHeld1 => ?_)
      clear hK K hHeld
      have hHeld := hHeld1
      clear hHeld1
      try simp only [Act.put, List.setIfInBounds_toArray, List.set_cons_zero, List.set_cons_succ]
      refine tl_do (i := 27) rfl (by kernel_rfl) (by rfl) (fun K hK => ?_)
      go_simp
      go_at_call 99
      refine (inners_any hP6.out hz0.out hz1.out hz2.out (fun b hb => hN.out b (Nat.le_trans hw6.out.size hb))).mono ?_; rintro e w7 ⟨v7, rfl, hP7, hb7⟩
      have hc7 := And.intro (And.intro (And.intro (kc hb7 hc6.1.1.1) (kc hb7 hc6.1.1.2)) (And.intro (kc hb7 hc6.1.2.1) (kc hb7 hc6.1.2.2))) (And.intro (kc hb7 hc6.2.1) (kc hb7 hc6.2.2))
      have hw7 := Lib.hid (hw6.out.trans (hb7.mono hw6.out.size))
      replace hP7 := Lib.hid hP7
      clear hb7
      try go_wp2_with fail
      refine hK.out _ _ (hc7) (fun hHeld1 => ?_)
      clear hK K hHeld
      have hHeld := hHeld1
      clear hHeld1
      try simp only [Act.put, List.setIfInBounds_toArray, List.set_cons_zero, List.set_cons_succ]
      refine tl_p (i := 28) (v := ?_) rfl (by rfl) (by kernel_rfl) (by kernel_rfl) (by kernel_rfl) (fun _ _ _ h => h) (by rfl) hHeld ?_ ?_
      rotate_left
      · intro w
        go_simp
        try (with_reducible rfl)
      try simp only [Act.put, List.setIfInBounds_toArray, List.set_cons_zero, List.set_cons_succ]
      refine till_done (by kernel_rfl) ?_ _
      clear hHeld
      go_wp2_with fail
      go_ret
      exact ⟨_, rfl, hth.out ▸ hP7.out, hw7.out⟩
end Go.Proofs.Ytegomkgfmaclkaa
