/-
  tree: part.ceil by its contract, for parts of every height.
-/
import Derived.Test.YtegomkgfmaclkaaTj
set_option linter.unusedVariables false
set_option linter.unusedSimpArgs false
namespace Go.Proofs.Ytegomkgfmaclkaa
open Go.RowKit Go.Proofs.PosteOrd Go.Proofs.PosteMem

def resC : Option Row → Value
  | some r => .tuple #[.agg #[.string r.key, .string r.val], .bool true]
  | none => .tuple #[.agg #[.string ⟨#[]⟩, .string ⟨#[]⟩], .bool false]
theorem find_pos (L : List Row) (key : ByteArray) : L.find? (fun r => decide (¬ lt r.key key)) = L[pos L key]? := by
  induction L with
  | nil => rfl
  | cons x L ih =>
    rw [pos_cons]
    by_cases h : lt x.key key
    · rw [List.find?_cons_of_neg (by simp [h]), if_pos h, ih]; rfl
    · rw [List.find?_cons_of_pos (by simp [h]), if_neg h]; rfl
theorem findSome_at {α β : Type} {g : α → Option β} {l : List α} {k : Nat} (hk : k < l.length) (h : ∀ j (hj : j < l.length), j < k → g l[j] = none) {r : β} (hr : g l[k] = some r) : l.findSome? g = some r := by
  induction l generalizing k with
  | nil => exact absurd hk (Nat.not_lt_zero _)
  | cons x l ih =>
    rw [List.findSome?_cons]
    rcases k with _ | k
    · have : g x = some r := hr
      rw [this]
    · have h0 : g x = none := h 0 (Nat.succ_pos _) (Nat.succ_pos _)
      rw [h0]
      exact ih (k := k) (by simp at hk; omega) (fun j hj hjk => h (j + 1) (by simp; omega) (by omega)) hr
theorem findSome_none {α β : Type} {g : α → Option β} {l : List α} (h : ∀ j (hj : j < l.length), g l[j] = none) : l.findSome? g = none := by
  rw [List.findSome?_eq_none_iff]
  intro x hx
  obtain ⟨j, hj, rfl⟩ := List.getElem_of_mem hx
  exact h j hj

set_option maxRecDepth 100000 in
set_option maxHeartbeats 8000000 in
theorem partCeil_any : ∀ (h : Nat) (w : World) (KK : Nat → Prop) (q : Nat) (t : T h) (key : ByteArray), PAt w KK h q t → OkT h t → (1 ≤ h → 1 ≤ wideT h t) → wideT h t ≤ 6 → Srt (rowsT h t) →
    Calls Try.prog 96 #[.agg #[.pointer (pa h q), .pointer (pb h q)], .string key] w fun e w' => e = .returned (resC (ceilT h t key)) ∧ Below w.heap.size w w'
  | 0, w, KK, q, L, key, H, _, _, h6, _ => by
    obtain ⟨L, rfl⟩ : ∃ x : List Row, x = L := ⟨L, rfl⟩
    obtain ⟨_, v, hx, hv, _⟩ := H.leaf
    have hL : L.length ≤ 6 := h6
    have hc : ceilT 0 L key = L[pos L key]? := find_pos L key
    rw [hc]
    have hple := pos_le L key
    obtain ⟨hr, hl, hb⟩ := two_new w 108 31 #[ptr q, .pointer none] #[.string ⟨#[]⟩, .string ⟨#[]⟩]
    have kF := Lib.hid (find_any _ v L key _ _ (View.below hv hb) (by omega) (found_at L key))
    obtain ⟨A, cap, rfl, _, _⟩ := hv.cells
    have p0 : ((w.alloc (.cells #[ptr q, .pointer none] 108)).alloc (.cells #[.string ⟨#[]⟩, .string ⟨#[]⟩] 31)).cell? ⟨w.heap.size, 0, none⟩ = some (ptr q) := hr.cell 0
    have p1 : ((w.alloc (.cells #[ptr q, .pointer none] 108)).alloc (.cells #[.string ⟨#[]⟩, .string ⟨#[]⟩] 31)).cell? ⟨q, 2, none⟩ = some (.slice A L.length cap) := kc hb (hx.cell 2)
    have hv2 := Lib.hid (View.below hv hb)
    replace hb := Lib.hid hb
    replace hr := Lib.hid hr
    replace hl := Lib.hid hl
    clear hx hv H hc h6
    simp only [pa, pb]
    by_cases hlt : pos L key < L.length
    · have hg : L[pos L key]? = some L[pos L key] := List.getElem?_eq_getElem hlt
      rw [hg]
      obtain ⟨b, off, cap', e, _, _, hbl, hat⟩ := rows_at hv2.out (by omega)
      injection e with e1 e2 e3
      subst e1 e3
      obtain ⟨x0, x1⟩ := hat _ hlt
      generalize L[pos L key] = r at *
      generalize pos L key = i at *
      obtain ⟨rk, rv⟩ := r
      simp only at x0 x1
      have q1 : ¬ (i : Int) = (L.length : Int) := by omega
      have q2 : (i : Int) < (L.length : Int) := by omega
      clear hat hg
      generalize hw2 : (w.alloc (.cells #[ptr q, .pointer none] 108)).alloc (.cells #[.string ⟨#[]⟩, .string ⟨#[]⟩] 31) = w2 at *
      go_enter Try.func96, Try.ntmps96
      go_upto_region 2 with fail
      replace hw2 := Lib.hid hw2
      go_wp2_with fail
      refine kF.out.mono ?_; rintro e w3 ⟨rfl, hb3⟩
      have y0 := kc hb3 x0
      have y1 := kc hb3 x1
      have z0 := kc hb3 p0
      have z1 := kc hb3 p1
      have hl3 := hl.out.below hb3
      have f0 := hl3.frozen 0
      have f1 := hl3.frozen 1
      have hl4 := Lib.hid ((hl3.set 0 (.string rk)).set 1 (.string rv))
      have hB3 := hb.out.trans (hb3.mono hb.out.size)
      have hB4 := Lib.hid ((hB3.setCell (p := ⟨w.heap.size + 1, 0, none⟩) (by simp) (.string rk)).setCell (p := ⟨w.heap.size + 1, 1, none⟩) (by simp) (.string rv))
      have g0 := hl3.cell 0
      have g1 := hl3.cell 1
      have gl := hl3.lt
      clear x0 x1 p0 p1 hb3 hB3 hl3 kF
      go_wp2_with fail
      refine bodyPost_ret (results_cell_tmp_row rfl _ _ (w.heap.size + 1) _ _ _ _ rfl hl4.out Try.underlying31 rfl (by kernel_rfl) _ rfl) rfl ?_
      exact ⟨rfl, hB4.out⟩
    · have hg : L[pos L key]? = none := List.getElem?_eq_none (by omega)
      rw [hg]
      have hpe : pos L key = L.length := by omega
      rw [hpe] at kF
      have q1 : ((L.length : Int) == (L.length : Int)) = true := by simp
      clear hg hpe hlt hple
      generalize hw2 : (w.alloc (.cells #[ptr q, .pointer none] 108)).alloc (.cells #[.string ⟨#[]⟩, .string ⟨#[]⟩] 31) = w2 at *
      go_enter Try.func96, Try.ntmps96
      go_upto_region 2 with fail
      replace hw2 := Lib.hid hw2
      go_wp2_with fail
      refine kF.out.mono ?_; rintro e w3 ⟨rfl, hb3⟩
      have z0 := kc hb3 p0
      have z1 := kc hb3 p1
      have hl3 := hl.out.below hb3
      have f0 := hl3.frozen 0
      have f1 := hl3.frozen 1
      have hl4 := Lib.hid ((hl3.set 0 (.string ⟨#[]⟩)).set 1 (.string ⟨#[]⟩))
      have hB3 := hb.out.trans (hb3.mono hb.out.size)
      have hB4 := Lib.hid ((hB3.setCell (p := ⟨w.heap.size + 1, 0, none⟩) (by simp) (.string ⟨#[]⟩)).setCell (p := ⟨w.heap.size + 1, 1, none⟩) (by simp) (.string ⟨#[]⟩))
      have g0 := hl3.cell 0
      have g1 := hl3.cell 1
      have gl := hl3.lt
      clear p0 p1 hb3 hB3 hl3 kF
      go_wp2_with fail
      refine bodyPost_ret (results_cell_tmp_row rfl _ _ (w.heap.size + 1) _ _ _ _ rfl hl4.out Try.underlying31 rfl (by kernel_rfl) _ rfl) rfl ?_
      exact ⟨rfl, hB4.out⟩
  | h + 1, w, KK, q, kids, key, H, hk, h1, h6, hs => by
    obtain ⟨kids, rfl⟩ : ∃ x : List (T h), x = kids := ⟨kids, rfl⟩
    obtain ⟨_, v, hx, HP⟩ := H.inner
    have hk' : ∀ k ∈ kids, OkT h k ∧ 3 ≤ wideT h k ∧ wideT h k ≤ 6 := hk
    have h0 : 0 < kids.length := h1 (by omega)
    have hl6 : kids.length ≤ 6 := h6
    have hs' : Srt (List.flatMap (rowsT h) kids) := hs
    obtain ⟨b, off, cap, rfl, hbl, hcl, hcm, _⟩ := HP.at_ h0
    obtain ⟨e1, _, _⟩ := kid_at hk' h0 hs' key
    have hc : ceilT (h + 1) kids key = List.findSome? (fun k => ceilT h k key) (kids.drop (kidT h kids key)) := rfl
    rw [hc]
    obtain ⟨hr, hl, hb⟩ := two_new w 108 31 #[.pointer none, ptr q] #[.string ⟨#[]⟩, .string ⟨#[]⟩]
    have kK := kid_any (H.below (Below.drew hb)) key h0 (by omega)
    have d0 : ((w.alloc (.cells #[.pointer none, ptr q] 108)).alloc (.cells #[.string ⟨#[]⟩, .string ⟨#[]⟩] 31)).cell? ⟨w.heap.size, 0, none⟩ = some (.pointer none) := hr.cell 0
    have d1 : ((w.alloc (.cells #[.pointer none, ptr q] 108)).alloc (.cells #[.string ⟨#[]⟩, .string ⟨#[]⟩] 31)).drew.cell? ⟨w.heap.size, 1, none⟩ = some (ptr q) := hr.cell 1
    have d2 : ((w.alloc (.cells #[.pointer none, ptr q] 108)).alloc (.cells #[.string ⟨#[]⟩, .string ⟨#[]⟩] 31)).drew.cell? ⟨q, 2, none⟩ = some (.slice (some ⟨b, off, none⟩) kids.length cap) := kc hb (hx.cell 2)
    have hr2 := Lib.hid (Whole.drew hl)
    have hBx := Lib.hid (Below.drew hb)
    have htl : (kids.drop (kidT h kids key)).length = kids.length - kidT h kids key := List.length_drop
    have hHP := HP.drop' (n := kidT h kids key) (by omega) (by omega)
    have hts : ∀ j (hj : j < (kids.drop (kidT h kids key)).length), OkT h (kids.drop (kidT h kids key))[j] ∧ 3 ≤ wideT h (kids.drop (kidT h kids key))[j] ∧ wideT h (kids.drop (kidT h kids key))[j] ≤ 6 ∧ Srt (rowsT h (kids.drop (kidT h kids key))[j]) := fun j hj => by
      have hj2 : kidT h kids key + j < kids.length := by rw [List.length_drop] at hj; omega
      rw [List.getElem_drop]
      have h9 := hk' _ (List.getElem_mem hj2)
      exact ⟨h9.1, h9.2.1, h9.2.2, sub_srt hs' hj2⟩
    obtain ⟨b', off', cap', e, hbl', _, _, hat⟩ := hHP.at_ (by omega)
    rw [htl] at e
    injection e with e4 e5 e6
    injection e4 with e4
    injection e4 with e7 e8
    subst e7 e8
    have q1 : (kidT h kids key : Int) ≤ (kids.length : Int) := by omega
    have q2 : ¬ cap = kidT h kids key := by omega
    have q3 : kidT h kids key ≤ cap := by omega
    have q5 : ¬ (kids.length : Int) < (kidT h kids key : Int) := by omega
    generalize kids.drop (kidT h kids key) = ts at *
    have hsub : kids.length - kidT h kids key = ts.length := htl.symm
    generalize kidT h kids key = i at *
    have hts6 : ts.length ≤ 6 := by omega
    have IH := fun (W : World) (hW : Below w.heap.size w W) (j : Nat) (hj : j < ts.length) (q : Nat) (hp : PAt w KK h q ts[j]) => partCeil_any h W KK q ts[j] key (hp.below hW) (hts j hj).1 (fun _ => by have := (hts j hj).2.1; omega) (hts j hj).2.2.1 (hts j hj).2.2.2
    have hsome := fun (k : Nat) (hk : k < ts.length) (hz : ∀ j (hj : j < ts.length), j < k → ceilT h ts[j] key = none) (r : Row) (hr : ceilT h ts[k] key = some r) => findSome_at (g := fun k => ceilT h k key) hk hz hr
    have hnone := fun (hz : ∀ j (hj : j < ts.length), ceilT h ts[j] key = none) => findSome_none (g := fun k => ceilT h k key) hz
    generalize List.findSome? (fun k => ceilT h k key) ts = res at *
    replace kK := Lib.hid kK
    replace IH := Lib.hid IH
    replace hat := Lib.hid hat
    replace hsome := Lib.hid hsome
    replace hnone := Lib.hid hnone
    replace hsub := Lib.hid hsub
    clear hb hr hl hts hHP hx HP H hk hk' hs hs' hc e5 e6 htl
    simp only [pa, pb]
    go_enter Try.func96, Try.ntmps96
    go_upto_region 6 with fail
    generalize hw2 : (w.alloc (.cells #[.pointer none, ptr q] 108)).alloc (.cells #[.string ⟨#[]⟩, .string ⟨#[]⟩] 31) = w2 at *
    replace hw2 := Lib.hid hw2
    obtain ⟨n, hn⟩ : ∃ n, kids.length = n := ⟨_, rfl⟩
    rw [hn] at d2 q1 q5 hsub
    have c0 := d1
    have c1 := d2
    refine tl_begin (fun (w' : World) => (w'.cell? ⟨w.heap.size, 1, none⟩ = some (ptr q)) ∧ w'.cell? ⟨q, 2, none⟩ = some (.slice (some ⟨b, off, none⟩) n cap)) [] (by kernel_rfl) (⟨c0, c1⟩) (fun hHeld => ?_)
    refine tl_p (i := 0) (v := ?_) rfl (by rfl) (by kernel_rfl) (by kernel_rfl) (by kernel_rfl) (fun _ _ _ h => h) (by rfl) hHeld ?_ ?_
    rotate_left
    · intro w
      go_simp
      try (with_reducible rfl)
    try simp only [Act.put, List.setIfInBounds_toArray, List.set_cons_zero, List.set_cons_succ]
    refine tl_w (i := 1) (v := ?_) rfl (by rfl) (by kernel_rfl) (by kernel_rfl) (by kernel_rfl) (by kernel_rfl) (by kernel_rfl) (fun _ _ _ h => h) (by rfl) hHeld ?_ ?_
    rotate_left
    · intro w hSw
      try dsimp only at hSw
      go_simp
      try (with_reducible rfl)
    try simp only [Act.put, List.setIfInBounds_toArray, List.set_cons_zero, List.set_cons_succ]
    refine tl_p (i := 2) (v := ?_) rfl (by rfl) (by kernel_rfl) (by kernel_rfl) (by kernel_rfl) (fun _ _ _ h => h) (by rfl) hHeld ?_ ?_
    rotate_left
    · intro w
      go_simp
      try (with_reducible rfl)
    try simp only [Act.put, List.setIfInBounds_toArray, List.set_cons_zero, List.set_cons_succ]
    refine tl_p (i := 3) (v := ?_) rfl (by rfl) (by kernel_rfl) (by kernel_rfl) (by kernel_rfl) (fun _ _ _ h => h) (by rfl) hHeld ?_ ?_
    rotate_left
    · intro w
      go_simp
      try (with_reducible rfl)
    try simp only [Act.put, List.setIfInBounds_toArray, List.set_cons_zero, List.set_cons_succ]
    refine tl_w (i := 4) (v := ?_) rfl (by rfl) (by kernel_rfl) (by kernel_rfl) (by kernel_rfl) (by kernel_rfl) (by kernel_rfl) (fun _ _ _ h => h) (by rfl) hHeld ?_ ?_
    rotate_left
    · intro w hSw
      try dsimp only at hSw
      go_simp
      try (with_reducible rfl)
    try simp only [Act.put, List.setIfInBounds_toArray, List.set_cons_zero, List.set_cons_succ]
    refine tl_p (i := 5) (v := ?_) rfl (by rfl) (by kernel_rfl) (by kernel_rfl) (by kernel_rfl) (fun _ _ _ h => h) (by rfl) hHeld ?_ ?_
    rotate_left
    · intro w
      go_simp
      try (with_reducible rfl)
    try simp only [Act.put, List.setIfInBounds_toArray, List.set_cons_zero, List.set_cons_succ]
    refine tl_w (i := 6) (v := ?_) rfl (by rfl) (by kernel_rfl) (by kernel_rfl) (by kernel_rfl) (by kernel_rfl) (by kernel_rfl) (fun _ _ _ h => h) (by rfl) hHeld ?_ ?_
    rotate_left
    · intro w hSw
      try dsimp only at hSw
      go_simp
      try (with_reducible rfl)
    try simp only [Act.put, List.setIfInBounds_toArray, List.set_cons_zero, List.set_cons_succ]
    refine tl_p (i := 7) (v := ?_) rfl (by rfl) (by kernel_rfl) (by kernel_rfl) (by kernel_rfl) (fun _ _ _ h => h) (by rfl) hHeld ?_ ?_
    rotate_left
    · intro w
      go_simp
      try (with_reducible rfl)
    try simp only [Act.put, List.setIfInBounds_toArray, List.set_cons_zero, List.set_cons_succ]
    refine tl_p (i := 11) (v := ?_) rfl (by rfl) (by kernel_rfl) (by kernel_rfl) (by kernel_rfl) (fun _ _ _ h => h) (by rfl) hHeld ?_ ?_
    rotate_left
    · intro w
      go_simp
      try (with_reducible rfl)
    try simp only [Act.put, List.setIfInBounds_toArray, List.set_cons_zero, List.set_cons_succ]
    refine tl_do (i := 8) rfl (by kernel_rfl) (by rfl) (fun K hK => ?_)
    go_simp
    go_at_call 98
    refine kK.out.mono ?_; rintro e w3 ⟨rfl, hb3⟩
    have hc3 := And.intro (kc hb3 c0) (kc hb3 c1)
    have hr3 := Lib.hid (hr2.out.below hb3)
    have hB3 := Lib.hid (hBx.out.trans (hb3.mono hBx.out.size))
    try go_wp2_with fail
    refine hK.out _ _ (hc3) (fun hHeld1 => ?_)
    clear hK K hHeld
    have hHeld := hHeld1
    clear hHeld1
    try simp only [Act.put, List.setIfInBounds_toArray, List.set_cons_zero, List.set_cons_succ]
    refine tl_p (i := 9) (v := ?_) rfl (by rfl) (by kernel_rfl) (by kernel_rfl) (by kernel_rfl) (fun _ _ _ h => h) (by rfl) hHeld ?_ ?_
    rotate_left
    · intro w
      go_simp
      try (with_reducible rfl)
    try simp only [Act.put, List.setIfInBounds_toArray, List.set_cons_zero, List.set_cons_succ]
    refine tl_p (i := 10) (v := ?_) rfl (by rfl) (by kernel_rfl) (by kernel_rfl) (by kernel_rfl) (fun _ _ _ h => h) (by rfl) hHeld ?_ ?_
    rotate_left
    · intro w
      go_simp
      try (with_reducible rfl)
    try simp only [Act.put, List.setIfInBounds_toArray, List.set_cons_zero, List.set_cons_succ]
    refine till_done (by kernel_rfl) ?_ _
    clear hHeld
    rw [hsub.out]
    have hn2 := Lib.hid (fun (x : Nat) (hx : x = n) => hx)
    clear hsub hn kK hc3 d1 d2 c0 c1 hb3 q1 q2 q3 q5 hr2 hBx d0
    go_upto_region 7 with fail
    go_loopw [53] (fun iv wr => ∃ k : Nat, k ≤ ts.length ∧ iv = .int .i64 k ∧ Whole wr (w.heap.size + 1) 31 #[.string ⟨#[]⟩, .string ⟨#[]⟩] ∧ Below w.heap.size w wr ∧ ∀ j (hj : j < ts.length), j < k → ceilT h ts[j] key = none) (fun iv _ => ts.length - (intOf iv).toNat)
    case atStart => exact ⟨0, by omega, rfl, hr3.out, hB3.out, fun j _ hj => absurd hj (Nat.not_lt_zero _)⟩
    case round =>
      clear hr3 hB3
      obtain ⟨k, hk, rfl, hr, hB, hno⟩ := hrel
      replace hno := Lib.hid hno
      by_cases hlt : k < ts.length
      · have q1 : (k : Int) < (ts.length : Int) := by omega
        obtain ⟨qk, a1, a2, a3⟩ := hat.out k hlt
        have p0 := (hB.cell (p := ⟨b, off + i * 2 + k * 2, none⟩) hbl).trans a2
        have p1 := (hB.cell (p := ⟨b, off + i * 2 + k * 2 + 1, none⟩) hbl).trans a3
        have hBa := hB.alloc hB.size (.cells #[.pointer (pa h qk), .pointer (pb h qk)] 108)
        have kI := IH.out _ hBa k hlt qk a1
        have hra := Whole.alloc hr (.cells #[.pointer (pa h qk), .pointer (pb h qk)] 108)
        generalize pa h qk = a0 at *
        generalize pb h qk = b0 at *
        cases hck : ceilT h ts[k] key with
        | none =>
          have hno2 : ∀ j (hj : j < ts.length), j < k + 1 → ceilT h ts[j] key = none := fun j hj hjk => by
            by_cases hjk2 : j = k
            · subst hjk2; exact hck
            · exact hno.out j hj (by omega)
          rw [hck] at kI
          simp only [resC] at kI
          replace hck := Lib.hid hck
          replace hno2 := Lib.hid hno2
          replace kI := Lib.hid kI
          replace hBa := Lib.hid hBa
          replace hra := Lib.hid hra
          clear a1 a2 a3 hr hB
          go_wp2_with fail
          refine kI.out.mono ?_; rintro e w5 ⟨rfl, hb5⟩
          have hr5 := Lib.hid (Whole.alloc (hra.out.below hb5) (.cells #[.string ⟨#[]⟩, .string ⟨#[]⟩] 31))
          have hB5 := hBa.out.trans (hb5.mono hBa.out.size)
          have hB6 := Lib.hid (hB5.alloc hB5.size (.cells #[.string ⟨#[]⟩, .string ⟨#[]⟩] 31))
          clear kI hb5 hB5
          go_wp2_with fail
          go_roundw
          case rel => exact ⟨k + 1, by omega, by go_num, hr5.out, hB6.out, hno2.out⟩
          case measure => simp [intOf]; omega
        | some r =>
          have hres := hsome.out k hlt hno.out r hck
          subst hres
          rw [hck] at kI
          obtain ⟨rk, rv⟩ := r
          simp only [resC] at kI ⊢
          replace hck := Lib.hid hck
          replace kI := Lib.hid kI
          replace hBa := Lib.hid hBa
          replace hra := Lib.hid hra
          clear a1 a2 a3 hr hB
          go_wp2_with fail
          refine kI.out.mono ?_; rintro e w5 ⟨rfl, hb5⟩
          have hr5 := Whole.alloc (hra.out.below hb5) (.cells #[.string rk, .string rv] 31)
          have hB5 := hBa.out.trans (hb5.mono hBa.out.size)
          have hB6 := hB5.alloc hB5.size (.cells #[.string rk, .string rv] 31)
          have hn5 := Whole.new w5 31 #[.string rk, .string rv]
          replace hr5 := Lib.hid hr5
          replace hB6 := Lib.hid hB6
          replace hn5 := Lib.hid hn5
          clear kI hb5 hB5
          go_upto_region 11 with fail
          generalize w5.heap.size = g5 at *
          generalize w5.alloc (.cells #[.string rk, .string rv] 31) = w6 at *
          have f0 := hr5.out.frozen 0
          have f1 := hr5.out.frozen 1
          have g0 := hr5.out.cell 0
          have g1 := hr5.out.cell 1
          have gl := hr5.out.lt
          have y0 := hn5.out.cell 0
          have y1 := hn5.out.cell 1
          have hr7 := Lib.hid ((hr5.out.set 0 (.string rk)).set 1 (.string rv))
          have hB7 := Lib.hid ((hB6.out.setCell (p := ⟨w.heap.size + 1, 0, none⟩) (by simp) (.string rk)).setCell (p := ⟨w.heap.size + 1, 1, none⟩) (by simp) (.string rv))
          go_wp2_with fail
          try simp only [Exit.inBlock, Exit.then]
          refine bodyPost_ret (results_cell_tmp_row rfl _ _ (w.heap.size + 1) _ _ _ _ rfl hr7.out Try.underlying31 rfl (by kernel_rfl) _ rfl) rfl ?_
          exact ⟨rfl, hB7.out⟩
      · obtain rfl : k = ts.length := by omega
        have q1 : ¬ (ts.length : Int) < (ts.length : Int) := by omega
        have hres := hnone.out (fun j hj => hno.out j hj hj)
        subst hres
        have f0 := hr.frozen 0
        have f1 := hr.frozen 1
        have g0 := hr.cell 0
        have g1 := hr.cell 1
        have gl := hr.lt
        have hr7 := Lib.hid ((hr.set 0 (.string ⟨#[]⟩)).set 1 (.string ⟨#[]⟩))
        have hB7 := Lib.hid ((hB.setCell (p := ⟨w.heap.size + 1, 0, none⟩) (by simp) (.string ⟨#[]⟩)).setCell (p := ⟨w.heap.size + 1, 1, none⟩) (by simp) (.string ⟨#[]⟩))
        clear hr hB
        go_wp2_with fail
        refine bodyPost_ret (results_cell_tmp_row rfl _ _ (w.heap.size + 1) _ _ _ _ rfl hr7.out Try.underlying31 rfl (by kernel_rfl) _ rfl) rfl ?_
        exact ⟨rfl, hB7.out⟩
end Go.Proofs.Ytegomkgfmaclkaa
