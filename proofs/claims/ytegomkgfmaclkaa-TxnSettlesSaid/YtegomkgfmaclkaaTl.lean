/-
  tree: part.cut by its contract, for parts of every height.
-/
import Derived.Test.YtegomkgfmaclkaaTi
set_option linter.unusedVariables false
set_option linter.unusedSimpArgs false
namespace Go.Proofs.Ytegomkgfmaclkaa
open Go.RowKit Go.Proofs.PosteOrd Go.Proofs.PosteMem

theorem view_lt' {W : World} {sz n : Nat} {v : Value} {xs : List Value} (h : View W sz v n xs) (h0 : 0 < n) (hs : 0 < sz) : ∀ b, blockOf v = some b → b < W.heap.size := fun b hb => by
  obtain ⟨b', off, cap, e, _, _, hlt, _⟩ := h.at_ (Nat.mul_pos h0 hs)
  rw [e] at hb
  have hb' : some b' = some b := hb
  injection hb' with hb'
  omega
/-- All its blocks are there. -/
theorem PAt.lt' {W : World} {K : Nat → Prop} : ∀ (h q : Nat) (t : T h), PAt W K h q t → PAt W (fun b => K b ∧ b < W.heap.size) h q t
  | 0, q, l, H => by
    obtain ⟨h1, v, h2, h3, h4⟩ := H
    exact ⟨⟨h1, h2.lt⟩, v, h2, h3, fun h0 b hb => ⟨h4 h0 b hb, view_lt' h3 h0 (by decide) b hb⟩⟩
  | h + 1, q, kids, H => by
    obtain ⟨h1, v, qs, h2, h3, h4, h5, h6⟩ := H
    exact ⟨⟨h1, h2.lt⟩, v, qs, h2, h3, h4, fun h0 b hb => ⟨h5 h0 b hb, view_lt' h4 h0 (by decide) b hb⟩, fun i a t ht => PAt.lt' h _ t (h6 i a t ht)⟩
theorem PL.lt {W : World} {K : Nat → Prop} {h : Nat} {v : Value} {ts : List (T h)} (H : PL W K h v ts) : PL W (fun b => K b ∧ b < W.heap.size) h v ts := by
  obtain ⟨qs, k1, k2, k3, k4⟩ := H
  exact ⟨qs, k1, k2, fun h0 b hb => ⟨k3 h0 b hb, view_lt' k2 h0 (by decide) b hb⟩, fun i a b => PAt.lt' h _ _ (k4 i a b)⟩
theorem PL.mono {W : World} {K K' : Nat → Prop} {h : Nat} {v : Value} {ts : List (T h)} (H : PL W K h v ts) (hK : ∀ b, K b → K' b) : PL W K' h v ts := by
  obtain ⟨qs, k1, k2, k3, k4⟩ := H
  exact ⟨qs, k1, k2, fun h0 b hb => hK b (k3 h0 b hb), fun i a b => PAt.mono hK h _ _ (k4 i a b)⟩
theorem cloneL2 {w : World} {K : Nat → Prop} {h : Nat} {v : Value} {ts : List (T h)} (H : PL w K h v ts) (hl : ts.length ≤ 1000000) :
    Calls Try.prog 103 #[v] w fun e w' => ∃ (v' : Value) (qs : List Nat), e = .returned v' ∧ qs.length = ts.length ∧ w'.ownsRow w.heap.size 108 2 v' ts.length (qs.flatMap (pcs h)) ∧ (∀ i (h1 : i < qs.length) (h2 : i < ts.length), PAt w' (fun b => K b ∧ b < w.heap.size) h qs[i] ts[i]) ∧ Below w.heap.size w w' := by
  obtain ⟨qs, k1, k2, k3, k4⟩ := H.lt
  refine (cloneP w h v qs (by rw [k1]; exact k2) (by omega)).mono fun e w' ⟨v', h1, h2, h3⟩ => ?_
  rw [k1] at h2
  exact ⟨v', qs, h1, k1, h2, fun i a b => (k4 i a b).below h3, h3⟩
theorem own_part {W : World} {B h g n G : Nat} {qs : List Nat} (ho : W.ownsRow B 108 2 (.slice (some ⟨g, 0, none⟩) n G) n (qs.flatMap (pcs h))) (i : Nat) (hi : i < qs.length) (hn : qs.length = n) : W.cell? ⟨g, i * 2, none⟩ = some (.pointer (pa h qs[i])) ∧ W.cell? ⟨g, i * 2 + 1, none⟩ = some (.pointer (pb h qs[i])) := by
  have h0 := own_cell ho (i * 2) (by omega)
  have h1 := own_cell ho (i * 2 + 1) (by omega)
  have e0 := flatMap_at (pcs h) 2 (pcs_len h) qs i hi 0 (by decide)
  have e1 := flatMap_at (pcs h) 2 (pcs_len h) qs i hi 1 (by decide)
  rw [Nat.add_zero] at e0
  rw [h0, h1, ← List.getElem?_eq_getElem, ← List.getElem?_eq_getElem, e0, e1]
  exact ⟨rfl, rfl⟩
theorem pcs_set (h : Nat) (qs : List Nat) (i qc : Nat) (hi : i < qs.length) : ((qs.flatMap (pcs h)).set (i * 2) (.pointer (pa h qc))).set (i * 2 + 1) (.pointer (pb h qc)) = (qs.set i qc).flatMap (pcs h) := by
  induction qs generalizing i with
  | nil => exact absurd hi (Nat.not_lt_zero _)
  | cons q qs ih =>
    rcases i with _ | i
    · rfl
    · have := ih i (by simp at hi; omega)
      rw [List.set_cons_succ, List.flatMap_cons, List.flatMap_cons, ← this]
      rw [show (i + 1) * 2 = i * 2 + 1 + 1 by omega]
      rfl
theorem keeps_set {C : Nat → Prop} {w : World} {g : Nat} (hg : ¬ C g) (i j : Nat) (u u' : Value) : Keeps C w ((w.setCell ⟨g, i, none⟩ u).setCell ⟨g, j, none⟩ u') :=
  ⟨fun b => b = g, ((Upd.refl (fun b => b = g) w).setCell (p := ⟨g, i, none⟩) (.inr rfl) u).setCell (p := ⟨g, j, none⟩) (.inr rfl) u', fun b hb e => hg (e ▸ hb)⟩
set_option maxRecDepth 100000 in
set_option maxHeartbeats 8000000 in
theorem partCut_any : ∀ (h : Nat) (w : World) (KK : Nat → Prop) (q : Nat) (t : T h) (key : ByteArray), PAt w KK h q t → OkT h t → (1 ≤ h → 2 ≤ wideT h t) → wideT h t ≤ 6 → Srt (rowsT h t) → (rowsT h t).length ≤ 900000 → (∀ b, w.heap.size ≤ b → KK b) →
    Calls Try.prog 83 #[.agg #[.pointer (pa h q), .pointer (pb h q)], .string key] w fun e w' => ∃ q', e = .returned (.agg #[.pointer (pa h q'), .pointer (pb h q')]) ∧ PAt w' KK h q' (cutT h t key) ∧ Below w.heap.size w w'
  | 0, w, KK, q, L, key, H, _, _, h6, _, hm, hN => by
    obtain ⟨L, rfl⟩ : ∃ x : List Row, x = L := ⟨L, rfl⟩
    obtain ⟨_, v, hx, hv, _⟩ := H.leaf
    have hL : L.length ≤ 6 := h6
    obtain ⟨hr, hl, hb⟩ := two_new w 108 108 #[ptr q, .pointer none] #[.pointer none, .pointer none]
    have kC := Lib.hid (cut_any _ v L key _ _ (View.below hv hb) (by omega) (found_at L key))
    obtain ⟨A, cap, rfl, _, _⟩ := hv.cells
    have hc : cutT 0 L key = cutS L key := rfl
    rw [hc]
    have hlen : (cutS L key).length ≤ 6 := by rw [cutS_len]; split <;> omega
    have hS : cutL L (pos L key) (hit L key) = cutS L key := rfl
    rw [hS] at kC
    have p0 : ((w.alloc (.cells #[ptr q, .pointer none] 108)).alloc (.cells #[.pointer none, .pointer none] 108)).cell? ⟨w.heap.size, 0, none⟩ = some (ptr q) := hr.cell 0
    have p1 : ((w.alloc (.cells #[ptr q, .pointer none] 108)).alloc (.cells #[.pointer none, .pointer none] 108)).cell? ⟨q, 2, none⟩ = some (.slice A L.length cap) := kc hb (hx.cell 2)
    generalize cutS L key = L2 at *
    have hb_size := Lib.hid hb.size
    replace hb := Lib.hid hb
    replace hl := Lib.hid hl
    replace hN := Lib.hid hN
    clear hx hv H hc h6 hr hS
    simp only [pa, pb]
    generalize hw2 : (w.alloc (.cells #[ptr q, .pointer none] 108)).alloc (.cells #[.pointer none, .pointer none] 108) = w2 at *
    go_enter Try.func83, Try.ntmps83
    go_upto_region 2 with fail
    replace hw2 := Lib.hid hw2
    go_wp2_with fail
    refine kC.out.mono ?_; rintro e w3 ⟨v3, rfl, ho3, hb3⟩
    have hl3 := hl.out.below hb3
    have hB3 := hb.out.trans (hb3.mono hb.out.size)
    have hls := hl3.lt
    have hs2 := hl.out.lt
    have kL := Lib.hid (leafOf_part (K := fun b => KK b ∧ b ≠ w.heap.size + 1) (View.of_own ho3) (fun _ b hb => by have h9 := (own_lt ho3 ((block_own v3).symm.trans hb)).1; exact ⟨hN.out b (Nat.le_trans hb_size.out h9), by omega⟩) (fun b hb => ⟨hN.out b (Nat.le_trans hB3.size hb), by omega⟩))
    obtain ⟨A3, c3, rfl, _⟩ := own_shape ho3
    replace hl3 := Lib.hid hl3
    replace hB3 := Lib.hid hB3
    clear ho3 hb3 kC p0 p1
    go_wp2_with fail
    refine kL.out.mono ?_; rintro e w4 ⟨q4, rfl, hP4, hb4⟩
    have hl4 := hl3.out.below hb4
    have hB4 := hB3.out.trans (hb4.mono hB3.out.size)
    have f0 := hl4.frozen 0
    have f1 := hl4.frozen 1
    have g0 := hl4.cell 0
    have g1 := hl4.cell 1
    have gl := hl4.lt
    have hr7 := Lib.hid ((hl4.set 0 (.pointer (pa 0 q4))).set 1 (.pointer (pb 0 q4)))
    have hB7 := Lib.hid ((hB4.setCell (p := ⟨w.heap.size + 1, 0, none⟩) (by simp) (.pointer (pa 0 q4))).setCell (p := ⟨w.heap.size + 1, 1, none⟩) (by simp) (.pointer (pb 0 q4)))
    have hP7 := Lib.hid (PAt.mono (K' := KK) (fun b hb => hb.1) 0 q4 _ (PAt.keep (keeps_set (g := w.heap.size + 1) (fun hc => hc.2 rfl) 0 1 (.pointer (pa 0 q4)) (.pointer (pb 0 q4))) 0 q4 _ hP4))
    clear hP4 hb4 hl4 hB4 kL hl3 hB3
    generalize ha : pa 0 q4 = a0 at *
    generalize hb0 : pb 0 q4 = b0 at *
    replace ha := Lib.hid ha
    replace hb0 := Lib.hid hb0
    go_wp2_with fail
    refine bodyPost_ret (results_cell_row rfl _ _ (w.heap.size + 1) _ _ _ _ rfl hr7.out Try.underlying108 rfl (by kernel_rfl)) rfl ?_
    exact ⟨q4, by rw [← ha.out, ← hb0.out]; rfl, hP7.out, hB7.out⟩
  | h + 1, w, KK, q, kids, key, H, hk, h1, h6, hs, hm, hN => by
    obtain ⟨kids, rfl⟩ : ∃ x : List (T h), x = kids := ⟨kids, rfl⟩
    obtain ⟨_, v, hx, HP⟩ := H.inner
    have hk' : ∀ k ∈ kids, OkT h k ∧ 3 ≤ wideT h k ∧ wideT h k ≤ 6 := hk
    have h2k : 2 ≤ kids.length := h1 (by omega)
    have hl6 : kids.length ≤ 6 := h6
    have hs' : Srt (List.flatMap (rowsT h) kids) := hs
    have hm' : (List.flatMap (rowsT h) kids).length ≤ 900000 := hm
    obtain ⟨b, off, cap, rfl, hbl, hcl, hcm, hat⟩ := HP.at_ (by omega)
    obtain ⟨e1, _, _⟩ := kid_at hk' (by omega) hs' key
    have hfin := cutT_ok (h + 1) kids key hk (fun _ => h2k) h6 hs
    rw [cutT_succ e1] at hfin ⊢
    have hki := hk' _ (List.getElem_mem e1)
    have hck := cutT_ok h kids[kidT h kids key] key hki.1 (fun _ => by omega) hki.2.2 (sub_srt hs' e1)
    have hsl : ∀ j (hj : j < kids.length), (rowsT h kids[j]).length ≤ 900000 := fun j hj => by
      rw [flat_split (h := h) hj, List.length_append, List.length_append] at hm'
      omega
    obtain ⟨hr, hl, hb⟩ := two_new w 108 108 #[.pointer none, ptr q] #[.pointer none, .pointer none]
    have kK := Lib.hid (kid_any (H.below hb) key (by omega) (by omega))
    have d0 : ((w.alloc (.cells #[.pointer none, ptr q] 108)).alloc (.cells #[.pointer none, .pointer none] 108)).cell? ⟨w.heap.size, 0, none⟩ = some (.pointer none) := hr.cell 0
    have d1 : ((w.alloc (.cells #[.pointer none, ptr q] 108)).alloc (.cells #[.pointer none, .pointer none] 108)).cell? ⟨w.heap.size, 1, none⟩ = some (ptr q) := hr.cell 1
    have d2 : ((w.alloc (.cells #[.pointer none, ptr q] 108)).alloc (.cells #[.pointer none, .pointer none] 108)).cell? ⟨q, 2, none⟩ = some (.slice (some ⟨b, off, none⟩) kids.length cap) := kc hb (hx.cell 2)
    have hcl6 : kids.length ≤ 1000000 := by omega
    obtain ⟨K0, hK0⟩ : ∃ K0 : Nat → Prop, K0 = fun b => KK b ∧ b ≠ w.heap.size + 1 := ⟨_, rfl⟩
    have hK1 : ∀ b, K0 b → KK b := fun b hb => by rw [hK0] at hb; exact hb.1
    have hK2 : ¬ K0 (w.heap.size + 1) := fun hb => by rw [hK0] at hb; exact hb.2 rfl
    have hN0 : ∀ b, w.heap.size + 2 ≤ b → K0 b := fun b hb => by rw [hK0]; exact ⟨hN b (by omega), by omega⟩
    have hP0 : PL w K0 h (.slice (some ⟨b, off, none⟩) kids.length cap) kids := HP.lt.mono fun b hb => by rw [hK0]; exact ⟨hb.1, by omega⟩
    have hbB := hb.size
    have htot : (List.flatMap (rowsT h) (kids.set (kidT h kids key) (cutT h kids[kidT h kids key] key))).length ≤ 900000 := by
      rw [flat_set e1, hck.1, List.length_append, List.length_append]
      rw [flat_split (h := h) e1, List.length_append, List.length_append] at hm'
      have := cutS_len (rowsT h kids[kidT h kids key]) key
      split at this <;> omega
    generalize kidT h kids key = i at *
    have kC := fun (W : World) (hW : Below w.heap.size w W) => cloneL2 (hP0.below hW) hcl6
    have kI := fun (W : World) (g : Nat) (hW : w.heap.size + 2 ≤ g) (hg2 : g < W.heap.size) (q : Nat) (hp : PAt W (fun b => K0 b ∧ b ≠ g) h q kids[i]) => partCut_any h W (fun b => K0 b ∧ b ≠ g) q kids[i] key hp hki.1 (fun _ => by omega) hki.2.2 (sub_srt hs' e1) (hsl i e1) (fun b hb => ⟨hN0 b (by omega), by omega⟩)
    have hs2 : ((w.alloc (.cells #[.pointer none, ptr q] 108)).alloc (.cells #[.pointer none, .pointer none] 108)).heap.size = w.heap.size + 2 := by simp
    replace hb := Lib.hid hb
    replace hl := Lib.hid hl
    replace hN0 := Lib.hid hN0
    replace hK1 := Lib.hid hK1
    replace hK2 := Lib.hid hK2
    replace kC := Lib.hid kC
    replace kI := Lib.hid kI
    replace hfin := Lib.hid hfin
    replace hck := Lib.hid hck
    replace hk' := Lib.hid hk'
    replace htot := Lib.hid htot
    clear hx H h6 hr hs hs' hk h1 hm hm' hat hP0 HP hN hK0 hsl hki
    generalize cutT h kids[i] key = c at *
    generalize hw2 : (w.alloc (.cells #[.pointer none, ptr q] 108)).alloc (.cells #[.pointer none, .pointer none] 108) = w2 at *
    show Calls Try.prog _ #[.agg #[.pointer none, ptr q], .string key] w _
    go_enter Try.func83, Try.ntmps83
    go_upto_region 4 with fail
    replace hw2 := Lib.hid hw2
    go_wp2_with fail
    refine kK.out.mono ?_; rintro e w3 ⟨rfl, hb3⟩
    have hB3 := hb.out.trans (hb3.mono hb.out.size)
    have kC3 := Lib.hid (kC.out w3 hB3)
    have c1 := kc hb3 d1
    have c2 := kc hb3 d2
    have hl3 := Lib.hid (hl.out.below hb3)
    have hs3 := hb3.size
    rw [hs2] at hs3
    replace hB3 := Lib.hid hB3
    replace hs2 := Lib.hid hs2
    clear kK hb3 d0 d1 d2 kC hl hb
    go_wp2_with fail
    refine kC3.out.mono ?_; rintro e w4 ⟨v4, qs, rfl, hql, ho4, hq4, hb4⟩
    have hB4 := Lib.hid (hB3.out.trans (hb4.mono hB3.out.size))
    have hl4 := Lib.hid (hl3.out.below hb4)
    obtain ⟨g, G, rfl, hG1, hG2, hg1, hg2⟩ := own_some ho4 (by omega)
    have hq5 : ∀ j (h1 : j < qs.length) (h2 : j < kids.length), PAt w4 (fun b => K0 b ∧ b ≠ g) h qs[j] kids[j] := fun j a b => PAt.mono (fun x hx => ⟨hx.1, by omega⟩) h _ _ (hq4 j a b)
    have kI4 : Calls Try.prog 83 #[.agg #[.pointer (pa h (qs[i]'(by omega))), .pointer (pb h (qs[i]'(by omega)))], .string key] w4 _ := kI.out w4 g (by omega) hg2 _ (hq5 i (by omega) e1)
    obtain ⟨y0, y1⟩ := own_part ho4 i (by omega) hql
    have q1 : (i : Int) < (kids.length : Int) := by omega
    generalize pa h (qs[i]'(by omega)) = a0 at *
    generalize pb h (qs[i]'(by omega)) = b0 at *
    replace ho4 := Lib.hid ho4
    replace hq5 := Lib.hid hq5
    replace kI4 := Lib.hid kI4
    replace hql := Lib.hid hql
    clear kC3 hq4 hb4 kI c1 c2 hl3 hB3
    go_wp2_with fail
    refine kI4.out.mono ?_; rintro e w5 ⟨qc, rfl, hPc, hb5⟩
    have ho5 := own_below ho4.out hb5
    have hB5 := hB4.out.trans (hb5.mono hB4.out.size)
    have hl5 := hl4.out.below hb5
    have hgl := Nat.lt_of_lt_of_le hg2 hb5.size
    have f0 := own_free ho5 (i * 2)
    have f1 := own_free ho5 (i * 2 + 1)
    have z0 := kc hb5 y0
    have z1 := kc hb5 y1
    have ho6 := own_set (own_set ho5 (i * 2) (by omega) (.pointer (pa h qc))) (i * 2 + 1) (by omega) (.pointer (pb h qc))
    rw [pcs_set h qs i qc (by rw [hql.out]; exact e1)] at ho6
    have hks := keeps_set (w := w5) (C := fun b => K0 b ∧ b ≠ g) (g := g) (fun hc => hc.2 rfl) (i * 2) (i * 2 + 1) (.pointer (pa h qc)) (.pointer (pb h qc))
    have hq6 : ∀ j (h1 : j < (qs.set i qc).length) (h2 : j < (kids.set i c).length), PAt ((w5.setCell ⟨g, i * 2, none⟩ (.pointer (pa h qc))).setCell ⟨g, i * 2 + 1, none⟩ (.pointer (pb h qc))) K0 h (qs.set i qc)[j] (kids.set i c)[j] := fun j a b => by
      refine PAt.mono (fun x hx => hx.1) h _ _ (PAt.keep hks h _ _ ?_)
      by_cases hj : j = i
      · subst hj
        rw [List.getElem_set_self, List.getElem_set_self]
        exact hPc
      · rw [List.getElem_set_ne (fun e => hj e.symm), List.getElem_set_ne (fun e => hj e.symm)]
        exact (hq5.out j (by simpa using a) (by simpa using b)).below hb5
    have hl6 := (hl5.other (p := ⟨g, i * 2, none⟩) (by simp only; omega) (.pointer (pa h qc))).other (p := ⟨g, i * 2 + 1, none⟩) (by simp only; omega) (.pointer (pb h qc))
    have hB6 := (hB5.setCell (p := ⟨g, i * 2, none⟩) (by simp only; omega) (.pointer (pa h qc))).setCell (p := ⟨g, i * 2 + 1, none⟩) (by simp only; omega) (.pointer (pb h qc))
    have hsz6 : w5.heap.size = ((w5.setCell ⟨g, i * 2, none⟩ (.pointer (pa h qc))).setCell ⟨g, i * 2 + 1, none⟩ (.pointer (pb h qc))).heap.size := by simp
    have hPc6 : PAt ((w5.setCell ⟨g, i * 2, none⟩ (.pointer (pa h qc))).setCell ⟨g, i * 2 + 1, none⟩ (.pointer (pb h qc))) K0 h qc c := PAt.mono (fun x hx => hx.1) h _ _ (PAt.keep hks h _ _ hPc)
    have hql6 : (qs.set i qc).length = (kids.set i c).length := by rw [List.length_set, List.length_set]; exact hql.out
    have hkl6 : (kids.set i c).length = kids.length := List.length_set
    rw [← hkl6] at ho6
    have kW : Calls Try.prog 104 #[.agg #[.pointer (pa h qc), .pointer (pb h qc)]] _ _ := wide_any hPc6
    obtain ⟨x0, x1⟩ := own_part ho6 i (by rw [List.length_set, hql.out]; exact e1) hql6
    rw [List.getElem_set_self] at x0 x1
    replace ho6 := Lib.hid ho6
    replace hq6 := Lib.hid hq6
    replace hl6 := Lib.hid hl6
    replace hB6 := Lib.hid hB6
    replace hsz6 := Lib.hid hsz6
    replace hql6 := Lib.hid hql6
    replace kW := Lib.hid kW
    replace hkl6 := Lib.hid hkl6
    clear hPc6 hks hPc kI4 ho5 hB5 hl5 hq5 hl4 hB4 ho4 y0 y1 hb5
    generalize pa h qc = a1 at *
    generalize pb h qc = b1 at *
    go_upto_region 7 with fail
    generalize hw6 : (w5.setCell ⟨g, i * 2, none⟩ (.pointer a1)).setCell ⟨g, i * 2 + 1, none⟩ (.pointer b1) = w6 at *
    replace hw6 := Lib.hid hw6
    clear f0 f1 z0 z1
    have hg6 : g < w6.heap.size := by have := hsz6.out; omega
    clear hgl hg2
    go_wp2_with fail
    refine kW.out.mono ?_; rintro e w7 ⟨rfl, hb7⟩
    have ho7 := Lib.hid (own_below ho6.out hb7)
    have hq7 := Lib.hid (fun j h1 h2 => (hq6.out j h1 h2).below hb7)
    have hl7 := Lib.hid (hl6.out.below hb7)
    have hB7 := Lib.hid (hB6.out.trans (hb7.mono hB6.out.size))
    have hs7 := hb7.size
    clear kW hb7 ho6 hq6 hl6 hB6 x0 x1
    have hki := hk'.out _ (List.getElem_mem e1)
    have hcc := cutK_ok hk'.out h2k hl6 e1 hck.out.2.1 (by have := hck.out.2.2.1; omega) (by have := hck.out.2.2.2; omega)
    have hrr : (List.flatMap (rowsT h) (cutK h kids i c)).length ≤ 1000000 := by rw [hcc.1]; have := htot.out; omega
    have hc0 : 0 < (cutK h kids i c).length := by omega
    have hc1 : (cutK h kids i c).length ≤ 1000000 := by omega
    have hcw : wideT h c ≤ 6 := by have := hck.out.2.2.2; omega
    have hcw2 : 2 ≤ wideT h c := by have := hck.out.2.2.1; omega
    have hti : ∀ (hj : i < (kids.set i c).length), (kids.set i c)[i] = c := fun hj => List.getElem_set_self _
    have htj : ∀ j (hj : j < (kids.set i c).length), j ≠ i → wideT h (kids.set i c)[j] ≤ 6 ∧ 3 ≤ wideT h (kids.set i c)[j] := fun j hj hji => by
      rw [List.getElem_set_ne (fun e => hji e.symm)]
      have := hk'.out _ (List.getElem_mem (show j < kids.length by simpa using hj))
      exact ⟨this.2.2, this.2.1⟩
    have hrt := htot.out
    by_cases hw3 : wideT h c < 3
    · obtain ⟨ts, hts⟩ : ∃ ts, kids.set i c = ts := ⟨_, rfl⟩
      obtain ⟨f, hf⟩ : ∃ f, min i (kids.length - 2) = f := ⟨_, rfl⟩
      rw [hts] at ho7 hkl6 hql6 hti htj hrt
      have hkl := hkl6.out
      have hf2 : f + 2 ≤ ts.length := by omega
      have hcutE : cutK h kids i c = ts.take f ++ joinT h (ts[f]'(by omega)) (ts[f + 1]'(by omega)) ++ ts.drop (f + 2) := cutK_small hw3 hts hf (by omega)
      have hq8 : ∀ j (h1 : j < (qs.set i qc).length) (h2 : j < ts.length), PAt w7 K0 h (qs.set i qc)[j] ts[j] := by
        subst hts
        exact hq7.out
      rw [hcutE] at hrr hc0 hc1
      generalize qs.set i qc = qt at *
      have hfs : f = i ∨ f + 1 = i := by omega
      have hwa : 1 ≤ wideT h (ts[f]'(by omega)) ∧ wideT h (ts[f]'(by omega)) + wideT h (ts[f + 1]'(by omega)) ≤ 12 := by
        rcases hfs with e | e
        · have e9 : wideT h (ts[f]'(by omega)) = wideT h c := by subst e; rw [hti]
          have := htj (f + 1) (by omega) (by omega)
          omega
        · have e9 : wideT h (ts[f + 1]'(by omega)) = wideT h c := by subst e; rw [hti]
          have := htj f (by omega) (by omega)
          omega
      have hra : (rowsT h (ts[f]'(by omega))).length + (rowsT h (ts[f + 1]'(by omega))).length ≤ 1000000 := by
        rw [flat_two (h := h) (ks := ts) (f := f) (by omega)] at hrt
        simp only [List.length_append] at hrt
        omega
      have hPL : PL w7 K0 h (.slice (some ⟨g, 0, none⟩) ts.length G) ts := PL.own ho7.out hql6.out (fun b hb => hN0.out b (by omega)) hq8
      obtain ⟨x0, x1⟩ := own_part ho7.out f (by rw [hql6.out]; omega) hql6.out
      obtain ⟨x2, x3⟩ := own_part ho7.out (f + 1) (by rw [hql6.out]; omega) hql6.out
      have hN2 : ∀ b, w7.heap.size ≤ b → K0 b := fun b hb => hN0.out b (by omega)
      have kJ : Calls Try.prog 105 #[.agg #[.pointer (pa h (qt[f]'(by rw [hql6.out]; omega))), .pointer (pb h (qt[f]'(by rw [hql6.out]; omega)))], .agg #[.pointer (pa h (qt[f + 1]'(by rw [hql6.out]; omega))), .pointer (pb h (qt[f + 1]'(by rw [hql6.out]; omega)))]] w7.drew _ := join_any h w7.drew K0 _ _ _ _ ((hq8 f (by rw [hql6.out]; omega) (by omega)).below (Below.drew (Below.refl _ _))) ((hq8 (f + 1) (by rw [hql6.out]; omega) (by omega)).below (Below.drew (Below.refl _ _))) hwa.1 hwa.2 hra hN2
      have h1 := Lib.hid ((hPL.take (n := f) (by omega)).below (Below.drew (Below.refl _ _)))
      have hda := fun hc => (hPL.drop' (n := f + 2) (by omega) hc).below (Below.drew (Below.refl w7.heap.size w7))
      have hdb := fun hc => (hPL.drop0 (n := f + 2) (by omega) hc).below (Below.drew (Below.refl w7.heap.size w7))
      generalize pa h (qt[f]'(by rw [hql6.out]; omega)) = a2 at *
      generalize pb h (qt[f]'(by rw [hql6.out]; omega)) = b2 at *
      generalize pa h (qt[f + 1]'(by rw [hql6.out]; omega)) = a3 at *
      generalize pb h (qt[f + 1]'(by rw [hql6.out]; omega)) = b3 at *
      generalize joinT h (ts[f]'(by omega)) (ts[f + 1]'(by omega)) = tj at *
      have q2 : (wideT h c : Int) < 3 := by omega
      rw [hkl] at hda hdb
      simp only [Nat.zero_add] at hda
      replace kJ := Lib.hid kJ
      replace hda := Lib.hid hda
      replace hdb := Lib.hid hdb
      replace hN2 := Lib.hid hN2
      have hcx := Lib.hid hc1
      replace hrr := Lib.hid hrr
      replace hc0 := Lib.hid hc0
      have hG : f + 2 ≤ G := by omega
      replace hcutE := Lib.hid hcutE
      clear hPL hq7 ho7 hti htj hrt hcc hfin hck htot hq8 hwa hra hc1 hw3
      have hf2' : f + 2 ≤ kids.length := by omega
      clear hf2 hkl hql6 hkl6 hki
      generalize hnn : kids.length = n at *
      replace hnn := Lib.hid hnn
      replace hf := Lib.hid hf
      replace hts := Lib.hid hts
      go_upto_region 8 with fail
      go_cut [9] (fun s9 wx => s9 = .int .i64 (f : Nat) ∧ wx = w7)
      case first =>
        have ew : IntKind.i64.wrap ((n : Int) - 2) = (n : Int) - 2 := by rw [IntKind.wrap_i64]; omega
        have hff := hf.out
        clear hf
        by_cases hi2 : i ≤ n - 2
        · have q3 : (i : Int) ≤ (n : Int) - 2 := by omega
          have hfi : f = i := by omega
          clear hff hi2
          subst hfi
          by_cases h0 : f = 0
          · have q4 : (f : Int) ≤ 0 := by omega
            have hz := Lib.hid h0
            clear h0
            go_wp2_with fail
            go_meet
            exact ⟨by rw [hz.out]; rfl, rfl⟩
          · have q4 : ¬ (f : Int) ≤ 0 := by omega
            clear h0
            go_wp2_with fail
            go_meet
            exact ⟨rfl, rfl⟩
        · have q3 : ¬ (i : Int) ≤ (n : Int) - 2 := by omega
          have hfi : ((f : Nat) : Int) = (n : Int) - 2 := by omega
          clear hff hi2
          replace hfi := Lib.hid hfi
          by_cases h0 : (n : Int) - 2 ≤ 0
          · have hz := Lib.hid (show (n : Int) - 2 = 0 by omega)
            go_wp2_with fail
            go_meet
            exact ⟨by rw [hfi.out, hz.out], rfl⟩
          · go_wp2_with fail
            go_meet
            exact ⟨by rw [hfi.out], rfl⟩
      case rest =>
        obtain ⟨rfl, hwc⟩ := hcut
        replace hwc := hwc.symm
        subst hwc
        clear hf
        have q3 : (f : Int) ≤ (n : Int) := by omega
        have q4 : (f : Int) < (n : Int) := by omega
        have q5 : (f : Int) + 1 < (n : Int) := by omega
        have q6 : (f : Int) + 2 ≤ (n : Int) := by omega
        have q8 : (0 : Int) ≤ (f : Int) + 2 := by omega
        have q9 : (0 : Int) ≤ (f : Int) + 1 := by omega
        have q10 : ¬ (n : Int) < (f : Int) + 2 := by omega
        have q11 : f ≤ G := by omega
        have ew1 : IntKind.i64.wrap ((f : Int) + 1) = (f : Int) + 1 := by rw [IntKind.wrap_i64]; omega
        have ew2 : IntKind.i64.wrap ((f : Int) + 2) = (f : Int) + 2 := by rw [IntKind.wrap_i64]; omega
        have ew3 : ((f : Int) + 2).toNat = f + 2 := by omega
        have ew4 : ((f : Int) + 1).toNat = f + 1 := by omega
        have hBx := Lib.hid (Below.drew hB7.out)
        have hRx := Lib.hid (Whole.drew hl7.out)
        replace x0 : w7.drew.cell? ⟨g, f * 2, none⟩ = some (.pointer a2) := x0
        replace x1 : w7.drew.cell? ⟨g, f * 2 + 1, none⟩ = some (.pointer b2) := x1
        replace x2 : w7.drew.cell? ⟨g, (f + 1) * 2, none⟩ = some (.pointer a3) := x2
        replace x3 : w7.drew.cell? ⟨g, (f + 1) * 2 + 1, none⟩ = some (.pointer b3) := x3
        go_upto_region 9 with fail
        by_cases q12 : G = f + 2
        · have h2 := Lib.hid (hdb.out q12)
          have q7 : (G = f + 2) = True := eq_true q12
          replace q12 := Lib.hid q12
          clear hda hdb
          refine tl_begin (fun (w' : World) => ((w'.cell? ⟨g, f * 2, none⟩ = some (.pointer a2) ∧ w'.cell? ⟨g, f * 2 + 1, none⟩ = some (.pointer b2)) ∧ w'.cell? ⟨g, (f + 1) * 2, none⟩ = some (.pointer a3) ∧ w'.cell? ⟨g, (f + 1) * 2 + 1, none⟩ = some (.pointer b3))) [] (by kernel_rfl) (⟨⟨x0, x1⟩, x2, x3⟩) (fun hHeld => ?_)
          refine tl_p (i := 0) (v := ?_) rfl (by rfl) (by kernel_rfl) (by kernel_rfl) (by kernel_rfl) (fun _ _ _ h => h) (by rfl) hHeld ?_ ?_
          rotate_left
          · intro w
            go_simp
            try (with_reducible rfl)
          try simp only [Act.put, List.setIfInBounds_toArray, List.set_cons_zero, List.set_cons_succ]
          refine tl_p (i := 1) (v := ?_) rfl (by rfl) (by kernel_rfl) (by kernel_rfl) (by kernel_rfl) (fun _ _ _ h => h) (by rfl) hHeld ?_ ?_
          rotate_left
          · intro w
            go_simp
            try (with_reducible rfl)
          try simp only [Act.put, List.setIfInBounds_toArray, List.set_cons_zero, List.set_cons_succ]
          refine tl_p (i := 2) (v := ?_) rfl (by rfl) (by kernel_rfl) (by kernel_rfl) (by kernel_rfl) (fun _ _ _ h => h) (by rfl) hHeld ?_ ?_
          rotate_left
          · intro w
            go_simp
            try (with_reducible rfl)
          try simp only [Act.put, List.setIfInBounds_toArray, List.set_cons_zero, List.set_cons_succ]
          refine tl_p (i := 3) (v := ?_) rfl (by rfl) (by kernel_rfl) (by kernel_rfl) (by kernel_rfl) (fun _ _ _ h => h) (by rfl) hHeld ?_ ?_
          rotate_left
          · intro w
            go_simp
            try (with_reducible rfl)
          try simp only [Act.put, List.setIfInBounds_toArray, List.set_cons_zero, List.set_cons_succ]
          refine tl_p (i := 4) (v := ?_) rfl (by rfl) (by kernel_rfl) (by kernel_rfl) (by kernel_rfl) (fun _ _ _ h => h) (by rfl) hHeld ?_ ?_
          rotate_left
          · intro w
            go_simp
            try (with_reducible rfl)
          try simp only [Act.put, List.setIfInBounds_toArray, List.set_cons_zero, List.set_cons_succ]
          refine tl_p (i := 5) (v := ?_) rfl (by rfl) (by kernel_rfl) (by kernel_rfl) (by kernel_rfl) (fun _ _ _ h => h) (by rfl) hHeld ?_ ?_
          rotate_left
          · intro w
            go_simp
            try (with_reducible rfl)
          try simp only [Act.put, List.setIfInBounds_toArray, List.set_cons_zero, List.set_cons_succ]
          refine tl_w (i := 6) (v := ?_) rfl (by rfl) (by kernel_rfl) (by kernel_rfl) (by kernel_rfl) (by kernel_rfl) (by kernel_rfl) (fun _ _ _ h => h) (by rfl) hHeld ?_ ?_
          rotate_left
          · intro w hSw
            try dsimp only at hSw
            go_simp
            try (with_reducible rfl)
          try simp only [Act.put, List.setIfInBounds_toArray, List.set_cons_zero, List.set_cons_succ]
          refine tl_p (i := 7) (v := ?_) rfl (by rfl) (by kernel_rfl) (by kernel_rfl) (by kernel_rfl) (fun _ _ _ h => h) (by rfl) hHeld ?_ ?_
          rotate_left
          · intro w
            go_simp
            try (with_reducible rfl)
          try simp only [Act.put, List.setIfInBounds_toArray, List.set_cons_zero, List.set_cons_succ]
          refine tl_p (i := 8) (v := ?_) rfl (by rfl) (by kernel_rfl) (by kernel_rfl) (by kernel_rfl) (fun _ _ _ h => h) (by rfl) hHeld ?_ ?_
          rotate_left
          · intro w
            go_simp
            try (with_reducible rfl)
          try simp only [Act.put, List.setIfInBounds_toArray, List.set_cons_zero, List.set_cons_succ]
          refine tl_p (i := 9) (v := ?_) rfl (by rfl) (by kernel_rfl) (by kernel_rfl) (by kernel_rfl) (fun _ _ _ h => h) (by rfl) hHeld ?_ ?_
          rotate_left
          · intro w
            go_simp
            try (with_reducible rfl)
          try simp only [Act.put, List.setIfInBounds_toArray, List.set_cons_zero, List.set_cons_succ]
          refine tl_p (i := 10) (v := ?_) rfl (by rfl) (by kernel_rfl) (by kernel_rfl) (by kernel_rfl) (fun _ _ _ h => h) (by rfl) hHeld ?_ ?_
          rotate_left
          · intro w
            go_simp
            try (with_reducible rfl)
          try simp only [Act.put, List.setIfInBounds_toArray, List.set_cons_zero, List.set_cons_succ]
          refine tl_w (i := 11) (v := ?_) rfl (by rfl) (by kernel_rfl) (by kernel_rfl) (by kernel_rfl) (by kernel_rfl) (by kernel_rfl) (fun _ _ _ h => h) (by rfl) hHeld ?_ ?_
          rotate_left
          · intro w hSw
            try dsimp only at hSw
            go_simp
            try (with_reducible rfl)
          try simp only [Act.put, List.setIfInBounds_toArray, List.set_cons_zero, List.set_cons_succ]
          refine tl_p (i := 13) (v := ?_) rfl (by rfl) (by kernel_rfl) (by kernel_rfl) (by kernel_rfl) (fun _ _ _ h => h) (by rfl) hHeld ?_ ?_
          rotate_left
          · intro w
            go_simp
            try (with_reducible rfl)
          try simp only [Act.put, List.setIfInBounds_toArray, List.set_cons_zero, List.set_cons_succ]
          refine tl_p (i := 14) (v := ?_) rfl (by rfl) (by kernel_rfl) (by kernel_rfl) (by kernel_rfl) (fun _ _ _ h => h) (by rfl) hHeld ?_ ?_
          rotate_left
          · intro w
            go_simp
            try (with_reducible rfl)
          try simp only [Act.put, List.setIfInBounds_toArray, List.set_cons_zero, List.set_cons_succ]
          refine tl_p (i := 15) (v := ?_) rfl (by rfl) (by kernel_rfl) (by kernel_rfl) (by kernel_rfl) (fun _ _ _ h => h) (by rfl) hHeld ?_ ?_
          rotate_left
          · intro w
            go_simp
            try (with_reducible rfl)
          try simp only [Act.put, List.setIfInBounds_toArray, List.set_cons_zero, List.set_cons_succ]
          refine tl_p (i := 16) (v := ?_) rfl (by rfl) (by kernel_rfl) (by kernel_rfl) (by kernel_rfl) (fun _ _ _ h => h) (by rfl) hHeld ?_ ?_
          rotate_left
          · intro w
            go_simp
            try (with_reducible rfl)
          try simp only [Act.put, List.setIfInBounds_toArray, List.set_cons_zero, List.set_cons_succ]
          refine tl_do (i := 12) rfl (by kernel_rfl) (by rfl) (fun K hK => ?_)
          go_simp
          go_at_call 105
          refine kJ.out.mono ?_; rintro e w8 ⟨v8, rfl, hP8, hb8⟩
          have hc8 := And.intro (And.intro (kc hb8 x0) (kc hb8 x1)) (And.intro (kc hb8 x2) (kc hb8 x3))
          have h18 := Lib.hid (h1.out.below hb8)
          have h28 := Lib.hid (h2.out.below hb8)
          have hw8 := Lib.hid (hBx.out.trans (hb8.mono hBx.out.size))
          have hR8 := Lib.hid (hRx.out.below hb8)
          have hz8 : w7.heap.size ≤ w8.heap.size := hb8.size
          obtain ⟨A8, c8, rfl, _, _⟩ := hP8.cells
          replace hP8 := Lib.hid hP8
          clear hb8
          try go_wp2_with fail
          refine hK.out _ _ (hc8) (fun hHeld1 => ?_)
          clear hK K hHeld
          have hHeld := hHeld1
          clear hHeld1
          try simp only [Act.put, List.setIfInBounds_toArray, List.set_cons_zero, List.set_cons_succ]
          refine tl_do (i := 17) rfl (by kernel_rfl) (by rfl) (fun K hK => ?_)
          go_simp
          refine hK.out _ _ (⟨⟨cell_alloc _ hc8.1.1, cell_alloc _ hc8.1.2⟩, cell_alloc _ hc8.2.1, cell_alloc _ hc8.2.2⟩) (fun hHeld1 => ?_)
          clear hK K hHeld
          have hHeld := hHeld1
          clear hHeld1
          try simp only [Act.put, List.setIfInBounds_toArray, List.set_cons_zero, List.set_cons_succ]
          refine tl_do (i := 18) rfl (by kernel_rfl) (by rfl) (fun K hK => ?_)
          go_simp
          go_at_call 100
          refine (concatL3 h18.out hP8.out h28.out (fun b hb => hN2.out b (Nat.le_trans hz8 hb)) hcx.out).mono ?_; rintro e w9 ⟨v9, rfl, hP9, hb9⟩
          have hc9 := And.intro (And.intro (kc hb9 (cell_alloc _ hc8.1.1)) (kc hb9 (cell_alloc _ hc8.1.2))) (And.intro (kc hb9 (cell_alloc _ hc8.2.1)) (kc hb9 (cell_alloc _ hc8.2.2)))
          have hw9 := Lib.hid ((hw8.out.alloc hw8.out.size _).trans (hb9.mono (Nat.le_trans hw8.out.size (by simp))))
          have hz9 : w7.heap.size ≤ w9.heap.size := Nat.le_trans hz8 (Nat.le_trans (by simp) hb9.size)
          have hR9 := Lib.hid ((hR8.out.alloc _).below hb9)
          replace hP9 := Lib.hid hP9
          clear hb9
          try go_wp2_with fail
          refine hK.out _ _ (hc9) (fun hHeld1 => ?_)
          clear hK K hHeld
          have hHeld := hHeld1
          clear hHeld1
          try simp only [Act.put, List.setIfInBounds_toArray, List.set_cons_zero, List.set_cons_succ]
          refine tl_p (i := 19) (v := ?_) rfl (by rfl) (by kernel_rfl) (by kernel_rfl) (by kernel_rfl) (fun _ _ _ h => h) (by rfl) hHeld ?_ ?_
          rotate_left
          · intro w
            go_simp
            try (with_reducible rfl)
          try simp only [Act.put, List.setIfInBounds_toArray, List.set_cons_zero, List.set_cons_succ]
          refine till_done (by kernel_rfl) ?_ _
          clear hHeld
          have kO := Lib.hid (innerOf_part hP9.out hc0.out hrr.out hcx.out (fun b hb => hN2.out b (Nat.le_trans hz9 hb)))
          generalize ts.take f ++ tj ++ ts.drop (f + 2) = tx at *
          obtain ⟨A9, c9, rfl, _, _⟩ := hP9.out.cells
          go_wp2_with fail
          refine kO.out.mono ?_; rintro e w9 ⟨qo, rfl, hPo, hbo⟩
          have hl9 := hR9.out.below hbo
          have hB9 := hw9.out.trans (hbo.mono hw9.out.size)
          have f0 := hl9.frozen 0
          have f1 := hl9.frozen 1
          have g0 := hl9.cell 0
          have g1 := hl9.cell 1
          have gl := hl9.lt
          have hr7 := Lib.hid ((hl9.set 0 (.pointer (pa (h + 1) qo))).set 1 (.pointer (pb (h + 1) qo)))
          have hB10 := Lib.hid ((hB9.setCell (p := ⟨w.heap.size + 1, 0, none⟩) (by simp) (.pointer (pa (h + 1) qo))).setCell (p := ⟨w.heap.size + 1, 1, none⟩) (by simp) (.pointer (pb (h + 1) qo)))
          have hP10 := Lib.hid (PAt.mono (K' := KK) hK1.out (h + 1) qo _ (PAt.keep (keeps_set (g := w.heap.size + 1) hK2.out 0 1 (.pointer (pa (h + 1) qo)) (.pointer (pb (h + 1) qo))) (h + 1) qo _ hPo))
          clear hPo hbo hl9 hB9 kO hR9 hw9
          generalize ha : pa (h + 1) qo = a8 at *
          generalize hb0 : pb (h + 1) qo = b8 at *
          replace ha := Lib.hid ha
          replace hb0 := Lib.hid hb0
          go_wp2_with fail
          refine bodyPost_ret (results_cell_row rfl _ _ (w.heap.size + 1) _ _ _ _ rfl hr7.out Try.underlying108 rfl (by kernel_rfl)) rfl ?_
          exact ⟨qo, by rw [ha.out, hb0.out]; rfl, by rw [hcutE.out]; exact hP10.out, hB10.out⟩
        · have h2 := Lib.hid (hda.out q12)
          clear hda hdb
          refine tl_begin (fun (w' : World) => ((w'.cell? ⟨g, f * 2, none⟩ = some (.pointer a2) ∧ w'.cell? ⟨g, f * 2 + 1, none⟩ = some (.pointer b2)) ∧ w'.cell? ⟨g, (f + 1) * 2, none⟩ = some (.pointer a3) ∧ w'.cell? ⟨g, (f + 1) * 2 + 1, none⟩ = some (.pointer b3))) [] (by kernel_rfl) (⟨⟨x0, x1⟩, x2, x3⟩) (fun hHeld => ?_)
          refine tl_p (i := 0) (v := ?_) rfl (by rfl) (by kernel_rfl) (by kernel_rfl) (by kernel_rfl) (fun _ _ _ h => h) (by rfl) hHeld ?_ ?_
          rotate_left
          · intro w
            go_simp
            try (with_reducible rfl)
          try simp only [Act.put, List.setIfInBounds_toArray, List.set_cons_zero, List.set_cons_succ]
          refine tl_p (i := 1) (v := ?_) rfl (by rfl) (by kernel_rfl) (by kernel_rfl) (by kernel_rfl) (fun _ _ _ h => h) (by rfl) hHeld ?_ ?_
          rotate_left
          · intro w
            go_simp
            try (with_reducible rfl)
          try simp only [Act.put, List.setIfInBounds_toArray, List.set_cons_zero, List.set_cons_succ]
          refine tl_p (i := 2) (v := ?_) rfl (by rfl) (by kernel_rfl) (by kernel_rfl) (by kernel_rfl) (fun _ _ _ h => h) (by rfl) hHeld ?_ ?_
          rotate_left
          · intro w
            go_simp
            try (with_reducible rfl)
          try simp only [Act.put, List.setIfInBounds_toArray, List.set_cons_zero, List.set_cons_succ]
          refine tl_p (i := 3) (v := ?_) rfl (by rfl) (by kernel_rfl) (by kernel_rfl) (by kernel_rfl) (fun _ _ _ h => h) (by rfl) hHeld ?_ ?_
          rotate_left
          · intro w
            go_simp
            try (with_reducible rfl)
          try simp only [Act.put, List.setIfInBounds_toArray, List.set_cons_zero, List.set_cons_succ]
          refine tl_p (i := 4) (v := ?_) rfl (by rfl) (by kernel_rfl) (by kernel_rfl) (by kernel_rfl) (fun _ _ _ h => h) (by rfl) hHeld ?_ ?_
          rotate_left
          · intro w
            go_simp
            try (with_reducible rfl)
          try simp only [Act.put, List.setIfInBounds_toArray, List.set_cons_zero, List.set_cons_succ]
          refine tl_p (i := 5) (v := ?_) rfl (by rfl) (by kernel_rfl) (by kernel_rfl) (by kernel_rfl) (fun _ _ _ h => h) (by rfl) hHeld ?_ ?_
          rotate_left
          · intro w
            go_simp
            try (with_reducible rfl)
          try simp only [Act.put, List.setIfInBounds_toArray, List.set_cons_zero, List.set_cons_succ]
          refine tl_w (i := 6) (v := ?_) rfl (by rfl) (by kernel_rfl) (by kernel_rfl) (by kernel_rfl) (by kernel_rfl) (by kernel_rfl) (fun _ _ _ h => h) (by rfl) hHeld ?_ ?_
          rotate_left
          · intro w hSw
            try dsimp only at hSw
            go_simp
            try (with_reducible rfl)
          try simp only [Act.put, List.setIfInBounds_toArray, List.set_cons_zero, List.set_cons_succ]
          refine tl_p (i := 7) (v := ?_) rfl (by rfl) (by kernel_rfl) (by kernel_rfl) (by kernel_rfl) (fun _ _ _ h => h) (by rfl) hHeld ?_ ?_
          rotate_left
          · intro w
            go_simp
            try (with_reducible rfl)
          try simp only [Act.put, List.setIfInBounds_toArray, List.set_cons_zero, List.set_cons_succ]
          refine tl_p (i := 8) (v := ?_) rfl (by rfl) (by kernel_rfl) (by kernel_rfl) (by kernel_rfl) (fun _ _ _ h => h) (by rfl) hHeld ?_ ?_
          rotate_left
          · intro w
            go_simp
            try (with_reducible rfl)
          try simp only [Act.put, List.setIfInBounds_toArray, List.set_cons_zero, List.set_cons_succ]
          refine tl_p (i := 9) (v := ?_) rfl (by rfl) (by kernel_rfl) (by kernel_rfl) (by kernel_rfl) (fun _ _ _ h => h) (by rfl) hHeld ?_ ?_
          rotate_left
          · intro w
            go_simp
            try (with_reducible rfl)
          try simp only [Act.put, List.setIfInBounds_toArray, List.set_cons_zero, List.set_cons_succ]
          refine tl_p (i := 10) (v := ?_) rfl (by rfl) (by kernel_rfl) (by kernel_rfl) (by kernel_rfl) (fun _ _ _ h => h) (by rfl) hHeld ?_ ?_
          rotate_left
          · intro w
            go_simp
            try (with_reducible rfl)
          try simp only [Act.put, List.setIfInBounds_toArray, List.set_cons_zero, List.set_cons_succ]
          refine tl_w (i := 11) (v := ?_) rfl (by rfl) (by kernel_rfl) (by kernel_rfl) (by kernel_rfl) (by kernel_rfl) (by kernel_rfl) (fun _ _ _ h => h) (by rfl) hHeld ?_ ?_
          rotate_left
          · intro w hSw
            try dsimp only at hSw
            go_simp
            try (with_reducible rfl)
          try simp only [Act.put, List.setIfInBounds_toArray, List.set_cons_zero, List.set_cons_succ]
          refine tl_p (i := 13) (v := ?_) rfl (by rfl) (by kernel_rfl) (by kernel_rfl) (by kernel_rfl) (fun _ _ _ h => h) (by rfl) hHeld ?_ ?_
          rotate_left
          · intro w
            go_simp
            try (with_reducible rfl)
          try simp only [Act.put, List.setIfInBounds_toArray, List.set_cons_zero, List.set_cons_succ]
          refine tl_p (i := 14) (v := ?_) rfl (by rfl) (by kernel_rfl) (by kernel_rfl) (by kernel_rfl) (fun _ _ _ h => h) (by rfl) hHeld ?_ ?_
          rotate_left
          · intro w
            go_simp
            try (with_reducible rfl)
          try simp only [Act.put, List.setIfInBounds_toArray, List.set_cons_zero, List.set_cons_succ]
          refine tl_p (i := 15) (v := ?_) rfl (by rfl) (by kernel_rfl) (by kernel_rfl) (by kernel_rfl) (fun _ _ _ h => h) (by rfl) hHeld ?_ ?_
          rotate_left
          · intro w
            go_simp
            try (with_reducible rfl)
          try simp only [Act.put, List.setIfInBounds_toArray, List.set_cons_zero, List.set_cons_succ]
          refine tl_p (i := 16) (v := ?_) rfl (by rfl) (by kernel_rfl) (by kernel_rfl) (by kernel_rfl) (fun _ _ _ h => h) (by rfl) hHeld ?_ ?_
          rotate_left
          · intro w
            go_simp
            try (with_reducible rfl)
          try simp only [Act.put, List.setIfInBounds_toArray, List.set_cons_zero, List.set_cons_succ]
          refine tl_do (i := 12) rfl (by kernel_rfl) (by rfl) (fun K hK => ?_)
          go_simp
          go_at_call 105
          refine kJ.out.mono ?_; rintro e w8 ⟨v8, rfl, hP8, hb8⟩
          have hc8 := And.intro (And.intro (kc hb8 x0) (kc hb8 x1)) (And.intro (kc hb8 x2) (kc hb8 x3))
          have h18 := Lib.hid (h1.out.below hb8)
          have h28 := Lib.hid (h2.out.below hb8)
          have hw8 := Lib.hid (hBx.out.trans (hb8.mono hBx.out.size))
          have hR8 := Lib.hid (hRx.out.below hb8)
          have hz8 : w7.heap.size ≤ w8.heap.size := hb8.size
          obtain ⟨A8, c8, rfl, _, _⟩ := hP8.cells
          replace hP8 := Lib.hid hP8
          clear hb8
          try go_wp2_with fail
          refine hK.out _ _ (hc8) (fun hHeld1 => ?_)
          clear hK K hHeld
          have hHeld := hHeld1
          clear hHeld1
          try simp only [Act.put, List.setIfInBounds_toArray, List.set_cons_zero, List.set_cons_succ]
          refine tl_do (i := 17) rfl (by kernel_rfl) (by rfl) (fun K hK => ?_)
          go_simp
          refine hK.out _ _ (⟨⟨cell_alloc _ hc8.1.1, cell_alloc _ hc8.1.2⟩, cell_alloc _ hc8.2.1, cell_alloc _ hc8.2.2⟩) (fun hHeld1 => ?_)
          clear hK K hHeld
          have hHeld := hHeld1
          clear hHeld1
          try simp only [Act.put, List.setIfInBounds_toArray, List.set_cons_zero, List.set_cons_succ]
          refine tl_do (i := 18) rfl (by kernel_rfl) (by rfl) (fun K hK => ?_)
          go_simp
          go_at_call 100
          refine (concatL3 h18.out hP8.out h28.out (fun b hb => hN2.out b (Nat.le_trans hz8 hb)) hcx.out).mono ?_; rintro e w9 ⟨v9, rfl, hP9, hb9⟩
          have hc9 := And.intro (And.intro (kc hb9 (cell_alloc _ hc8.1.1)) (kc hb9 (cell_alloc _ hc8.1.2))) (And.intro (kc hb9 (cell_alloc _ hc8.2.1)) (kc hb9 (cell_alloc _ hc8.2.2)))
          have hw9 := Lib.hid ((hw8.out.alloc hw8.out.size _).trans (hb9.mono (Nat.le_trans hw8.out.size (by simp))))
          have hz9 : w7.heap.size ≤ w9.heap.size := Nat.le_trans hz8 (Nat.le_trans (by simp) hb9.size)
          have hR9 := Lib.hid ((hR8.out.alloc _).below hb9)
          replace hP9 := Lib.hid hP9
          clear hb9
          try go_wp2_with fail
          refine hK.out _ _ (hc9) (fun hHeld1 => ?_)
          clear hK K hHeld
          have hHeld := hHeld1
          clear hHeld1
          try simp only [Act.put, List.setIfInBounds_toArray, List.set_cons_zero, List.set_cons_succ]
          refine tl_p (i := 19) (v := ?_) rfl (by rfl) (by kernel_rfl) (by kernel_rfl) (by kernel_rfl) (fun _ _ _ h => h) (by rfl) hHeld ?_ ?_
          rotate_left
          · intro w
            go_simp
            try (with_reducible rfl)
          try simp only [Act.put, List.setIfInBounds_toArray, List.set_cons_zero, List.set_cons_succ]
          refine till_done (by kernel_rfl) ?_ _
          clear hHeld
          have kO := Lib.hid (innerOf_part hP9.out hc0.out hrr.out hcx.out (fun b hb => hN2.out b (Nat.le_trans hz9 hb)))
          generalize ts.take f ++ tj ++ ts.drop (f + 2) = tx at *
          obtain ⟨A9, c9, rfl, _, _⟩ := hP9.out.cells
          go_wp2_with fail
          refine kO.out.mono ?_; rintro e w9 ⟨qo, rfl, hPo, hbo⟩
          have hl9 := hR9.out.below hbo
          have hB9 := hw9.out.trans (hbo.mono hw9.out.size)
          have f0 := hl9.frozen 0
          have f1 := hl9.frozen 1
          have g0 := hl9.cell 0
          have g1 := hl9.cell 1
          have gl := hl9.lt
          have hr7 := Lib.hid ((hl9.set 0 (.pointer (pa (h + 1) qo))).set 1 (.pointer (pb (h + 1) qo)))
          have hB10 := Lib.hid ((hB9.setCell (p := ⟨w.heap.size + 1, 0, none⟩) (by simp) (.pointer (pa (h + 1) qo))).setCell (p := ⟨w.heap.size + 1, 1, none⟩) (by simp) (.pointer (pb (h + 1) qo)))
          have hP10 := Lib.hid (PAt.mono (K' := KK) hK1.out (h + 1) qo _ (PAt.keep (keeps_set (g := w.heap.size + 1) hK2.out 0 1 (.pointer (pa (h + 1) qo)) (.pointer (pb (h + 1) qo))) (h + 1) qo _ hPo))
          clear hPo hbo hl9 hB9 kO hR9 hw9
          generalize ha : pa (h + 1) qo = a8 at *
          generalize hb0 : pb (h + 1) qo = b8 at *
          replace ha := Lib.hid ha
          replace hb0 := Lib.hid hb0
          go_wp2_with fail
          refine bodyPost_ret (results_cell_row rfl _ _ (w.heap.size + 1) _ _ _ _ rfl hr7.out Try.underlying108 rfl (by kernel_rfl)) rfl ?_
          exact ⟨qo, by rw [ha.out, hb0.out]; rfl, by rw [hcutE.out]; exact hP10.out, hB10.out⟩
    · have hcutE : cutK h kids i c = kids.set i c := by unfold cutK; rw [if_neg hw3]
      rw [hcutE] at hrr hc0 hc1
      have hPX := PL.own (K := K0) ho7.out hql6.out (fun b hb => hN0.out b (by omega)) hq7.out
      have kO := Lib.hid (innerOf_part hPX hc0 hrr hc1 (fun b hb => hN0.out b (by omega)))
      have hlen : (kids.set i c).length = kids.length := hkl6.out
      rw [hlen] at kO
      generalize kids.set i c = ts at *
      have q2 : ¬ (wideT h c : Int) < 3 := by omega
      replace hcutE := Lib.hid hcutE
      clear hPX hq7 ho7 hrr hc0 hc1 hti htj hrt hcc hfin hck htot
      go_wp2_with fail
      refine kO.out.mono ?_; rintro e w9 ⟨qo, rfl, hPo, hbo⟩
      have hl9 := hl7.out.below hbo
      have hB9 := hB7.out.trans (hbo.mono hB7.out.size)
      have f0 := hl9.frozen 0
      have f1 := hl9.frozen 1
      have g0 := hl9.cell 0
      have g1 := hl9.cell 1
      have gl := hl9.lt
      have hr7 := Lib.hid ((hl9.set 0 (.pointer (pa (h + 1) qo))).set 1 (.pointer (pb (h + 1) qo)))
      have hB10 := Lib.hid ((hB9.setCell (p := ⟨w.heap.size + 1, 0, none⟩) (by simp) (.pointer (pa (h + 1) qo))).setCell (p := ⟨w.heap.size + 1, 1, none⟩) (by simp) (.pointer (pb (h + 1) qo)))
      have hP10 := Lib.hid (PAt.mono (K' := KK) hK1.out (h + 1) qo _ (PAt.keep (keeps_set (g := w.heap.size + 1) hK2.out 0 1 (.pointer (pa (h + 1) qo)) (.pointer (pb (h + 1) qo))) (h + 1) qo _ hPo))
      clear hPo hbo hl9 hB9 kO hl7 hB7
      generalize ha : pa (h + 1) qo = a8 at *
      generalize hb0 : pb (h + 1) qo = b8 at *
      replace ha := Lib.hid ha
      replace hb0 := Lib.hid hb0
      go_wp2_with fail
      refine bodyPost_ret (results_cell_row rfl _ _ (w.heap.size + 1) _ _ _ _ rfl hr7.out Try.underlying108 rfl (by kernel_rfl)) rfl ?_
      exact ⟨qo, by rw [ha.out, hb0.out]; rfl, by rw [hcutE.out]; exact hP10.out, hB10.out⟩
end Go.Proofs.Ytegomkgfmaclkaa
