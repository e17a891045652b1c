/-
  tree.Tree: Cut and New by their contracts.
-/
import Derived.Test.YtegomkgfmaclkaaTn
set_option linter.unusedVariables false
set_option linter.unusedSimpArgs false
namespace Go.Proofs.Ytegomkgfmaclkaa
open Go.RowKit Go.Proofs.PosteOrd Go.Proofs.PosteMem

theorem Tr.below {W W' : World} {g : Nat} {L : List Row} (H : Tr W g L) (k : Below W.heap.size W W') : Tr W' g L := by
  obtain ⟨h, t, H, e⟩ := H
  exact ⟨h, t, H.below k, e⟩
theorem cutS_not {L : List Row} {key : ByteArray} (h : hit L key = false) : cutS L key = L := by unfold cutS cutL; rw [h]; rfl
set_option maxRecDepth 100000 in
set_option maxHeartbeats 8000000 in
theorem tcut_core {w : World} {g h : Nat} {t : T h} (H : TAt w g h t) (key : ByteArray) (hm : (rowsT h t).length ≤ 800000) : Calls Try.prog 53 #[ptr g, .string key] w fun e w' => e = .returned (.bool (hit (rowsT h t) key)) ∧ (∃ h', ∃ t' : T h', TAt w' g h' t' ∧ rowsT h' t' = cutS (rowsT h t) key) ∧ Upd (fun b => b = g) w w' := by
  have kG := tget_any H key
  cases hh : hit (rowsT h t) key with
  | false =>
    rw [hh] at kG
    rw [cutS_not hh]
    have H' := Lib.hid H
    generalize getK (rowsT h t) key = gv at *
    clear H
    replace kG := Lib.hid kG
    replace hh := Lib.hid hh
    go_enter Try.func53, Try.ntmps53
    go_wp2_with fail
    refine kG.out.mono ?_; rintro e w1 ⟨rfl, hb1⟩
    go_wp2_with fail
    go_ret
    exact ⟨rfl, ⟨h, t, H'.out.below hb1, rfl⟩, Upd.of_below hb1⟩
  | true =>
    rw [hh] at kG
    obtain ⟨q, hx, hP, hT⟩ := H
    have hTc := hT.cut key
    have htall := hT.tall
    have hg := hx.lt
    have kC := fun (W : World) (hW : Below w.heap.size w W) => partCut_any h W (fun b => b ≠ g) q t key (hP.below hW) hT.ok hT.two hT.six hT.srt (by omega) (fun b hb => by have := hW.size; omega)
    have c0 : w.cell? ⟨g, 0, none⟩ = some (.pointer (pa h q)) := hx.cell 0
    have c1 : w.cell? ⟨g, 1, none⟩ = some (.pointer (pb h q)) := hx.cell 1
    generalize getK (rowsT h t) key = gv at *
    replace kG := Lib.hid kG
    replace kC := Lib.hid kC
    replace hTc := Lib.hid hTc
    replace hx := Lib.hid hx
    generalize ha : pa h q = a0 at *
    generalize hbb : pb h q = b0 at *
    replace ha := Lib.hid ha
    replace hbb := Lib.hid hbb
    clear hP hT
    go_enter Try.func53, Try.ntmps53
    go_wp2_with fail
    refine kG.out.mono ?_; rintro e w1 ⟨rfl, hb1⟩
    have kC1 := Lib.hid (kC.out w1 hb1)
    replace c0 := kc hb1 c0
    replace c1 := kc hb1 c1
    have hx1 := Lib.hid (hx.out.below hb1)
    have hg1 := hx1.out.lt
    have hB1 := Lib.hid hb1
    clear kG kC hb1 hx
    go_wp2_with fail
    refine kC1.out.mono ?_; rintro e w2 ⟨qc, rfl, hPc, hb2⟩
    have hx2 := hx1.out.below hb2
    have f0 := hx2.frozen 0
    have f1 := hx2.frozen 1
    have g0 : w2.cell? ⟨g, 0, none⟩ = some (.pointer a0) := hx2.cell 0
    have g1 : w2.cell? ⟨g, 1, none⟩ = some (.pointer b0) := hx2.cell 1
    have hg2 := hx2.lt
    have hx3 : Whole ((w2.setCell ⟨g, 0, none⟩ (.pointer (pa h qc))).setCell ⟨g, 1, none⟩ (.pointer (pb h qc))) g 111 #[.pointer (pa h qc), .pointer (pb h qc), .int .i64 ((h : Int) + 1)] := (hx2.set 0 (.pointer (pa h qc))).set 1 (.pointer (pb h qc))
    have hP3 := PAt.keep (keeps_set (w := w2) (C := fun b => b ≠ g) (g := g) (fun hc => hc rfl) 0 1 (.pointer (pa h qc)) (.pointer (pb h qc))) h qc _ hPc
    have hU3 := Lib.hid ((Upd.of_below (S := fun b => b = g) (hB1.out.trans (hb2.mono hB1.out.size))).trans (upd_set2 (w := w2) (g := g) 0 1 (.pointer (pa h qc)) (.pointer (pb h qc))) (fun _ _ e => e))
    clear hx2 hPc hb2 kC1 hx1 hB1 c0 c1
    go_upto_region 5 with fail
    generalize hw3 : (w2.setCell ⟨g, 0, none⟩ (.pointer (pa h qc))).setCell ⟨g, 1, none⟩ (.pointer (pb h qc)) = w3 at *
    replace hw3 := Lib.hid hw3
    clear f0 f1 g0 g1 hg2
    have hg3 := hx3.lt
    obtain ⟨hrows, hcases⟩ := hTc.out
    rcases hcases with ⟨hTop, hne⟩ | ⟨g', e, k, hk, hTop⟩
    · have hA3 : TAt w3 g h (cutT h t key) := ⟨qc, hx3, hP3, hTop⟩
      cases h with
      | zero =>
        have d1 : w3.cell? ⟨g, 1, none⟩ = some (.pointer none) := hx3.cell 1
        replace hA3 := Lib.hid hA3
        replace hrows := Lib.hid hrows
        clear hx3 hP3 hTc hne
        go_wp2_with fail
        go_ret
        exact ⟨rfl, ⟨_, _, hA3.out, hrows.out⟩, hU3.out⟩
      | succ h =>
        have d1 : w3.cell? ⟨g, 1, none⟩ = some (ptr qc) := hx3.cell 1
        obtain ⟨_, v, hxi, hPi⟩ := hP3.inner
        obtain ⟨A, cap, rfl, _, _⟩ := hPi.cells
        have d2 : w3.cell? ⟨qc, 2, none⟩ = some (.slice A (wideT (h + 1) (cutT (h + 1) t key)) cap) := hxi.cell 2
        have hql := hxi.lt
        have hw1 := hne (by omega)
        generalize wideT (h + 1) (cutT (h + 1) t key) = n at *
        have q1 : ((n : Int) == 1) = false := by rw [beq_eq_false_iff_ne]; omega
        have q2 : ¬ (n : Int) = 1 := by omega
        replace hA3 := Lib.hid hA3
        replace hrows := Lib.hid hrows
        clear hx3 hP3 hTc hne hxi hPi hw1
        go_wp2_with fail
        go_ret
        exact ⟨rfl, ⟨_, _, hA3.out, hrows.out⟩, hU3.out⟩
    · subst e
      have hk' : cutT (g' + 1) t key = ([k] : List (T g')) := hk
      rw [hk'] at hP3 hrows
      have d1 : w3.cell? ⟨g, 1, none⟩ = some (ptr qc) := hx3.cell 1
      have d0 : w3.cell? ⟨g, 0, none⟩ = some (.pointer none) := hx3.cell 0
      have d3 : w3.cell? ⟨g, 2, none⟩ = some (.int .i64 (((g' + 1 : Nat) : Int) + 1)) := hx3.cell 2
      obtain ⟨_, v, hxi, hPi⟩ := hP3.inner
      obtain ⟨b, off, cap, ev, hbl, hcl, hcm, hat⟩ := hPi.at_ (by simp)
      obtain ⟨qp, a1, a2, a3⟩ := hat 0 (by simp)
      have a1' : PAt w3 (fun b => b ≠ g) g' qp k := a1
      rw [Nat.zero_mul, Nat.add_zero] at a2 a3
      have ev' : v = .slice (some ⟨b, off, none⟩) 1 cap := ev
      subst ev'
      have d2 : w3.cell? ⟨qc, 2, none⟩ = some (.slice (some ⟨b, off, none⟩) 1 cap) := hxi.cell 2
      have hql := hxi.lt
      have f0 := hx3.frozen 0
      have f1 := hx3.frozen 1
      have f2 := hx3.frozen 2
      have hh1 : (((g' + 1 : Nat) : Int) + 1) - 1 = (g' : Int) + 1 := by omega
      have ew : IntKind.i64.wrap ((((g' + 1 : Nat) : Int) + 1) - 1) = (g' : Int) + 1 := by rw [IntKind.wrap_i64]; omega
      have hx9 : Whole (((w3.setCell ⟨g, 0, none⟩ (.pointer (pa g' qp))).setCell ⟨g, 1, none⟩ (.pointer (pb g' qp))).setCell ⟨g, 2, none⟩ (.int .i64 ((g' : Int) + 1))) g 111 #[.pointer (pa g' qp), .pointer (pb g' qp), .int .i64 ((g' : Int) + 1)] := ((hx3.set 0 (.pointer (pa g' qp))).set 1 (.pointer (pb g' qp))).set 2 (.int .i64 ((g' : Int) + 1))
      have hU9 : Upd (fun b => b = g) w3 (((w3.setCell ⟨g, 0, none⟩ (.pointer (pa g' qp))).setCell ⟨g, 1, none⟩ (.pointer (pb g' qp))).setCell ⟨g, 2, none⟩ (.int .i64 ((g' : Int) + 1))) := (upd_set2 (w := w3) (g := g) 0 1 (.pointer (pa g' qp)) (.pointer (pb g' qp))).setCell (p := ⟨g, 2, none⟩) (.inr rfl) _
      have hPi9 := PAt.keep (K := fun b => b ≠ g) ⟨_, hU9, fun b hb e => hb e⟩ g' qp _ a1'
      have hA9 : TAt (((w3.setCell ⟨g, 0, none⟩ (.pointer (pa g' qp))).setCell ⟨g, 1, none⟩ (.pointer (pb g' qp))).setCell ⟨g, 2, none⟩ (.int .i64 ((g' : Int) + 1))) g g' k := ⟨qp, hx9, hPi9, hTop⟩
      have hU10 := Lib.hid (hU3.out.trans hU9 (fun _ _ e => e))
      have hr9 : rowsT g' k = cutS (rowsT (g' + 1) t) key := by
        rw [← hrows]
        show _ = List.flatMap (rowsT g') [k]
        simp [List.flatMap]
      replace hA9 := Lib.hid hA9
      replace hr9 := Lib.hid hr9
      generalize pa g' qp = a6 at *
      generalize pb g' qp = b6 at *
      clear hrows hx9 hU9 hPi9 hat a1 a1' hx3 hP3 hTc hxi hPi hk hk'
      go_wp2_with fail
      go_ret
      exact ⟨rfl, ⟨_, _, hA9.out, hr9.out⟩, hU10.out⟩
theorem tcut_any {w : World} {g : Nat} {L : List Row} (H : Tr w g L) (key : ByteArray) (hm : L.length ≤ 800000) : Calls Try.prog 53 #[ptr g, .string key] w fun e w' => e = .returned (.bool (hit L key)) ∧ Tr w' g (cutS L key) ∧ Upd (fun b => b = g) w w' := by
  obtain ⟨h, t, H, rfl⟩ := H
  exact tcut_core H key hm
theorem tall_tr {w : World} {g : Nat} {L : List Row} (H : Tr w g L) (hm : L.length ≤ 900000) : Calls Try.prog 49 #[ptr g] w fun e w' => ∃ v, e = .returned v ∧ ORows w' w.heap.size v L ∧ Below w.heap.size w w' := by
  obtain ⟨h, t, H, rfl⟩ := H
  exact tall_any H hm
theorem tlen_tr {w : World} {g : Nat} {L : List Row} (H : Tr w g L) : Calls Try.prog 48 #[ptr g] w fun e w' => e = .returned (.int .i64 L.length) ∧ Below w.heap.size w w' := by
  obtain ⟨h, t, H, rfl⟩ := H
  exact tlen_any H
theorem tget_tr {w : World} {g : Nat} {L : List Row} (H : Tr w g L) (key : ByteArray) : Calls Try.prog 52 #[ptr g, .string key] w fun e w' => e = .returned (.tuple #[.string (getK L key), .bool (hit L key)]) ∧ Below w.heap.size w w' := by
  obtain ⟨h, t, H, rfl⟩ := H
  exact tget_any H key
theorem tceil_tr {w : World} {g : Nat} {L : List Row} (H : Tr w g L) (key : ByteArray) : Calls Try.prog 77 #[ptr g, .string key] w fun e w' => e = .returned (resC L[pos L key]?) ∧ Below w.heap.size w w' := by
  obtain ⟨h, t, H, rfl⟩ := H
  exact tceil_any H key
theorem theight_tr {w : World} {g : Nat} {L : List Row} (H : Tr w g L) (hm : L.length ≤ 900000) : ∃ n : Nat, n ≤ 2 + d3 L.length ∧ 1 ≤ n ∧ Calls Try.prog 50 #[ptr g] w fun e w' => e = .returned (.int .i64 n) ∧ Below w.heap.size w w' := by
  obtain ⟨h, t, H, rfl⟩ := H
  have hT : Top h t := let ⟨_, _, _, h3⟩ := H; h3
  refine ⟨h + 1, hT.low, by omega, ?_⟩
  have := theight_any H (by have := hT.tall; omega)
  exact this
theorem Tr.srt {w : World} {g : Nat} {L : List Row} (H : Tr w g L) : Srt L := by
  obtain ⟨h, t, ⟨_, _, _, hT⟩, rfl⟩ := H
  exact hT.srt
theorem Tr.lt {w : World} {g : Nat} {L : List Row} (H : Tr w g L) : g < w.heap.size := by
  obtain ⟨h, t, ⟨_, hx, _, _⟩, rfl⟩ := H
  exact hx.lt
/-- Rows that are put in, one after the other. -/
def putAll (L : List Row) : List Row := L.foldl putS []
theorem fold_len (L : List Row) (M : List Row) : (L.foldl putS M).length ≤ M.length + L.length := by
  induction L generalizing M with
  | nil => exact Nat.le_refl _
  | cons x L ih =>
    have h1 := ih (putS M x)
    have h2 := putS_len M x
    rw [List.foldl_cons, List.length_cons]
    split at h2 <;> omega
theorem putAll_len (L : List Row) : (putAll L).length ≤ L.length := by
  have := fold_len L []
  simpa [putAll] using this
theorem putAll_succ {L : List Row} {k : Nat} (hk : k < L.length) : putAll (L.take (k + 1)) = putS (putAll (L.take k)) L[k] := by
  unfold putAll
  rw [List.take_succ_eq_append_getElem hk, List.foldl_append]
  rfl
theorem tr_nil {w : World} {q : Nat} (hx : Whole w q 129 #[.int .i64 0, .string ⟨#[]⟩, .slice none 0 0]) : Tr (w.alloc (.cells #[.pointer (pa 0 q), .pointer (pb 0 q), .int .i64 1] 111)) w.heap.size [] := by
  have hb : Below w.heap.size w (w.alloc (.cells #[.pointer (pa 0 q), .pointer (pb 0 q), .int .i64 1] 111)) := (Below.refl _ _).alloc (Nat.le_refl _) _
  have hq := hx.lt
  exact ⟨0, ([] : List Row), ⟨q, Whole.new _ _ _, ⟨by show q ≠ w.heap.size; omega, .slice none 0 0, hx.below hb, View.nil _ _, fun h0 => absurd h0 (Nat.lt_irrefl 0)⟩, Top.zero⟩, rfl⟩
set_option maxRecDepth 100000 in
set_option maxHeartbeats 8000000 in
theorem tnew_any {w : World} {v : Value} {L : List Row} (hv : VRows w v L) (hm : L.length ≤ 100000) : Calls Try.prog 40 #[v] w fun e w' => ∃ g, e = .returned (ptr g) ∧ w.heap.size ≤ g ∧ Tr w' g (putAll L) ∧ Below w.heap.size w w' := by
  obtain ⟨A, cap, rfl, hc, _⟩ := View.cells hv
  have kL := Lib.hid (leafOf_any (w := w) (v := .slice none 0 0) (L := []) (View.nil _ _))
  replace hv := Lib.hid hv
  go_enter Try.func40, Try.ntmps40
  go_wp2_with fail
  refine kL.out.mono ?_; rintro e w1 ⟨q, rfl, hq, hx, hb1⟩
  have hT := tr_nil hx
  have hB := hb1.alloc hb1.size (.cells #[.pointer (pa 0 q), .pointer (pb 0 q), .int .i64 1] 111)
  have hg : w.heap.size ≤ w1.heap.size := hb1.size
  go_upto_region 3 with fail
  have hp0 : Value.pointer (some ⟨q, 0, none⟩) = .pointer (pa 0 q) := rfl
  have hp1 : Value.pointer none = .pointer (pb 0 q) := rfl
  generalize w1.heap.size = g at *
  clear hx hb1 kL
  go_loopw [11] (fun i wr => ∃ k : Nat, k ≤ L.length ∧ i = .int .i64 k ∧ Tr wr g (putAll (L.take k)) ∧ Below w.heap.size w wr) (fun i _ => L.length - (intOf i).toNat)
  case atStart => exact ⟨0, by omega, rfl, hT, hB⟩
  case round =>
    clear hT hB hp0 hp1
    obtain ⟨k, hk, rfl, hT, hB⟩ := hrel
    by_cases hlt : k < L.length
    · have q1 : (k : Int) < (L.length : Int) := by omega
      obtain ⟨b, off, cap', e, _, _, hbl, hat⟩ := rows_at hv.out (by omega)
      injection e with e1 e2 e3
      subst e1 e3
      obtain ⟨a2, a3⟩ := hat k hlt
      have p0 := (hB.cell (p := ⟨b, off + k * 2, none⟩) hbl).trans a2
      have p1 := (hB.cell (p := ⟨b, off + k * 2 + 1, none⟩) hbl).trans a3
      have hsu := putAll_succ hlt
      have hpl := putAll_len (L.take k)
      rw [List.length_take] at hpl
      generalize L[k] = x at *
      obtain ⟨key, val⟩ := x
      simp only at p0 p1
      have hBa := hB.alloc hB.size (.cells #[.string key, .string val] 31)
      have kP := tput_any (hT.below ((Below.refl wr.heap.size wr).alloc (Nat.le_refl _) (.cells #[.string key, .string val] 31))) ⟨key, val⟩ (by omega)
      rw [← hsu] at kP
      replace kP := Lib.hid kP
      replace hBa := Lib.hid hBa
      clear hT hB hat a2 a3 hsu
      go_wp2_with fail
      refine kP.out.mono ?_; rintro e w5 ⟨rfl, hT5, hU5⟩
      have hB5 := Lib.hid (hBa.out.trans (hU5.below hBa.out.size (fun b hb => by omega)))
      replace hT5 := Lib.hid hT5
      clear kP hU5
      go_wp2_with fail
      go_roundw
      case rel => exact ⟨k + 1, by omega, by go_num, hT5.out, hB5.out⟩
      case measure => simp [intOf]; omega
    · obtain rfl : k = L.length := by omega
      have q1 : ¬ (L.length : Int) < (L.length : Int) := by omega
      rw [List.take_length] at hT
      go_wp2_with fail
      go_ret
      exact ⟨_, rfl, hg, hT, hB⟩
end Go.Proofs.Ytegomkgfmaclkaa
