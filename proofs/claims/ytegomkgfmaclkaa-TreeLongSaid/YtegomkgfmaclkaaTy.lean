/-
  Cut of a tree leaves another box alone. (tcut_core2 is printed from XTo.head by mk_ty.py.)
-/
import Derived.Test.YtegomkgfmaclkaaTx
set_option linter.unusedVariables false
set_option linter.unusedSimpArgs false
namespace Go.Proofs.Ytegomkgfmaclkaa
open Go.RowKit Go.Proofs.PosteOrd Go.Proofs.PosteMem Go.Proofs.PosteOpen

set_option maxRecDepth 100000 in
set_option maxHeartbeats 8000000 in
theorem tcut_core2 {w : World} {g gz h : Nat} {t : T h} (hgz : gz < w.heap.size) (H : TAt2 w g gz h t) (key : ByteArray) (hm : (rowsT h t).length ≤ 800000) : Calls Try.prog 53 #[ptr g, .string key] w fun e w' => e = .returned (.bool (hit (rowsT h t) key)) ∧ (∃ h', ∃ t' : T h', TAt2 w' g gz h' t' ∧ rowsT h' t' = cutS (rowsT h t) key) ∧ Upd (fun b => b = g) w w' := by
  have kG := tget_any H.at1 key
  cases hh : hit (rowsT h t) key with
  | false =>
    rw [hh] at kG
    rw [cutS_not hh]
    have H' := Lib.hid H
    generalize getK (rowsT h t) key = gv at *
    clear H
    replace kG := Lib.hid kG
    replace hh := Lib.hid hh
    go_enter Try.func53, Try.ntmps53
    go_wp2_with fail
    refine kG.out.mono ?_; rintro e w1 ⟨rfl, hb1⟩
    go_wp2_with fail
    go_ret
    exact ⟨rfl, ⟨h, t, H'.out.below hb1, rfl⟩, Upd.of_below hb1⟩
  | true =>
    rw [hh] at kG
    obtain ⟨q, hx, hP, hT⟩ := H
    have hTc := hT.cut key
    have htall := hT.tall
    have hg := hx.lt
    have kC := fun (W : World) (hW : Below w.heap.size w W) => partCut_any h W (fun b => b ≠ g ∧ b ≠ gz) q t key (hP.below hW) hT.ok hT.two hT.six hT.srt (by omega) (fun b hb => by have := hW.size; omega)
    have c0 : w.cell? ⟨g, 0, none⟩ = some (.pointer (pa h q)) := hx.cell 0
    have c1 : w.cell? ⟨g, 1, none⟩ = some (.pointer (pb h q)) := hx.cell 1
    generalize getK (rowsT h t) key = gv at *
    replace kG := Lib.hid kG
    replace kC := Lib.hid kC
    replace hTc := Lib.hid hTc
    replace hx := Lib.hid hx
    generalize ha : pa h q = a0 at *
    generalize hbb : pb h q = b0 at *
    replace ha := Lib.hid ha
    replace hbb := Lib.hid hbb
    clear hP hT
    go_enter Try.func53, Try.ntmps53
    go_wp2_with fail
    refine kG.out.mono ?_; rintro e w1 ⟨rfl, hb1⟩
    have kC1 := Lib.hid (kC.out w1 hb1)
    replace c0 := kc hb1 c0
    replace c1 := kc hb1 c1
    have hx1 := Lib.hid (hx.out.below hb1)
    have hg1 := hx1.out.lt
    have hB1 := Lib.hid hb1
    clear kG kC hb1 hx
    go_wp2_with fail
    refine kC1.out.mono ?_; rintro e w2 ⟨qc, rfl, hPc, hb2⟩
    have hx2 := hx1.out.below hb2
    have f0 := hx2.frozen 0
    have f1 := hx2.frozen 1
    have g0 : w2.cell? ⟨g, 0, none⟩ = some (.pointer a0) := hx2.cell 0
    have g1 : w2.cell? ⟨g, 1, none⟩ = some (.pointer b0) := hx2.cell 1
    have hg2 := hx2.lt
    have hx3 : Whole ((w2.setCell ⟨g, 0, none⟩ (.pointer (pa h qc))).setCell ⟨g, 1, none⟩ (.pointer (pb h qc))) g 111 #[.pointer (pa h qc), .pointer (pb h qc), .int .i64 ((h : Int) + 1)] := (hx2.set 0 (.pointer (pa h qc))).set 1 (.pointer (pb h qc))
    have hP3 := PAt.keep (keeps_set (w := w2) (C := fun b => b ≠ g ∧ b ≠ gz) (g := g) (fun hc => hc.1 rfl) 0 1 (.pointer (pa h qc)) (.pointer (pb h qc))) h qc _ hPc
    have hU3 := Lib.hid ((Upd.of_below (S := fun b => b = g) (hB1.out.trans (hb2.mono hB1.out.size))).trans (upd_set2 (w := w2) (g := g) 0 1 (.pointer (pa h qc)) (.pointer (pb h qc))) (fun _ _ e => e))
    clear hx2 hPc hb2 kC1 hx1 hB1 c0 c1
    go_upto_region 5 with fail
    generalize hw3 : (w2.setCell ⟨g, 0, none⟩ (.pointer (pa h qc))).setCell ⟨g, 1, none⟩ (.pointer (pb h qc)) = w3 at *
    replace hw3 := Lib.hid hw3
    clear f0 f1 g0 g1 hg2
    have hg3 := hx3.lt
    obtain ⟨hrows, hcases⟩ := hTc.out
    rcases hcases with ⟨hTop, hne⟩ | ⟨g', e, k, hk, hTop⟩
    · have hA3 : TAt2 w3 g gz h (cutT h t key) := ⟨qc, hx3, hP3, hTop⟩
      cases h with
      | zero =>
        have d1 : w3.cell? ⟨g, 1, none⟩ = some (.pointer none) := hx3.cell 1
        replace hA3 := Lib.hid hA3
        replace hrows := Lib.hid hrows
        clear hx3 hP3 hTc hne
        go_wp2_with fail
        go_ret
        exact ⟨rfl, ⟨_, _, hA3.out, hrows.out⟩, hU3.out⟩
      | succ h =>
        have d1 : w3.cell? ⟨g, 1, none⟩ = some (ptr qc) := hx3.cell 1
        obtain ⟨_, v, hxi, hPi⟩ := hP3.inner
        obtain ⟨A, cap, rfl, _, _⟩ := hPi.cells
        have d2 : w3.cell? ⟨qc, 2, none⟩ = some (.slice A (wideT (h + 1) (cutT (h + 1) t key)) cap) := hxi.cell 2
        have hql := hxi.lt
        have hw1 := hne (by omega)
        generalize wideT (h + 1) (cutT (h + 1) t key) = n at *
        have q1 : ((n : Int) == 1) = false := by rw [beq_eq_false_iff_ne]; omega
        have q2 : ¬ (n : Int) = 1 := by omega
        replace hA3 := Lib.hid hA3
        replace hrows := Lib.hid hrows
        clear hx3 hP3 hTc hne hxi hPi hw1
        go_wp2_with fail
        go_ret
        exact ⟨rfl, ⟨_, _, hA3.out, hrows.out⟩, hU3.out⟩
    · subst e
      have hk' : cutT (g' + 1) t key = ([k] : List (T g')) := hk
      rw [hk'] at hP3 hrows
      have d1 : w3.cell? ⟨g, 1, none⟩ = some (ptr qc) := hx3.cell 1
      have d0 : w3.cell? ⟨g, 0, none⟩ = some (.pointer none) := hx3.cell 0
      have d3 : w3.cell? ⟨g, 2, none⟩ = some (.int .i64 (((g' + 1 : Nat) : Int) + 1)) := hx3.cell 2
      obtain ⟨_, v, hxi, hPi⟩ := hP3.inner
      obtain ⟨b, off, cap, ev, hbl, hcl, hcm, hat⟩ := hPi.at_ (by simp)
      obtain ⟨qp, a1, a2, a3⟩ := hat 0 (by simp)
      have a1' : PAt w3 (fun b => b ≠ g ∧ b ≠ gz) g' qp k := a1
      rw [Nat.zero_mul, Nat.add_zero] at a2 a3
      have ev' : v = .slice (some ⟨b, off, none⟩) 1 cap := ev
      subst ev'
      have d2 : w3.cell? ⟨qc, 2, none⟩ = some (.slice (some ⟨b, off, none⟩) 1 cap) := hxi.cell 2
      have hql := hxi.lt
      have f0 := hx3.frozen 0
      have f1 := hx3.frozen 1
      have f2 := hx3.frozen 2
      have hh1 : (((g' + 1 : Nat) : Int) + 1) - 1 = (g' : Int) + 1 := by omega
      have ew : IntKind.i64.wrap ((((g' + 1 : Nat) : Int) + 1) - 1) = (g' : Int) + 1 := by rw [IntKind.wrap_i64]; omega
      have hx9 : Whole (((w3.setCell ⟨g, 0, none⟩ (.pointer (pa g' qp))).setCell ⟨g, 1, none⟩ (.pointer (pb g' qp))).setCell ⟨g, 2, none⟩ (.int .i64 ((g' : Int) + 1))) g 111 #[.pointer (pa g' qp), .pointer (pb g' qp), .int .i64 ((g' : Int) + 1)] := ((hx3.set 0 (.pointer (pa g' qp))).set 1 (.pointer (pb g' qp))).set 2 (.int .i64 ((g' : Int) + 1))
      have hU9 : Upd (fun b => b = g) w3 (((w3.setCell ⟨g, 0, none⟩ (.pointer (pa g' qp))).setCell ⟨g, 1, none⟩ (.pointer (pb g' qp))).setCell ⟨g, 2, none⟩ (.int .i64 ((g' : Int) + 1))) := (upd_set2 (w := w3) (g := g) 0 1 (.pointer (pa g' qp)) (.pointer (pb g' qp))).setCell (p := ⟨g, 2, none⟩) (.inr rfl) _
      have hPi9 := PAt.keep (K := fun b => b ≠ g ∧ b ≠ gz) ⟨_, hU9, fun b hb e => hb.1 e⟩ g' qp _ a1'
      have hA9 : TAt2 (((w3.setCell ⟨g, 0, none⟩ (.pointer (pa g' qp))).setCell ⟨g, 1, none⟩ (.pointer (pb g' qp))).setCell ⟨g, 2, none⟩ (.int .i64 ((g' : Int) + 1))) g gz g' k := ⟨qp, hx9, hPi9, hTop⟩
      have hU10 := Lib.hid (hU3.out.trans hU9 (fun _ _ e => e))
      have hr9 : rowsT g' k = cutS (rowsT (g' + 1) t) key := by
        rw [← hrows]
        show _ = List.flatMap (rowsT g') [k]
        simp [List.flatMap]
      replace hA9 := Lib.hid hA9
      replace hr9 := Lib.hid hr9
      generalize pa g' qp = a6 at *
      generalize pb g' qp = b6 at *
      clear hrows hx9 hU9 hPi9 hat a1 a1' hx3 hP3 hTc hxi hPi hk hk'
      go_wp2_with fail
      go_ret
      exact ⟨rfl, ⟨_, _, hA9.out, hr9.out⟩, hU10.out⟩
theorem tcut2_any {w : World} {g gz : Nat} {L : List Row} (hgz : gz < w.heap.size) (H : Tr2 w g gz L) (key : ByteArray) (hm : L.length ≤ 800000) : Calls Try.prog 53 #[ptr g, .string key] w fun e w' => e = .returned (.bool (hit L key)) ∧ Tr2 w' g gz (cutS L key) ∧ Upd (fun b => b = g) w w' := by
  obtain ⟨h, t, H, rfl⟩ := H
  exact tcut_core2 hgz H key hm
end Go.Proofs.Ytegomkgfmaclkaa
