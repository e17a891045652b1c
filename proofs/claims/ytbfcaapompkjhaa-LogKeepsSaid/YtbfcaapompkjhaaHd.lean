/-
  log.Open, log.Records by their contracts.
-/
import Derived.Test.YtbfcaapompkjhaaHc
set_option linter.unusedVariables false
set_option linter.unusedSimpArgs false
namespace Go.Proofs.Ytbfcaapompkjhaa
open Go.RowKit Go.Proofs.PosteMem
attribute [local go_sem ↓] Go.wp_at_zero Go.wp_at_succ

/-- All records that come, one by one. -/
inductive Opens (D : Dk) : Lg → Lg → Prop where
  | stop (g : Lg) (h : fitsB g.en g.nx 0 = false ∨ lnext D g = none) : Opens D g g
  | step {g g1 g2 : Lg} (h : fitsB g.en g.nx 0 = true) (hn : lnext D g = some g1) (ht : Opens D g1 g2) : Opens D g g2
theorem lnext_some {D : Dk} {g g1 : Lg} (h : lnext D g = some g1) : nextOk D g ∧ g1 = g.with (D.get (g.nx + 1) (lsz (D.read g.nx))) (lsz (D.read g.nx)) := by
  unfold lnext at h
  split at h
  · rename_i hh; cases h; exact ⟨hh, rfl⟩
  · cases h
theorem fitsB_iff {en nx s : Int} : fitsB en nx s = true ↔ 1 ≤ en - nx ∧ needI s ≤ en - nx - 1 := by unfold fitsB; rw [decide_eq_true_eq]
theorem needI_nn {n : Int} : 0 ≤ needI n := by unfold needI; split <;> omega
theorem lnext_small {D : Dk} {g g1 : Lg} (hs : Small g) (h : lnext D g = some g1) (hr : (g.recs.length : Int) ≤ g.nx) : Small g1 ∧ g1.en = g.en ∧ g.nx + 1 ≤ g1.nx ∧ (g1.recs.length : Int) ≤ g1.nx ∧ g1.nx ≤ g.en := by
  obtain ⟨h1, rfl⟩ := lnext_some h
  have h2 := fitsB_iff.1 h1.2.1
  have h3 := needI_nn (n := lsz (D.read g.nx))
  obtain ⟨s1, s2, s3, s4, s5⟩ := hs
  unfold Lg.with
  simp only [List.length_append, List.length_singleton]
  exact ⟨⟨s1, s2, by simp only; omega, by simp only; omega, by simp only [List.length_append, List.length_singleton]; omega⟩, trivial, by omega, by omega, by omega⟩

theorem lo_new {w W : World} {p : Nat} {D : Dk} {K : Nat → Prop} (h : Hd w W p D K) (at' en ep' : Int) :
    Lo w (W.alloc (.cells #[.pointer (some ⟨p, 0, none⟩), .int .i64 at', .int .i64 en, .int .i64 at', .int .i64 ep', .slice none 0 0, .bool false] 88)) p W.heap.size D ⟨at', en, at', ep', [], false⟩ K := by
  have hb : Below W.heap.size W (W.alloc (.cells #[.pointer (some ⟨p, 0, none⟩), .int .i64 at', .int .i64 en, .int .i64 at', .int .i64 ep', .slice none 0 0, .bool false] 88)) := (Below.refl _ _).alloc (Nat.le_refl _) _
  refine ⟨.slice none 0 0, [], fun b => b = W.heap.size, (h.client hb).mono fun b hb => ?_, fun b e => ?_, rfl, fun b e => (by cases e), Whole.new _ _ _, World.ownsRow_nil _ _ _ _, ⟨rfl, fun i h1 => (by cases h1), fun i h1 => (by cases h1)⟩⟩
  · rcases hb with hb | hb
    · exact .inl hb
    · exact .inr ⟨by omega, by simp; omega⟩
  · subst e
    exact ⟨h.acc.size, fun hk => by have := hd_in h hk; omega⟩

set_option maxRecDepth 100000 in
set_option maxHeartbeats 8000000 in
theorem open_any {w W : World} {p : Nat} {D : Dk} {K : Nat → Prop} (h : Hd w W p D K) (hk : D.ok) (hf : Fit D) (at' n ep' : Int) (h0 : 0 ≤ at') (h1 : 1 ≤ n) (h2 : at' + n ≤ D.now.length) :
    Calls Try.prog 46 #[.pointer (some ⟨p, 0, none⟩), .int .i64 at', .int .i64 n, .int .i64 ep'] W fun e w' => ∃ q g, e = .returned (.pointer (some ⟨q, 0, none⟩)) ∧ Opens D ⟨at', at' + n, at', ep', [], false⟩ g ∧ Lo w w' p q D g K ∧ Keeps K W w' := by
  have hm := hk.max
  have hlo := lo_new h at' (at' + n) ep'
  have hb0 : Below W.heap.size W (W.alloc (.cells #[.pointer (some ⟨p, 0, none⟩), .int .i64 at', .int .i64 at', .int .i64 at', .int .i64 ep', .slice none 0 0, .bool false] 88)) := (Below.refl _ _).alloc (Nat.le_refl _) _
  have hq := Whole.new W 88 #[.pointer (some ⟨p, 0, none⟩), .int .i64 at', .int .i64 at', .int .i64 at', .int .i64 ep', .slice none 0 0, .bool false]
  have hkp0 : Keeps K W (W.alloc (.cells #[.pointer (some ⟨p, 0, none⟩), .int .i64 at', .int .i64 (at' + n), .int .i64 at', .int .i64 ep', .slice none 0 0, .bool false] 88)) := Keeps.of_below ((Below.refl _ _).alloc (Nat.le_refl _) _)
  have hd0 := h.below hb0
  have kI := Lib.hid (is_any hd0 hk at' 0)
  have hI : isB D.now.length at' 0 = true := by unfold isB; rw [decide_eq_true_eq]; omega
  rw [hI] at kI
  have kL := Lib.hid (hd_len hd0)
  have q1 : n ≤ (D.now.length : Int) - at' := by omega
  have q2 : ¬ n ≤ 0 := by omega
  have ew : IntKind.i64.wrap ((D.now.length : Int) - at') = (D.now.length : Int) - at' := by rw [IntKind.wrap_i64]; omega
  have ew2 : IntKind.i64.wrap (at' + n) = at' + n := by rw [IntKind.wrap_i64]; omega
  have f2 := hq.frozen 2
  have c2 : (W.alloc (.cells #[.pointer (some ⟨p, 0, none⟩), .int .i64 at', .int .i64 at', .int .i64 at', .int .i64 ep', .slice none 0 0, .bool false] 88)).cell? ⟨W.heap.size, 2, none⟩ = some (.int .i64 at') := hq.cell 2
  have hql := hq.lt
  have hS0 : Small ⟨at', at' + n, at', ep', [], false⟩ := ⟨by simp only; omega, by simp only; omega, by simp only; omega, by simp only; omega, by simp⟩
  replace hlo := Lib.hid hlo
  replace hkp0 := Lib.hid hkp0
  clear hq hd0 h hb0
  go_enter Try.func46, Try.ntmps46
  go_wp2_with fail
  refine kI.out.mono ?_; rintro x w1 ⟨rfl, hw1⟩
  have hw2 := hw1.symm
  subst hw2
  clear hw1 kI
  go_wp2_with fail
  refine kL.out.mono ?_; rintro x w1 ⟨rfl, hw1⟩
  have hw2 := hw1.symm
  subst hw2
  clear hw1 kL
  go_upto_region 4 with fail
  replace hlo := hlo.out
  replace hkp0 := hkp0.out
  generalize W.alloc (.cells #[.pointer (some ⟨p, 0, none⟩), .int .i64 at', .int .i64 (at' + n), .int .i64 at', .int .i64 ep', .slice none 0 0, .bool false] 88) = W1 at *
  generalize W.heap.size = q at *
  clear f2 c2 hql q1 q2 ew ew2 hI
  go_loopw [37] (fun _ wr => ∃ g : Lg, (∀ g', Opens D g g' → Opens D ⟨at', at' + n, at', ep', [], false⟩ g') ∧ Small g ∧ g.en = at' + n ∧ (g.recs.length : Int) ≤ g.nx ∧ Lo w wr p q D g K ∧ Keeps K W wr) (fun _ wr => (at' + n - intOf ((wr.cell? ⟨q, 3, none⟩).getD undef)).toNat)
  case atStart => exact ⟨_, fun g' h => h, hS0, rfl, by simp only [List.length_nil]; omega, hlo, hkp0⟩
  case round =>
    clear hlo hkp0 hS0
    obtain ⟨g, hO, hS, hen, hrl, hL, hkp⟩ := hrel
    have hL0 := hL
    obtain ⟨v, hs, M, hLa⟩ := hL
    have c2 : wr.cell? ⟨q, 2, none⟩ = some (.int .i64 g.en) := hLa.box.cell 2
    have c3 : wr.cell? ⟨q, 3, none⟩ = some (.int .i64 g.nx) := hLa.box.cell 3
    have kF := Lib.hid (fits_any wr q g.en g.nx 0 c2 c3 hS.en0 (by have := hS.en1; omega) hS.nx0 (by have := hS.nx1; omega) (by decide))
    cases hfb : fitsB g.en g.nx 0 with
    | false =>
      rw [hfb] at kF
      replace hL0 := Lib.hid hL0
      replace hO := Lib.hid hO
      clear hLa c2 c3 hS
      go_wp2_with fail
      refine kF.out.mono ?_; rintro e w1 ⟨rfl, hb1⟩
      go_wp2_with fail
      go_ret
      exact ⟨_, g, rfl, hO.out g (.stop g (.inl hfb)), hL0.out.below hb1, hkp.trans (Keeps.of_below hb1)⟩
    | true =>
      rw [hfb] at kF
      have kR := Lib.hid (fun w1 (hb1 : Below wr.heap.size wr w1) => lread_any (hL0.below hb1) hk hf hS)
      have hnx : ∀ g1, lnext D g = some g1 → Small g1 ∧ g1.en = g.en ∧ g.nx + 1 ≤ g1.nx ∧ (g1.recs.length : Int) ≤ g1.nx ∧ g1.nx ≤ g.en := fun g1 h => lnext_small hS h hrl
      have hstep : ∀ g1, lnext D g = some g1 → ∀ g', Opens D g1 g' → Opens D ⟨at', at' + n, at', ep', [], false⟩ g' := fun g1 h g' h' => hO g' (.step hfb h h')
      have hstop : lnext D g = none → Opens D ⟨at', at' + n, at', ep', [], false⟩ g := fun h => hO g (.stop g (.inr h))
      generalize lnext D g = r at *
      replace hL0 := Lib.hid hL0
      replace hO := Lib.hid hO
      replace hnx := Lib.hid hnx
      replace hstep := Lib.hid hstep
      replace hstop := Lib.hid hstop
      replace hS := Lib.hid hS
      have c3' := Lib.hid c3
      clear hLa c2 c3
      cases r with
      | none =>
        go_wp2_with fail
        refine kF.out.mono ?_; rintro e w1 ⟨rfl, hb1⟩
        have kR1 := Lib.hid (kR.out w1 hb1)
        go_wp2_with fail
        refine kR1.out.mono ?_; rintro e w2 ⟨rfl, hL2, hkp2⟩
        go_wp2_with fail
        go_ret
        exact ⟨_, g, rfl, hstop.out (by trivial), hL2, (hkp.trans (Keeps.of_below hb1)).trans hkp2⟩
      | some g1 =>
        obtain ⟨n1, n2, n3, n4, n5⟩ := hnx.out g1 rfl
        go_wp2_with fail
        refine kF.out.mono ?_; rintro e w1 ⟨rfl, hb1⟩
        have kR1 := Lib.hid (kR.out w1 hb1)
        go_wp2_with fail
        refine kR1.out.mono ?_; rintro e w2 ⟨rfl, hL2, hkp2⟩
        have hL2' : Lo w w2 p q D g1 K := hL2
        have hc9 : w2.cell? ⟨q, 3, none⟩ = some (.int .i64 g1.nx) := by
          obtain ⟨_, _, _, hLb⟩ := hL2'
          exact hLb.box.cell 3
        have hkp3 := Lib.hid ((hkp.trans (Keeps.of_below hb1)).trans hkp2)
        replace hL2' := Lib.hid hL2'
        replace hc9 := Lib.hid hc9
        clear hL2 hkp2 kR kR1 kF
        go_wp2_with fail
        go_roundw
        case rel => exact ⟨g1, hstep.out g1 rfl, n1, by rw [n2]; exact hen, n4, hL2'.out, hkp3.out⟩
        case measure =>
          rw [hc9.out, c3'.out]
          simp [intOf]
          omega
end Go.Proofs.Ytbfcaapompkjhaa
