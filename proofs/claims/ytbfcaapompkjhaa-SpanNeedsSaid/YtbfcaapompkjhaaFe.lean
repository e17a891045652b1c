/-
  SpanNeeds: its walk.
-/
import Derived.Test.YtbfcaapompkjhaaFd
set_option linter.unusedVariables false
set_option linter.unusedSimpArgs false
namespace Go.Proofs.Ytbfcaapompkjhaa
open Go.RowKit Go.Proofs.PosteMem
attribute [local go_sem ↓] Go.wp_at_zero Go.wp_at_succ

set_option maxRecDepth 100000 in
set_option maxHeartbeats 8000000 in
theorem spanNeeds_walk (w : World) (n : Int) (_ : (Lit.int .i64 n).wf = true) (more : Int) (_ : (Lit.int .i64 more).wf = true) : Calls Try.prog 8 #[.int .i64 n, .int .i64 more] w fun e w' => e = .returned (.bool true) ∧ Below w.heap.size w w' := by
  by_cases hg : n < 0 ∨ 1000 < n ∨ more < 1 ∨ 64 < more
  · go_enter Try.func8, Try.ntmps8
    go_wp2_with fail
    refine (alive4 _).mono ?_; rintro e w1 ⟨rfl, hb1⟩
    replace hb1 := Lib.hid hb1
    go_wp2_with fail
    all_goals
      first
        | (go_ret; exact ⟨rfl, hb1.out⟩)
        | (exfalso; omega)
  · have g1 : ¬ n < 0 := by omega
    have g2 : ¬ 1000 < n := by omega
    have g3 : ¬ more < 1 := by omega
    have g4 : ¬ 64 < more := by omega
    clear hg
    have k1 := Lib.hid (fun W => need_any W (64 * n) (by omega))
    have k2 := Lib.hid (fun W => need_any W (64 * n + more) (by omega))
    have k3 := Lib.hid (fun W => need_any W (-more) (by omega))
    rw [show needI (64 * n) = n by unfold needI; split <;> omega] at k1
    rw [show needI (64 * n + more) = n + 1 by unfold needI; split <;> omega] at k2
    rw [show needI (-more) = 0 by unfold needI; rw [if_pos (by omega)]] at k3
    have q1 : IntKind.i64.wrap (64 * n) = 64 * n := IntWalk.i64_in _ (by omega)
    have q2 : IntKind.i64.wrap (64 * n + more) = 64 * n + more := IntWalk.i64_in _ (by omega)
    have q3 : IntKind.i64.wrap (n + 1) = n + 1 := IntWalk.i64_in _ (by omega)
    have q4 : IntKind.i64.wrap (-more) = -more := IntWalk.i64_in _ (by omega)
    go_enter Try.func8, Try.ntmps8
    go_wp2_with fail
    refine (alive4 _).mono ?_; rintro e w1 ⟨rfl, hb1⟩
    replace hb1 := Lib.hid hb1
    go_wp2_with fail
    refine (k1.out _).mono ?_; rintro e w2 ⟨rfl, hw1⟩
    have hw2 := hw1.symm
    subst hw2
    clear hw1
    go_wp2_with fail
    refine (k2.out _).mono ?_; rintro e w2 ⟨rfl, hw1⟩
    have hw2 := hw1.symm
    subst hw2
    clear hw1
    go_wp2_with fail
    refine (k3.out _).mono ?_; rintro e w2 ⟨rfl, hw1⟩
    have hw2 := hw1.symm
    subst hw2
    clear hw1
    go_wp2_with fail
    go_ret
    exact ⟨rfl, hb1.out⟩
end Go.Proofs.Ytbfcaapompkjhaa
