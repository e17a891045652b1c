/-
  Requests: posteref14.RightReq by its contract.
-/
import Derived.Test.YtbckobclicogiaaSi
set_option linter.unusedSimpArgs false
set_option linter.unusedVariables false
namespace Go.Proofs.Ytbckobclicogiaa
open Go.RowKit Go.Proofs.PosteMem

set_option maxHeartbeats 1000000 in
theorem rname_any (w : World) (k : ByteArray) : Calls Try.prog 48 #[.string k] w fun e w' => e = .returned (.bool (nameB k)) ∧ w = w' := by
  unfold nameB
  go_enter Try.func48, Try.ntmps48
  go_wp2
  all_goals
    go_ret
    refine ⟨ret_bool ?_, rfl⟩
    (first | rfl | (simp [*]; done) | (simp [*]; omega) | (rw [Bool.eq_iff_iff]; simp only [Bool.and_eq_true, Bool.or_eq_true, decide_eq_true_eq, Bool.false_eq_true, false_iff, true_iff, iff_true, iff_false, Bool.true_and, Bool.false_and, Bool.false_or, Bool.true_or, Bool.not_true, Bool.not_false]; omega) | (rw [Bool.eq_iff_iff]; simp; omega))
set_option maxHeartbeats 1000000 in
theorem rkind_any (w : World) (n pri : Int) : Calls Try.prog 50 #[.int .i64 n, .int .i64 pri] w fun e w' => e = .returned (.bool (objB n pri)) ∧ w = w' := by
  unfold objB
  by_cases h1 : n = 1
  all_goals by_cases h2 : n = 2
  all_goals
    go_enter Try.func50, Try.ntmps50
    go_wp2
  all_goals
    go_ret
    refine ⟨ret_bool ?_, rfl⟩
    (first | rfl | (simp [*]; done) | (simp [*]; omega) | (rw [Bool.eq_iff_iff]; simp only [Bool.and_eq_true, Bool.or_eq_true, decide_eq_true_eq, Bool.false_eq_true, false_iff, true_iff, iff_true, iff_false, Bool.true_and, Bool.false_and, Bool.false_or, Bool.true_or, Bool.not_true, Bool.not_false]; omega) | (rw [Bool.eq_iff_iff]; simp; omega))
set_option maxHeartbeats 1000000 in
theorem rrow_any (w : World) (k : ByteArray) : Calls Try.prog 49 #[.agg #[.string k, .string ⟨#[]⟩]] w fun e w' => e = .returned (.bool (keyB k)) ∧ w' = w.alloc (.cells #[.string k, .string ⟨#[]⟩] 77) := by
  unfold keyB
  go_enter Try.func49, Try.ntmps49
  go_wp2
  all_goals
    go_ret
    refine ⟨ret_bool ?_, rfl⟩
    (first | rfl | (simp [*]; done) | (simp [*]; omega) | (rw [Bool.eq_iff_iff]; simp only [Bool.and_eq_true, Bool.or_eq_true, decide_eq_true_eq, Bool.false_eq_true, false_iff, true_iff, iff_true, iff_false, Bool.true_and, Bool.false_and, Bool.false_or, Bool.true_or, Bool.not_true, Bool.not_false]; omega) | (rw [Bool.eq_iff_iff]; simp; omega))

theorem rightR_in {q : Req} (h1 : 1 ≤ q.kind) (h2 : q.kind ≤ 14) (h : q = namedR q) : rightR q = if longR q = true then 6 else if numsR q = true then 0 else 1 := by
  unfold rightR
  rw [if_neg]
  rintro (h3 | h3 | h3)
  · omega
  · omega
  · exact h3 h
theorem rightR_out {q : Req} (h : q ≠ namedR q) : rightR q = 1 := by
  unfold rightR
  rw [if_pos (.inr (.inr h))]
/-- The kinds that may be. -/
theorem kinds14 (k : Int) (h1 : 1 ≤ k) (h2 : k ≤ 14) : k = 1 ∨ k = 2 ∨ k = 3 ∨ k = 4 ∨ k = 5 ∨ k = 6 ∨ k = 7 ∨ k = 8 ∨ k = 9 ∨ k = 10 ∨ k = 11 ∨ k = 12 ∨ k = 13 ∨ k = 14 := by omega

set_option maxRecDepth 100000 in
set_option maxHeartbeats 16000000 in
theorem refRight_mid (w : World) (q : Req) (h1 : 1 ≤ q.kind) (h2 : q.kind ≤ 14) : Calls Try.prog 22 #[q.val] w fun e w' => e = .returned (.int .i64 (rightR q)) ∧ Below w.heap.size w w' := by
  obtain ⟨r, hr⟩ : ∃ r : Bool, r = true ↔ namedR q ≠ q := ⟨@decide _ (Classical.propDecidable _), @decide_eq_true_iff _ (Classical.propDecidable _)⟩
  have hneq := fun w => neq_req' w _ _ _ hr
  have hR : rightR q = if r = true then 1 else if longR q = true then 6 else if numsR q = true then 0 else 1 := by
    cases r with
    | true => rw [if_pos rfl, rightR_out (fun h => hr.1 rfl h.symm)]
    | false => rw [if_neg (by decide), rightR_in h1 h2 (Classical.byContradiction fun h => by have := hr.2 (fun e => h e.symm); cases this)]
  rw [hR]
  clear hr hR
  obtain ⟨kind, name, key, value, n, pri⟩ := q
  simp only at h1 h2
  unfold longR numsR
  unfold Req.val namedR E0 at hneq
  unfold Req.val
  simp only at hneq ⊢
  generalize hn : nameB name = g
  generalize hk : keyB key = g2
  generalize ho : objB n pri = g3
  replace hn := Lib.hid hn
  replace hk := Lib.hid hk
  replace ho := Lib.hid ho
  rcases kinds14 kind h1 h2 with rfl | rfl | rfl | rfl | rfl | rfl | rfl | rfl | rfl | rfl | rfl | rfl | rfl | rfl
  all_goals
    clear h1 h2
    simp only [Int.reduceLE, Int.reduceEq, or_self, or_true, true_or, false_or, or_false, if_true, if_false, reduceIte] at hneq ⊢
    cases r
  all_goals
    go_enter Try.func22, Try.ntmps22
    go_wp2_with (first | (go_at_call 48; refine (rname_any _ _).mono ?_; rintro e w' ⟨rfl, rfl⟩; rw [hn.out]) | (go_at_call 49; refine (rrow_any _ _).mono ?_; rintro e w' ⟨rfl, rfl⟩; rw [hk.out]) | (go_at_call 50; refine (rkind_any _ _ _).mono ?_; rintro e w' ⟨rfl, rfl⟩; rw [ho.out]))
  all_goals
    go_ret
    refine ⟨?_, by (refine upd_to_below ?_; repeat (first | exact Upd.refl _ _ | refine Upd.setCell ?_ (Or.inl (by simp)) _ | refine Upd.alloc ?_ _ | refine Upd.drewN ?_ _ | refine Upd.drew ?_))⟩
    first
      | rfl
      | (refine ret_int ?_; first | rfl | (simp [*]; done) | (clear hneq; cases g <;> cases g3 <;> simp_all; done) | (simp [*]; omega))
end Go.Proofs.Ytbckobclicogiaa
