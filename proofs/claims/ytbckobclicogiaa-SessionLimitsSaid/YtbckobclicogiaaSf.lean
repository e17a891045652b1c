/-
  Requests: session.long and session.numbers, each by its contract.
-/
import Derived.Test.YtbckobclicogiaaSe
set_option linter.unusedSimpArgs false
set_option linter.unusedVariables false
namespace Go.Proofs.Ytbckobclicogiaa
open Go.RowKit Go.Proofs.PosteMem

def nameB (k : ByteArray) : Bool := decide (1 ≤ k.size) && decide (k.size ≤ 16)
def keyB (k : ByteArray) : Bool := decide (1 ≤ k.size) && decide (k.size ≤ 40)
def objB (n pri : Int) : Bool := (decide (n = 1) && decide (pri = 0)) || (decide (n = 2) && (decide (1 ≤ pri) && decide (pri ≤ 1000)))
def longR (q : Req) : Bool := (decide (6 ≤ q.kind) && !nameB q.name) || (if q.kind = 7 ∨ q.kind = 9 then !keyB q.key else if q.kind = 8 then !keyB q.key || decide (100 < q.value.size) else if q.kind = 10 then decide (40 < q.key.size) || decide (40 < q.value.size) else if q.kind = 11 then decide (100 < q.value.size) || decide (40 < q.key.size) else if q.kind = 13 then decide (40 < q.key.size) else false)
def numsR (q : Req) : Bool := if q.kind = 6 then nameB q.name && objB q.n q.pri else if q.kind = 11 then decide (-1000 ≤ q.pri) && decide (q.pri ≤ 1000) else if q.kind = 5 then decide (0 ≤ q.n) else true

set_option maxHeartbeats 1000000 in
theorem key_any (w : World) (k : ByteArray) : Calls Try.prog 62 #[.string k] w fun e w' => e = .returned (.bool (keyB k)) ∧ w = w' := by
  unfold keyB
  go_enter Try.func62, Try.ntmps62
  go_wp2
  all_goals
    go_ret
    refine ⟨ret_bool ?_, rfl⟩
    rw [Bool.eq_iff_iff]
    simp only [Bool.and_eq_true, decide_eq_true_eq, Bool.false_eq_true, false_iff]
    omega
set_option maxHeartbeats 1000000 in
theorem ename_any (w : World) (k : ByteArray) : Calls Try.prog 61 #[.string k] w fun e w' => e = .returned (.bool (nameB k)) ∧ w = w' := by
  unfold nameB
  go_enter Try.func61, Try.ntmps61
  go_wp2
  all_goals
    go_ret
    refine ⟨ret_bool ?_, rfl⟩
    rw [Bool.eq_iff_iff]
    simp only [Bool.and_eq_true, decide_eq_true_eq, Bool.false_eq_true, false_iff]
    omega
set_option maxHeartbeats 4000000 in
theorem eobject_any (w : World) (k : ByteArray) (n pri : Int) : Calls Try.prog 63 #[.string k, .int .i64 n, .int .i64 pri] w fun e w' => e = .returned (.bool (nameB k && objB n pri)) ∧ w = w' := by
  generalize hk : nameB k = g
  replace hk := Lib.hid hk
  unfold objB
  by_cases h1 : n = 1
  all_goals by_cases h2 : n = 2
  all_goals cases g
  all_goals
    go_enter Try.func63, Try.ntmps63
    go_wp2_with (go_at_call 61; refine (ename_any _ _).mono ?_; rintro e w' ⟨rfl, rfl⟩; rw [hk.out])
  all_goals
    go_ret
    refine ⟨ret_bool ?_, rfl⟩
    (first | rfl | (simp [*]; done) | (simp [*]; omega) | (rw [Bool.eq_iff_iff]; simp only [Bool.and_eq_true, Bool.or_eq_true, decide_eq_true_eq, Bool.false_eq_true, false_iff, true_iff, iff_true, iff_false, Bool.true_and, Bool.false_and, Bool.false_or, Bool.true_or, Bool.not_true, Bool.not_false]; omega) | (rw [Bool.eq_iff_iff]; simp; omega))

set_option maxRecDepth 100000 in
set_option maxHeartbeats 8000000 in
theorem long_any (w : World) (q : Req) : Calls Try.prog 46 #[q.val] w fun e w' => e = .returned (.bool (longR q)) ∧ Below w.heap.size w w' := by
  obtain ⟨kind, name, key, value, n, pri⟩ := q
  unfold Req.val longR
  simp only
  generalize hn : nameB name = g
  generalize hk : keyB key = g2
  replace hn := Lib.hid hn
  replace hk := Lib.hid hk
  rcases kinds kind with rfl | rfl | rfl | rfl | rfl | rfl | rfl | rfl | h | h
  all_goals cases g
  all_goals cases g2
  all_goals
    go_enter Try.func46, Try.ntmps46
    go_wp2_with (first | (go_at_call 61; refine (ename_any _ _).mono ?_; rintro e w' ⟨rfl, rfl⟩; rw [hn.out]) | (go_at_call 62; refine (key_any _ _).mono ?_; rintro e w' ⟨rfl, rfl⟩; rw [hk.out]))
  all_goals
    go_ret
    refine ⟨ret_bool ?_, by (refine upd_to_below ?_; repeat (first | exact Upd.refl _ _ | refine Upd.setCell ?_ (Or.inl (by simp)) _ | refine Upd.alloc ?_ _ | refine Upd.drewN ?_ _ | refine Upd.drew ?_))⟩
    (first | rfl | (simp [*]; done) | (simp [*]; omega) | (rw [Bool.eq_iff_iff]; simp only [Bool.and_eq_true, Bool.or_eq_true, decide_eq_true_eq, Bool.false_eq_true, false_iff, true_iff, iff_true, iff_false, Bool.true_and, Bool.false_and, Bool.false_or, Bool.true_or, Bool.not_true, Bool.not_false]; omega) | (rw [Bool.eq_iff_iff]; simp; omega))
set_option maxRecDepth 100000 in
set_option maxHeartbeats 8000000 in
theorem numbers_any (w : World) (q : Req) : Calls Try.prog 47 #[q.val] w fun e w' => e = .returned (.bool (numsR q)) ∧ Below w.heap.size w w' := by
  obtain ⟨kind, name, key, value, n, pri⟩ := q
  unfold Req.val numsR
  simp only
  generalize hn : (nameB name && objB n pri) = g
  replace hn := Lib.hid hn
  rcases kinds kind with rfl | rfl | rfl | rfl | rfl | rfl | rfl | rfl | h | h
  all_goals
    go_enter Try.func47, Try.ntmps47
    go_wp2_with (go_at_call 63; refine (eobject_any _ _ _ _).mono ?_; rintro e w' ⟨rfl, rfl⟩; rw [hn.out])
  all_goals
    go_ret
    refine ⟨ret_bool ?_, by (refine upd_to_below ?_; repeat (first | exact Upd.refl _ _ | refine Upd.setCell ?_ (Or.inl (by simp)) _ | refine Upd.alloc ?_ _ | refine Upd.drewN ?_ _ | refine Upd.drew ?_))⟩
    (first | rfl | (simp [*]; done) | (simp [*]; omega) | (rw [Bool.eq_iff_iff]; simp only [Bool.and_eq_true, Bool.or_eq_true, decide_eq_true_eq, Bool.false_eq_true, false_iff, true_iff, iff_true, iff_false, Bool.true_and, Bool.false_and, Bool.false_or, Bool.true_or, Bool.not_true, Bool.not_false]; omega) | (rw [Bool.eq_iff_iff]; simp; omega))
end Go.Proofs.Ytbckobclicogiaa
