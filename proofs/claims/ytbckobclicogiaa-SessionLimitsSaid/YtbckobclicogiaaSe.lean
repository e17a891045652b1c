/-
  Requests: session.Right and what it calls, each by its contract.
-/
import Derived.Test.YtbckobclicogiaaProg
import Derived.Test.YtbckobclicogiaaMem
import Derived.Test.YtbckobclicogiaaSl
import Derived.WalkKit
import Derived.WalkSpells
import Derived.WalkLawsBesides
import Derived.Deep.QuietTactic
import Derived.BigQuiet
import Derived.StillTailTactics
import Derived.Lib.Hide
import Derived.Handy
import Derived.Deep.RegionHeld3
import Derived.Deep.RegionWith
import Derived.Deep.DeepMust
import Derived.Deep.RegionLaw
import Derived.BigRegion
namespace Go.Proofs.Ytbckobclicogiaa
open Go.RowKit Go.Proofs.PosteMem

theorem upd_to_below {w w1 : World} (h : Upd (fun _ => False) w w1) : Below w.heap.size w w1 := h.below (Nat.le_refl _) (fun _ h => h.elim)

structure Req where
  kind : Int
  name : ByteArray
  key : ByteArray
  value : ByteArray
  n : Int
  pri : Int
def Req.val (q : Req) : Value := .agg #[.int .i64 q.kind, .string q.name, .string q.key, .string q.value, .int .i64 q.n, .int .i64 q.pri]
def E0 : ByteArray := ⟨#[]⟩
def namedR (q : Req) : Req :=
  ⟨q.kind, if 6 ≤ q.kind then q.name else E0,
   if q.kind = 7 ∨ q.kind = 8 ∨ q.kind = 9 ∨ q.kind = 10 ∨ q.kind = 11 ∨ q.kind = 13 then q.key else E0,
   if q.kind = 8 ∨ q.kind = 10 ∨ q.kind = 11 then q.value else E0,
   if q.kind = 5 ∨ q.kind = 6 then q.n else 0,
   if q.kind = 6 ∨ q.kind = 11 then q.pri else 0⟩

theorem heap_alloc3_mid (w : World) (A B C : Obj) : (((w.alloc A).alloc B).alloc C).heap[w.heap.size + 1]? = some B := by
  exact (heap_alloc_old _ C (by simp)).trans (heap_alloc2_new w A B)
theorem kinds (k : Int) : k = 5 ∨ k = 6 ∨ k = 7 ∨ k = 8 ∨ k = 9 ∨ k = 10 ∨ k = 11 ∨ k = 13 ∨ (k ≠ 5 ∧ k ≠ 6 ∧ k ≠ 7 ∧ k ≠ 8 ∧ k ≠ 9 ∧ k ≠ 10 ∧ k ≠ 11 ∧ k ≠ 13 ∧ 6 ≤ k) ∨ (k ≠ 5 ∧ k ≠ 6 ∧ k ≠ 7 ∧ k ≠ 8 ∧ k ≠ 9 ∧ k ≠ 10 ∧ k ≠ 11 ∧ k ≠ 13 ∧ ¬ 6 ≤ k) := by omega

set_option maxRecDepth 100000 in
set_option maxHeartbeats 4000000 in
theorem named_any (w : World) (q : Req) : Calls Try.prog 45 #[q.val] w fun e w' => e = .returned (namedR q).val ∧ Below w.heap.size w w' := by
  obtain ⟨kind, name, key, value, n, pri⟩ := q
  unfold Req.val namedR
  rcases kinds kind with rfl | rfl | rfl | rfl | rfl | rfl | rfl | rfl | h | h
  all_goals
    go_enter Try.func45, Try.ntmps45
    go_wp2_with fail
  all_goals try (go_region_law (fail))
  all_goals try (go_wp2_with fail)
  all_goals
    (try simp only [Exit.inBlock, Exit.then])
    refine bodyPost_ret (results_cell_row rfl _ _ (w.heap.size + 1) _ _ _ _ rfl (heap_alloc3_mid _ _ _ _) Try.underlying38 rfl (by kernel_rfl)) rfl ?_
    refine ⟨rfl, ?_⟩
    (refine upd_to_below ?_; repeat (first | exact Upd.refl _ _ | refine Upd.setCell ?_ (Or.inl (by simp)) _ | refine Upd.alloc ?_ _ | refine Upd.drewN ?_ _ | refine Upd.drew ?_))
end Go.Proofs.Ytbckobclicogiaa
