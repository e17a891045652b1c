/-
  Messages: message.Tried, posteref14.Tried, each by its contract.
-/
import Derived.Test.YtbckobclicogiaaMt
import Derived.Test.YtbckobclicogiaaSl5
set_option linter.unusedVariables false
namespace Go.Proofs.Ytbckobclicogiaa
open Go.RowKit Go.Proofs.PosteMem

def triedI (r : Int) : Int := if r < 1000 then wrap64 (r + 1) else 1000
def triedM (x : Msg) : Msg := ⟨x.id, x.pri, triedI x.retry, false, x.corr, x.body⟩
theorem heap_alloc2_mid (w : World) (A B : Obj) : ((w.alloc A).alloc B).drew.heap[w.heap.size + 1]? = some B := by
  show ((w.alloc A).alloc B).heap[w.heap.size + 1]? = some B
  have := heap_alloc_new (w.alloc A) B
  rwa [show (w.alloc A).heap.size = w.heap.size + 1 by simp] at this

set_option maxHeartbeats 2000000 in
theorem tried_any (w : World) (x : Msg) (limit : Int) :
    Calls Try.prog 38 #[.agg x.cells.toArray, .int .i64 limit] w fun e w' => e = .returned (.tuple #[.agg (triedM x).cells.toArray, .bool (decide (limit ≤ triedI x.retry))]) ∧ Below w.heap.size w w' := by
  obtain ⟨id, pri, retry, claimed, corr, body⟩ := x
  unfold triedM triedI Msg.cells
  simp only
  by_cases h : retry < 1000
  all_goals
    first | (have h2 : retry ≤ 999 := by omega) | (have h2 : ¬ retry ≤ 999 := by omega)
    go_enter Try.func38, Try.ntmps38
    go_wp2_with fail
  all_goals try (go_region_law (fail))
  all_goals try (go_wp2_with fail)
  all_goals
    (try simp only [Exit.inBlock, Exit.then])
    refine bodyPost_ret (results_cell_tmp_row rfl _ _ (w.heap.size + 1) _ _ _ _ rfl (heap_alloc2_mid _ _ _) Try.underlying34 rfl (by kernel_rfl) _ rfl) rfl ?_
    refine ⟨rfl, ?_⟩
    (refine upd_to_below ?_; repeat (first | exact Upd.refl _ _ | refine Upd.setCell ?_ (Or.inl (by simp)) _ | refine Upd.alloc ?_ _ | refine Upd.drewN ?_ _ | refine Upd.drew ?_))
set_option maxHeartbeats 2000000 in
theorem rtried_any (w : World) (x : Msg) (limit : Int) :
    Calls Try.prog 42 #[.agg x.cells.toArray, .int .i64 limit] w fun e w' => e = .returned (.tuple #[.agg (triedM x).cells.toArray, .bool (decide (limit ≤ triedI x.retry))]) ∧ Below w.heap.size w w' := by
  obtain ⟨id, pri, retry, claimed, corr, body⟩ := x
  unfold triedM triedI Msg.cells
  simp only
  by_cases h : retry < 1000
  all_goals
    go_enter Try.func42, Try.ntmps42
    go_wp2_with fail
  all_goals try (go_region_law (fail))
  all_goals try (go_wp2_with fail)
  all_goals
    (try simp only [Exit.inBlock, Exit.then])
    refine bodyPost_ret (results_cell_tmp_row rfl _ _ (w.heap.size + 1) _ _ _ _ rfl (heap_alloc2_mid _ _ _) Try.underlying34 rfl (by kernel_rfl) _ rfl) rfl ?_
    refine ⟨rfl, ?_⟩
    (refine upd_to_below ?_; repeat (first | exact Upd.refl _ _ | refine Upd.setCell ?_ (Or.inl (by simp)) _ | refine Upd.alloc ?_ _ | refine Upd.drewN ?_ _ | refine Upd.drew ?_))
end Go.Proofs.Ytbckobclicogiaa
