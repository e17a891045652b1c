/-
  Objects as arguments.
-/
import Derived.Test.YtbckobclicogiaaMw
import Derived.Test.YtbckobclicogiaaOpenV
set_option linter.unusedVariables false
namespace Go.Proofs.Ytbckobclicogiaa
open Go.RowKit Go.Proofs.PosteMem Go.Proofs.PosteOpen

@[reducible] def KRow : Kd := .cons 9 .str (.cons 9 .str .nil)
@[reducible] def KMsg : Kd := .cons 3 (.int .i64) (.cons 3 (.int .i64) (.cons 3 (.int .i64) (.cons 4 .bool (.cons 9 .str (.cons 9 .str .nil)))))
@[reducible] def KOb : Kd := .cons 9 .str (.cons 3 (.int .i64) (.cons 3 (.int .i64) (.cons 22 (.sl 77 KRow) (.cons 23 (.sl 34 KMsg) (.cons 23 (.sl 34 KMsg) .nil)))))
def rowOf (x : KRow.T) : Row := ⟨x.1, x.2.1⟩
def msgOf (x : KMsg.T) : Msg := ⟨x.1, x.2.1, x.2.2.1, x.2.2.2.1, x.2.2.2.2.1, x.2.2.2.2.2.1⟩
theorem enc_rows (l : List KRow.T) : l.flatMap KRow.enc = (l.map rowOf).flatMap Row.cells := by
  induction l with
  | nil => rfl
  | cons a l ih => rw [List.flatMap_cons, List.map_cons, List.flatMap_cons, ih]; rfl
theorem enc_msgs (l : List KMsg.T) : l.flatMap KMsg.enc = (l.map msgOf).flatMap Msg.cells := by
  induction l with
  | nil => rfl
  | cons a l ih => rw [List.flatMap_cons, List.map_cons, List.flatMap_cons, ih]; rfl
theorem rows_of_rd {W : World} {v : Value} {l : List KRow.T} (r : Rd Try.prog W (.sl 77 KRow) [v] l) : VRows W v (l.map rowOf) := by
  have hv := rd_view_flat rfl r
  rw [enc_rows] at hv
  unfold VRows
  rw [List.length_map]
  exact hv
theorem msgs_of_rd {W : World} {v : Value} {l : List KMsg.T} (r : Rd Try.prog W (.sl 34 KMsg) [v] l) : VMsgs W v (l.map msgOf) := by
  have hv := rd_view_flat rfl r
  rw [enc_msgs] at hv
  unfold VMsgs
  rw [List.length_map]
  exact hv
theorem ob_of_rd {W : World} {cs : Array Value} {x : KOb.T} (z : Rd Try.prog W KOb (Value.agg cs).cells.toList x) : ∃ o r m d, Value.agg cs = .agg (Ob.cells o r m d) ∧ VOb W o r m d := by
  obtain ⟨c1, t1, e1, _, h1, z⟩ := z
  obtain ⟨c2, t2, e2, _, h2, z⟩ := z
  obtain ⟨c3, t3, e3, _, h3, z⟩ := z
  obtain ⟨c4, t4, e4, _, h4, z⟩ := z
  obtain ⟨c5, t5, e5, _, h5, z⟩ := z
  obtain ⟨c6, t6, e6, _, h6, z⟩ := z
  obtain ⟨A4, n4, f4, _⟩ := id h4
  obtain ⟨A5, n5, f5, _⟩ := id h5
  obtain ⟨A6, n6, f6, _⟩ := id h6
  rw [f4] at h4
  rw [f5] at h5
  rw [f6] at h6
  refine ⟨⟨x.1, x.2.1, x.2.2.1, x.2.2.2.1.map rowOf, x.2.2.2.2.1.map msgOf, x.2.2.2.2.2.1.map msgOf⟩, _, _, _, ?_, ⟨rows_of_rd h4, msgs_of_rd h5, msgs_of_rd h6⟩⟩
  have e : cs.toList = ([.string x.1] ++ ([.int .i64 x.2.1] ++ ([.int .i64 x.2.2.1] ++ ([.slice A4 x.2.2.2.1.length n4] ++ ([.slice A5 x.2.2.2.2.1.length n5] ++ ([.slice A6 x.2.2.2.2.2.1.length n6] ++ [])))))) := by
    have g1 := h1.1
    have g2 := h2.1
    have g3 := h3.1
    have g6 : t6 = [] := z
    rw [g1, e2, g2, e3, g3, e4, f4, e5, f5, e6, f6, g6] at e1
    exact e1
  unfold Ob.cells
  congr 1
  exact Array.toList_inj.1 e
end Go.Proofs.Ytbckobclicogiaa
