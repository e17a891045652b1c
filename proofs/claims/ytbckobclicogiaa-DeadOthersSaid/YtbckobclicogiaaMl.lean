/-
  A message stored whole; the state of dead.Free's walk behind that.
-/
import Derived.Test.YtbckobclicogiaaMz
set_option linter.unusedVariables false
set_option linter.unusedSimpArgs false
namespace Go.Proofs.Ytbckobclicogiaa
open Go.RowKit Go.Proofs.PosteMem
attribute [local go_sem ↓] Go.wp_at_zero Go.wp_at_succ

theorem msg_cells {w : World} {B g cap : Nat} {L : List Msg} (h : OMsgs w B (.slice (some ⟨g, 0, none⟩) L.length cap) L) (k : Nat) (hk : k < L.length) :
    w.cell? ⟨g, k * 6, none⟩ = some (.int .i64 L[k].id) ∧ w.cell? ⟨g, k * 6 + 1, none⟩ = some (.int .i64 L[k].pri) ∧ w.cell? ⟨g, k * 6 + 2, none⟩ = some (.int .i64 L[k].retry) ∧
      w.cell? ⟨g, k * 6 + 3, none⟩ = some (.bool L[k].claimed) ∧ w.cell? ⟨g, k * 6 + 4, none⟩ = some (.string L[k].corr) ∧ w.cell? ⟨g, k * 6 + 5, none⟩ = some (.string L[k].body) := by
  obtain ⟨b, off, c, e, _, _, _, f⟩ := msgs_at (View.of_own h) (show 0 < L.length by omega)
  injection e with e1 e2 e3
  injection e1 with e1
  injection e1 with e4 e5 _
  subst e4 e5
  have := f k hk
  simpa only [Nat.zero_add] using this

/-- A message stored whole. -/
def setM (W : World) (g a : Nat) (y : Msg) : World := (((((W.setCell ⟨g, a, none⟩ (.int .i64 y.id)).setCell ⟨g, a + 1, none⟩ (.int .i64 y.pri)).setCell ⟨g, a + 2, none⟩ (.int .i64 y.retry)).setCell ⟨g, a + 3, none⟩ (.bool y.claimed)).setCell ⟨g, a + 4, none⟩ (.string y.corr)).setCell ⟨g, a + 5, none⟩ (.string y.body)
theorem setM_below {B g a : Nat} {w W : World} (h : Below B w W) (hg : B ≤ g) (y : Msg) : Below B w (setM W g a y) := (((((h.setCell (p := ⟨g, a, none⟩) hg _).setCell (p := ⟨g, a + 1, none⟩) hg _).setCell (p := ⟨g, a + 2, none⟩) hg _).setCell (p := ⟨g, a + 3, none⟩) hg _).setCell (p := ⟨g, a + 4, none⟩) hg _).setCell (p := ⟨g, a + 5, none⟩) hg _
theorem setM_whole {W : World} {g : Nat} {T : TypeId} {a b c d e f : Value} (h : Whole W g T #[a, b, c, d, e, f]) (y : Msg) : Whole (setM W g 0 y) g T y.cells.toArray := (((((h.set 0 _).set 1 _).set 2 _).set 3 _).set 4 _).set 5 _
theorem St.msg6 {w W : World} {o : Ob} {r d : Value} {g cap : Nat} (h : St w W o r (.slice (some ⟨g, 0, none⟩) o.msgs.length cap) d) (k : Nat) (hk : k < o.msgs.length) (y : Msg) :
    St w (setM W g (k * 6) y) ⟨o.name, o.kind, o.limit, o.rows, o.msgs.set k y, o.dead⟩ r (.slice (some ⟨g, 0, none⟩) o.msgs.length cap) d := by
  obtain ⟨name, kind, limit, R, M, D⟩ := o
  simp only at hk h ⊢
  generalize hx : M[k] = x
  obtain ⟨x0, x1, x2, x3, x4, x5⟩ := x
  have a0 := h.msg k hk 0 (by decide) (.int .i64 y.id) ⟨y.id, x1, x2, x3, x4, x5⟩ (by simp only [hx]; rfl)
  simp only [Nat.add_zero] at a0
  have a1 := St.msg (g := g) (cap := cap) (o := ⟨name, kind, limit, R, M.set k ⟨y.id, x1, x2, x3, x4, x5⟩, D⟩) (by simpa only [List.length_set] using a0) k (by simpa using hk) 1 (by decide) (.int .i64 y.pri) ⟨y.id, y.pri, x2, x3, x4, x5⟩ (by simp only [List.getElem_set_self]; rfl)
  simp only [List.set_set] at a1
  have a2 := St.msg (g := g) (cap := cap) (o := ⟨name, kind, limit, R, M.set k ⟨y.id, y.pri, x2, x3, x4, x5⟩, D⟩) (by simpa only [List.length_set] using a1) k (by simpa using hk) 2 (by decide) (.int .i64 y.retry) ⟨y.id, y.pri, y.retry, x3, x4, x5⟩ (by simp only [List.getElem_set_self]; rfl)
  simp only [List.set_set] at a2
  have a3 := St.msg (g := g) (cap := cap) (o := ⟨name, kind, limit, R, M.set k ⟨y.id, y.pri, y.retry, x3, x4, x5⟩, D⟩) (by simpa only [List.length_set] using a2) k (by simpa using hk) 3 (by decide) (.bool y.claimed) ⟨y.id, y.pri, y.retry, y.claimed, x4, x5⟩ (by simp only [List.getElem_set_self]; rfl)
  simp only [List.set_set] at a3
  have a4 := St.msg (g := g) (cap := cap) (o := ⟨name, kind, limit, R, M.set k ⟨y.id, y.pri, y.retry, y.claimed, x4, x5⟩, D⟩) (by simpa only [List.length_set] using a3) k (by simpa using hk) 4 (by decide) (.string y.corr) ⟨y.id, y.pri, y.retry, y.claimed, y.corr, x5⟩ (by simp only [List.getElem_set_self]; rfl)
  simp only [List.set_set] at a4
  have a5 := St.msg (g := g) (cap := cap) (o := ⟨name, kind, limit, R, M.set k ⟨y.id, y.pri, y.retry, y.claimed, y.corr, x5⟩, D⟩) (by simpa only [List.length_set] using a4) k (by simpa using hk) 5 (by decide) (.string y.body) y (by simp only [List.getElem_set_self]; rfl)
  simp only [List.set_set, List.length_set] at a5
  exact a5

end Go.Proofs.Ytbckobclicogiaa
