/-
  Slices, more: an append to nil.
-/
import Derived.Test.YtegomkgfmaclkaaSl
namespace Go.Proofs.PosteMem
open Go Go.RowKit

section
variable {P : Program} (w : World)
theorem step_append_new {ops : Array Oper} {o : Oper} {a : Act} {K : Act → World → Prop} {Q : Exit → Act → World → Prop} {E : Prop} (hgd : o.guard = none) (s x : Operand) (t : TypeId)
    (ho : o.op = .call { callee := .builtin .append, args := #[s, x], argTypes := #[t, t] }) (base : Nat) (e : TypeId) (i : TypeInfo) (z : Value) (sz bytes : Nat) (ht : P.underlying t = some (.slice e)) (hi : P.info? e = some i) (hz : i.zero = some z)
    (hsz : i.size = sz) (hby : i.bytes = bytes) (hzs : z.cells.size = sz) (h0 : 0 < sz) (hs : a.eval s = .slice none 0 0) (y : Value) (m : Nat) (ys : List Value) (hxx : a.eval x = y) (hx : View w sz y m ys) (h1 : ∀ u ∈ ys, u.oneCell' = true)
    (hb : m * bytes ≤ 140737488355328) (hm : m ≤ maxLen) (hbase : base ≤ w.heap.size)
    (h : ∀ A c w', w'.ownsRow base e sz (.slice A m c) m ys → m ≤ c → c ≤ maxLen → (A = none → c = 0) → w.grownBy w' none → ((Value.slice A m c).ownBlock = none ∨ (Value.slice A m c).ownBlock = some w.heap.size) → K (a.put o.dst (.slice A m c)) w') :
    if Region.wanted o (yielded ops a.tmps) = true then Oper.wp P o a w K Q else E := by
  refine step_append_view w hgd s x t ho base e i z sz bytes ht hi hz hsz hby hzs h0 (.slice none 0 0) 0 [] hs (World.ownsRow_nil _ _ _ _) y m ys hxx hx h1 (by rw [Nat.zero_add]; exact hb) (by rw [Nat.zero_add]; exact hm) hbase ?_
  intro v' w' h2 h3 h4
  rw [Nat.zero_add, List.nil_append] at h2
  obtain ⟨A, c, rfl, h5, h6, h7⟩ := own_shape h2
  exact h A c w' h2 h5 h6 h7 h3 h4
theorem wpList_append_new {ops : Array Oper} {rest : List Oper} {o : Oper} {a : Act} {Q : Exit → Act → World → Prop} (hgd : o.guard = none) (s x : Operand) (t : TypeId)
    (ho : o.op = .call { callee := .builtin .append, args := #[s, x], argTypes := #[t, t] }) (base : Nat) (e : TypeId) (i : TypeInfo) (z : Value) (sz bytes : Nat) (ht : P.underlying t = some (.slice e)) (hi : P.info? e = some i) (hz : i.zero = some z)
    (hsz : i.size = sz) (hby : i.bytes = bytes) (hzs : z.cells.size = sz) (h0 : 0 < sz) (hs : a.eval s = .slice none 0 0) (y : Value) (m : Nat) (ys : List Value) (hxx : a.eval x = y) (hx : View w sz y m ys) (h1 : ∀ u ∈ ys, u.oneCell' = true)
    (hb : m * bytes ≤ 140737488355328) (hm : m ≤ maxLen) (hbase : base ≤ w.heap.size)
    (h : ∀ A c w', w'.ownsRow base e sz (.slice A m c) m ys → m ≤ c → c ≤ maxLen → (A = none → c = 0) → w.grownBy w' none → ((Value.slice A m c).ownBlock = none ∨ (Value.slice A m c).ownBlock = some w.heap.size) → wpList P ops Q rest (a.put o.dst (.slice A m c)) w') : wpList P ops Q (o :: rest) a w := by
  refine wpList_append_view w hgd s x t ho base e i z sz bytes ht hi hz hsz hby hzs h0 (.slice none 0 0) 0 [] hs (World.ownsRow_nil _ _ _ _) y m ys hxx hx h1 (by rw [Nat.zero_add]; exact hb) (by rw [Nat.zero_add]; exact hm) hbase ?_
  intro v' w' h2 h3 h4
  rw [Nat.zero_add, List.nil_append] at h2
  obtain ⟨A, c, rfl, h5, h6, h7⟩ := own_shape h2
  exact h A c w' h2 h5 h6 h7 h3 h4
end
end Go.Proofs.PosteMem
