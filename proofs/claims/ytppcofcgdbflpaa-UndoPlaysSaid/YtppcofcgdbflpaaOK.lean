/-
  The walks of the laws of package order, over arguments as they are opened.
-/
import Derived.Test.YtppcofcgdbflpaaOT
import Derived.Test.YtppcofcgdbflpaaOpen
namespace Go.Proofs.Ytppcofcgdbflpaa
open Go.RowKit Go.Proofs.PosteOrd Go.Proofs.PosteOpen

@[reducible] def KMsg : Kd := .cons 3 (.int .i64) (.cons 3 (.int .i64) (.cons 3 (.int .i64) (.cons 4 .bool (.cons 9 .str (.cons 9 .str .nil)))))
theorem msg_of_rd {P : Program} {w : World} {cs : Array Value} {x : KMsg.T} (h : Rd P w KMsg cs.toList x) : ∃ m : M, Value.agg cs = m.val := by
  obtain ⟨a1, b1, e1, _, ⟨h1, _⟩, a2, b2, e2, _, ⟨h2, _⟩, a3, b3, e3, _, ⟨h3, _⟩, a4, b4, e4, _, h4, a5, b5, e5, _, ⟨h5, _⟩, a6, b6, e6, _, ⟨h6, _⟩, h7⟩ := h
  refine ⟨⟨x.1, x.2.1, x.2.2.1, x.2.2.2.1, x.2.2.2.2.1, x.2.2.2.2.2.1⟩, ?_⟩
  have e : cs.toList = [.int .i64 x.1, .int .i64 x.2.1, .int .i64 x.2.2.1, .bool x.2.2.2.1, .string x.2.2.2.2.1, .string x.2.2.2.2.2.1] := by
    rw [e1, h1, e2, h2, e3, h3, e4, show a4 = _ from h4, e5, h5, e6, h6, show b6 = [] from h7]
    rfl
  unfold M.val
  have e9 : cs = #[.int .i64 x.1, .int .i64 x.2.1, .int .i64 x.2.2.1, .bool x.2.2.2.1, .string x.2.2.2.2.1, .string x.2.2.2.2.2.1] := Array.ext' e
  rw [e9]
theorem orderRow_walk (W : World) (a : ByteArray) (_ : a.size ≤ 140737488351232) (b : ByteArray) (_ : b.size ≤ 140737488351232) (c : ByteArray) (_ : c.size ≤ 140737488351232) :
    Calls Try.prog 3 #[.string a, .string b, .string c] W fun e w' => e = .returned (.bool true) ∧ Below W.heap.size W w' :=
  (orderRow_any a b c W).mono fun _ _ ⟨h, k⟩ => ⟨h, k ▸ Below.refl _ _⟩
theorem orderNext_walk (W : World) (a : ByteArray) (ha : a.size ≤ 140737488351232) (b : ByteArray) (hb : b.size ≤ 140737488351232) :
    Calls Try.prog 4 #[.string a, .string b] W fun e w' => e = .returned (.bool true) ∧ Below W.heap.size W w' :=
  (orderNext_any a b W ha hb).mono fun _ _ ⟨h, k⟩ => ⟨h, k ▸ Below.refl _ _⟩
theorem orderMsgs_walk (W : World) (c1 : Array Value) (x1 : KMsg.T) (r1 : Rd Try.prog W KMsg c1.toList x1) (c2 : Array Value) (x2 : KMsg.T) (r2 : Rd Try.prog W KMsg c2.toList x2) (c3 : Array Value) (x3 : KMsg.T) (r3 : Rd Try.prog W KMsg c3.toList x3) :
    Calls Try.prog 5 #[.agg c1, .agg c2, .agg c3] W fun e w' => e = .returned (.bool true) ∧ Below W.heap.size W w' := by
  obtain ⟨m1, e1⟩ := msg_of_rd r1
  obtain ⟨m2, e2⟩ := msg_of_rd r2
  obtain ⟨m3, e3⟩ := msg_of_rd r3
  rw [e1, e2, e3]
  exact orderMsgs_any m1 m2 m3 W
theorem orderTells_walk (W : World) (a : ByteArray) (ha : a.size ≤ 140737488351232) (b : ByteArray) (hb : b.size ≤ 140737488351232) (c : ByteArray) (hc : c.size ≤ 140737488351232)
    (c1 : Array Value) (x1 : KMsg.T) (r1 : Rd Try.prog W KMsg c1.toList x1) (c2 : Array Value) (x2 : KMsg.T) (r2 : Rd Try.prog W KMsg c2.toList x2) :
    Calls Try.prog 6 #[.string a, .string b, .string c, .agg c1, .agg c2] W fun e w' => e = .returned (.bool true) ∧ Below W.heap.size W w' := by
  obtain ⟨m1, e1⟩ := msg_of_rd r1
  obtain ⟨m2, e2⟩ := msg_of_rd r2
  rw [e1, e2]
  exact orderTells_any a b c m1 m2 W ha hb hc
end Go.Proofs.Ytppcofcgdbflpaa
