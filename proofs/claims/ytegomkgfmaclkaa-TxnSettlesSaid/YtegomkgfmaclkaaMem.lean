/-
  Small facts on worlds: draws, what lies below a block's number, new blocks, structs' results.
-/
import Derived.WalkKit
import Derived.WalkSpells
import Derived.WalkLawsBesides
import Derived.Deep.QuietTactic
import Derived.BigQuiet
import Derived.Lib.Hide
import Derived.Handy
import Derived.Deep.RegionHeld3
import Derived.Deep.DeepMust
namespace Go.Proofs.PosteMem
open Go Go.RowKit

theorem ret_int {k : IntKind} {a b : Int} (h : a = b) : Ending.returned (.int k a) = .returned (.int k b) := by rw [h]
theorem ret_bool {a b : Bool} (h : a = b) : Ending.returned (.bool a) = .returned (.bool b) := by rw [h]
theorem ret_val {a b : Value} (h : a = b) : Ending.returned a = .returned b := by rw [h]

/-- The world is the old one after some draws. -/
def Same (w w' : World) : Prop := ∃ n, w' = w.drewN n
theorem Same.refl (w : World) : Same w w := ⟨0, rfl⟩
theorem Same.of (w : World) (n : Nat) : Same w (w.drewN n) := ⟨n, rfl⟩
theorem Same.drewN {w w1 : World} (h : Same w w1) (m : Nat) : Same w (w1.drewN m) := by
  obtain ⟨n, rfl⟩ := h
  exact ⟨n + m, World.drewN_drewN ..⟩
theorem Same.drew {w w1 : World} (h : Same w w1) : Same w w1.drew := by
  obtain ⟨n, rfl⟩ := h
  exact ⟨n + 1, World.drewN_drewN w n 1⟩
theorem Same.trans {w w1 w2 : World} (h : Same w w1) (k : Same w1 w2) : Same w w2 := by
  obtain ⟨n, rfl⟩ := k
  exact h.drewN n
theorem Same.below {B : Nat} {w w1 : World} (h : Same w w1) : Below B w w1 := by
  obtain ⟨n, rfl⟩ := h
  exact ⟨rfl, rfl, rfl, Nat.le_refl _, fun _ _ => rfl⟩
theorem Same.heap {w w1 : World} (h : Same w w1) : w1.heap = w.heap := by
  obtain ⟨n, rfl⟩ := h
  rfl

theorem below_dn {N : Nat} {W w1 : World} (n : Nat) (h : Below N W w1) : Below N W (w1.drewN n) := ⟨h.os, h.tape, h.output, h.size, h.block⟩
theorem below_then {w w1 w2 : World} (h : Below w.heap.size w w1) (k : Below w1.heap.size w1 w2) : Below w.heap.size w w2 := h.trans (k.mono h.size)
theorem bcell {W w1 : World} (hb : Below W.heap.size W w1) : (∀ b o, b < W.heap.size → w1.cell? ⟨b, o, none⟩ = W.cell? ⟨b, o, none⟩) ∧ (∀ b o, b < W.heap.size → w1.frozen? ⟨b, o, none⟩ = W.frozen? ⟨b, o, none⟩) :=
  ⟨fun b o h => hb.cell (p := ⟨b, o, none⟩) h, fun b o h => hb.frozen (p := ⟨b, o, none⟩) h⟩

theorem cell_new (w : World) (cs : Array Value) (t : TypeId) (fr : Nat × Nat) (o : Nat) : (w.alloc (.cells cs t fr)).cell? ⟨w.heap.size, o, none⟩ = cs[o]? := by
  unfold World.cell?
  rw [heap_alloc_new]
  rfl
theorem cell_old (w : World) (x : Obj) (b o : Nat) (h : b < w.heap.size) : (w.alloc x).cell? ⟨b, o, none⟩ = w.cell? ⟨b, o, none⟩ :=
  World.cell?_of_block (w := w) (heap_alloc_old w x h)
end Go.Proofs.PosteMem
