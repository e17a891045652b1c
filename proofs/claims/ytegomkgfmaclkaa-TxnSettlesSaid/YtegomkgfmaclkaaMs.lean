/-
  Messages: their cells, slices of them that are read (VMsgs) or owned (OMsgs), slices.Clone of messages.
-/
import Derived.Test.YtegomkgfmaclkaaProg
import Derived.Test.YtegomkgfmaclkaaMem
import Derived.Test.YtegomkgfmaclkaaSl
import Derived.Test.YtegomkgfmaclkaaSl2
import Derived.Test.YtegomkgfmaclkaaSl3
import Derived.Deep.LoopGhost
import Derived.Deep.RegionWith
import Derived.Deep.RegionLaw
import Derived.BigRegion
import Derived.IntWalk
namespace Go.Proofs.Ytegomkgfmaclkaa
open Go.RowKit Go.Proofs.PosteMem

structure Msg where
  id : Int
  pri : Int
  retry : Int
  claimed : Bool
  corr : ByteArray
  body : ByteArray
def Msg.cells (x : Msg) : List Value := [.int .i64 x.id, .int .i64 x.pri, .int .i64 x.retry, .bool x.claimed, .string x.corr, .string x.body]
theorem Msg.len (x : Msg) : x.cells.length = 6 := rfl
theorem Msg.one (L : List Msg) : ∀ u ∈ L.flatMap Msg.cells, u.oneCell' = true := by
  intro u hu
  obtain ⟨x, _, hx⟩ := List.mem_flatMap.1 hu
  simp only [Msg.cells, List.mem_cons, List.not_mem_nil, or_false] at hx
  rcases hx with rfl | rfl | rfl | rfl | rfl | rfl <;> rfl
def zMsg : Value := .agg #[.int .i64 0, .int .i64 0, .int .i64 0, .bool false, .string ⟨#[]⟩, .string ⟨#[]⟩]
def Msg.zero : Msg := ⟨0, 0, 0, false, ⟨#[]⟩, ⟨#[]⟩⟩
theorem infoMsg : (Try.prog.info? 48).map (fun i => (i.zero, i.size, i.bytes)) = some (some zMsg, 6, 64) := by kernel_rfl

/-- A slice of messages that is read. -/
def VMsgs (w : World) (v : Value) (L : List Msg) : Prop := View w 6 v L.length (L.flatMap Msg.cells)
/-- A slice of messages in a row of cells of its own. -/
def OMsgs (w : World) (B : Nat) (v : Value) (L : List Msg) : Prop := w.ownsRow B 48 6 v L.length (L.flatMap Msg.cells)
theorem OMsgs.view {w : World} {B : Nat} {v : Value} {L : List Msg} (h : OMsgs w B v L) : VMsgs w v L := View.of_own h
theorem msgs_at {w : World} {v : Value} {L : List Msg} (h : VMsgs w v L) (hn : 0 < L.length) : ∃ b off cap, v = .slice (some ⟨b, off, none⟩) L.length cap ∧ L.length ≤ cap ∧ cap ≤ maxLen ∧ b < w.heap.size ∧
    ∀ (k : Nat) (hk : k < L.length), w.cell? ⟨b, off + k * 6, none⟩ = some (.int .i64 L[k].id) ∧ w.cell? ⟨b, off + k * 6 + 1, none⟩ = some (.int .i64 L[k].pri) ∧ w.cell? ⟨b, off + k * 6 + 2, none⟩ = some (.int .i64 L[k].retry) ∧
      w.cell? ⟨b, off + k * 6 + 3, none⟩ = some (.bool L[k].claimed) ∧ w.cell? ⟨b, off + k * 6 + 4, none⟩ = some (.string L[k].corr) ∧ w.cell? ⟨b, off + k * 6 + 5, none⟩ = some (.string L[k].body) := by
  obtain ⟨b, off, cap, e, h1, h2, h3, h4⟩ := View.elems Msg.cells Msg.len h (by decide) hn
  exact ⟨b, off, cap, e, h1, h2, h3, fun k hk => ⟨h4 k hk 0 _ rfl, h4 k hk 1 _ rfl, h4 k hk 2 _ rfl, h4 k hk 3 _ rfl, h4 k hk 4 _ rfl, h4 k hk 5 _ rfl⟩⟩
theorem msgs_snoc {w : World} {B : Nat} {v : Value} {M : List Msg} {x : Msg} (h : w.ownsRow B 48 6 v (M.length + 1) (M.flatMap Msg.cells ++ x.cells)) : OMsgs w B v (M ++ [x]) := by
  unfold OMsgs
  rw [List.length_append, List.length_singleton, List.flatMap_append, List.flatMap_cons, List.flatMap_nil, List.append_nil]
  exact h
theorem msgs_app {w : World} {B : Nat} {v : Value} {M N : List Msg} (h : w.ownsRow B 48 6 v (M.length + N.length) (M.flatMap Msg.cells ++ N.flatMap Msg.cells)) : OMsgs w B v (M ++ N) := by
  unfold OMsgs
  rw [List.length_append, List.flatMap_append]
  exact h
end Go.Proofs.Ytegomkgfmaclkaa
