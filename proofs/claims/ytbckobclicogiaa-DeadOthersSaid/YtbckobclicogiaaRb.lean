/-
  Rows: their cells, slices of them that are read or owned, slices.Clone of rows, posteref1.SameRows, each by its contract.
-/
import Derived.Test.YtbckobclicogiaaProg
import Derived.Test.YtbckobclicogiaaMem
import Derived.Test.YtbckobclicogiaaSl5
import Derived.Deep.LoopGhost
import Derived.BigQuiet
import Derived.IntWalk
set_option linter.unusedVariables false
namespace Go.Proofs.Ytbckobclicogiaa
open Go.RowKit Go.Proofs.PosteMem

structure Row where
  key : ByteArray
  val : ByteArray
def Row.cells (x : Row) : List Value := [.string x.key, .string x.val]
theorem Row.len (x : Row) : x.cells.length = 2 := rfl
theorem Row.one (L : List Row) : ∀ u ∈ L.flatMap Row.cells, u.oneCell' = true := by
  intro u hu
  obtain ⟨x, _, hx⟩ := List.mem_flatMap.1 hu
  simp only [Row.cells, List.mem_cons, List.not_mem_nil, or_false] at hx
  rcases hx with rfl | rfl <;> rfl
def zRow : Value := .agg #[.string ⟨#[]⟩, .string ⟨#[]⟩]
theorem infoRow : (Try.prog.info? 77).map (fun i => (i.zero, i.size, i.bytes)) = some (some zRow, 2, 32) := by kernel_rfl
/-- A slice of rows that is read. -/
def VRows (w : World) (v : Value) (L : List Row) : Prop := View w 2 v L.length (L.flatMap Row.cells)
/-- A slice of rows in a row of cells of its own. -/
def ORows (w : World) (B : Nat) (v : Value) (L : List Row) : Prop := w.ownsRow B 77 2 v L.length (L.flatMap Row.cells)
theorem rows_at {w : World} {v : Value} {L : List Row} (h : VRows w v L) (hn : 0 < L.length) : ∃ b off cap, v = .slice (some ⟨b, off, none⟩) L.length cap ∧ L.length ≤ cap ∧ cap ≤ maxLen ∧ b < w.heap.size ∧
    ∀ (k : Nat) (hk : k < L.length), w.cell? ⟨b, off + k * 2, none⟩ = some (.string L[k].key) ∧ w.cell? ⟨b, off + k * 2 + 1, none⟩ = some (.string L[k].val) := by
  obtain ⟨b, off, cap, e, h1, h2, h3, h4⟩ := View.elems Row.cells Row.len h (by decide) hn
  exact ⟨b, off, cap, e, h1, h2, h3, fun k hk => ⟨h4 k hk 0 _ rfl, h4 k hk 1 _ rfl⟩⟩

set_option maxHeartbeats 1000000 in
/-- slices.Clone of rows: the same, in a row of its own. -/
theorem cloneRow (w : World) (v : Value) (L : List Row) (hv : VRows w v L) (hn : L.length ≤ 1000000) :
    Calls Try.prog 59 #[v] w fun e w' => ∃ v', e = .returned v' ∧ ORows w' w.heap.size v' L ∧ Below w.heap.size w w' := by
  obtain ⟨i0, hi0, hz0, hz1, hz2⟩ := info_parts infoRow
  unfold ORows
  have h1 := Row.one L
  unfold VRows at hv
  generalize L.flatMap Row.cells = xs at *
  generalize L.length = n at *
  obtain ⟨hl, A, cap, rfl, h2, h3, h4, h5⟩ := hv
  have hnil := fun (w : World) (a : Option Addr) (n c : Nat) => Lib.run_eql_slice_nil (P := Try.prog) w 22 77 a n c 0 0 Try.underlying22
  cases A with
  | none =>
    have hc := h4 rfl
    obtain rfl : n = 0 := by omega
    subst hc
    obtain rfl : xs = [] := List.eq_nil_of_length_eq_zero (by simpa using hl)
    go_enter Try.func59, Try.ntmps59
    go_wp2
    go_ret
    exact ⟨_, rfl, World.ownsRow_nil _ _ _ _, Below.refl _ _⟩
  | some a =>
    have hx : View (w.alloc (.cells #[] 77)) 2 (.slice (some a) n cap) n xs := View.alloc ⟨hl, some a, cap, rfl, h2, h3, h4, h5⟩ _
    go_enter Try.func59, Try.ntmps59
    go_wp2_with (at_builtin; refine wpList_append_view _ rfl (.tmp 5) (.tmp 6) _ rfl w.heap.size 77 i0 zRow 2 32 Try.underlying22 hi0 hz0 hz1 hz2 rfl (by omega) (.slice (some ⟨w.heap.size, 0, none⟩) 0 0) 0 [] rfl (World.ownsRow_made _ _ _ (Nat.le_refl _) (by simp) rfl) (.slice (some a) n cap) n xs rfl hx h1 (by omega) (by simp only [maxLen] at *; omega) (by simp) ?_; intro v1 w1 hown hg hat)
    go_ret
    exact ⟨v1, rfl, by simpa using hown, ((Below.refl _ _).alloc (Nat.le_refl _) _).grown hg (by simp) (by simp [Value.ownBlock])⟩

set_option maxHeartbeats 2000000 in
theorem same_rows (w : World) (v1 v2 : Value) (L : List Row) (h1 : VRows w v1 L) (h2 : VRows w v2 L) (hm : L.length ≤ 1000000) :
    Calls Try.prog 43 #[v1, v2] w fun e w' => e = .returned (.bool true) ∧ Same w w' := by
  by_cases h0 : L.length = 0
  · obtain ⟨A1, c1, rfl, _, _⟩ := h1.cells
    obtain ⟨A2, c2, rfl, _, _⟩ := h2.cells
    rw [h0]
    go_enter Try.func43, Try.ntmps43
    go_wp2_with fail
    go_rounds 1
    go_ret
    exact ⟨rfl, Same.refl _⟩
  · obtain ⟨b1, o1, c1, rfl, l1, m1, _, f1⟩ := rows_at h1 (by omega)
    obtain ⟨b2, o2, c2, rfl, l2, m2, _, f2⟩ := rows_at h2 (by omega)
    clear h1 h2
    replace f1 := Lib.hid f1
    replace f2 := Lib.hid f2
    go_enter Try.func43, Try.ntmps43
    go_wp2_with fail
    go_loopw [5] (fun i wr => ∃ k : Nat, k ≤ L.length ∧ i = .int .i64 k ∧ Same w wr) (fun i _ => L.length - (intOf i).toNat)
    case atStart => exact ⟨0, by omega, rfl, 0, rfl⟩
    case round =>
      obtain ⟨k, hk, rfl, m, rfl⟩ := hrel
      by_cases hlt : k < L.length
      · have q1 : (k : Int) < (L.length : Int) := by omega
        obtain ⟨p0, p1⟩ := f1.out k hlt
        obtain ⟨p2, p3⟩ := f2.out k hlt
        generalize L[k] = x at p0 p1 p2 p3
        go_wp2_with fail
        go_quiet (fail)
        go_wp2_with fail
        go_roundw
        case rel => exact ⟨k + 1, by omega, by go_num, _, rfl⟩
        case measure => simp [intOf]; omega
      · go_wp2_with fail
        go_ret
        exact ⟨rfl, m, rfl⟩
end Go.Proofs.Ytbckobclicogiaa
