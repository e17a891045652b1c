/-
  tree: a part's size, first key and width; leafOf; innerOf, each by its contract.
-/
import Derived.Test.YtegomkgfmaclkaaTb
import Derived.Test.YtegomkgfmaclkaaTill
import Derived.Test.YtegomkgfmaclkaaTake
import Derived.Test.YtegomkgfmaclkaaMk
import Derived.Deep.RegionWith
import Derived.Deep.DrawnRows
import Derived.Deep.DeepCutAuto
set_option linter.unusedVariables false
set_option linter.unusedSimpArgs false
namespace Go.Proofs.Ytegomkgfmaclkaa
open Go.RowKit Go.Proofs.PosteOrd Go.Proofs.PosteMem

theorem rowsC_any (w : World) (q : Nat) (n : Int) (hq : q < w.heap.size) (c0 : w.cell? ⟨q, 0, none⟩ = some (.int .i64 n)) : Calls Try.prog 102 #[ptr q] w fun e w' => e = .returned (.int .i64 n) ∧ w' = w := by
  go_enter Try.func102, Try.ntmps102
  go_wp2
  go_ret
  exact ⟨rfl, rfl⟩
theorem firstC_any (w : World) (q : Nat) (s : ByteArray) (hq : q < w.heap.size) (c1 : w.cell? ⟨q, 1, none⟩ = some (.string s)) : Calls Try.prog 115 #[ptr q] w fun e w' => e = .returned (.string s) ∧ w' = w := by
  go_enter Try.func115, Try.ntmps115
  go_wp2
  go_ret
  exact ⟨rfl, rfl⟩
theorem size_any {w : World} {K : Nat → Prop} {h q : Nat} {t : T h} (H : PAt w K h q t) : Calls Try.prog 81 #[.agg (pcs h q).toArray] w fun e w' => e = .returned (.int .i64 (rowsT h t).length) ∧ Below w.heap.size w w' := by
  cases h with
  | zero =>
    obtain ⟨_, v, hx, _, _⟩ := H.leaf
    have hb0 := (Below.refl w.heap.size w).alloc (Nat.le_refl _) (.cells #[ptr q, .pointer none] 108)
    have hx1 := hx.below hb0
    have hb := Whole.new w 108 #[ptr q, .pointer none]
    have p0 := hb.cell 0
    have hq := hx1.lt
    have kR := Lib.hid (rowsC_any _ q _ hq (hx1.cell 0))
    simp only [pcs, pa, pb]
    go_enter Try.func81, Try.ntmps81
    go_wp2_with fail
    refine kR.out.mono ?_; rintro e w1 ⟨rfl, hw1⟩
    have hw2 := hw1.symm
    subst hw2
    go_wp2_with fail
    go_ret
    exact ⟨rfl, hb0⟩
  | succ h =>
    obtain ⟨_, v, hx, _⟩ := H.inner
    have hb0 := (Below.refl w.heap.size w).alloc (Nat.le_refl _) (.cells #[.pointer none, ptr q] 108)
    have hx1 := hx.below hb0
    have hb := Whole.new w 108 #[.pointer none, ptr q]
    have p0 := hb.cell 0
    have p1 := hb.cell 1
    have hq := hx1.lt
    have kR := Lib.hid (rowsC_any _ q _ hq (hx1.cell 0))
    simp only [pcs, pa, pb]
    go_enter Try.func81, Try.ntmps81
    go_wp2_with fail
    refine kR.out.mono ?_; rintro e w1 ⟨rfl, hw1⟩
    have hw2 := hw1.symm
    subst hw2
    go_wp2_with fail
    go_ret
    exact ⟨rfl, hb0⟩
theorem first_any {w : World} {K : Nat → Prop} {h q : Nat} {t : T h} (H : PAt w K h q t) : Calls Try.prog 101 #[.agg (pcs h q).toArray] w fun e w' => e = .returned (.string (firstT h t)) ∧ Below w.heap.size w w' := by
  cases h with
  | zero =>
    obtain ⟨_, v, hx, _, _⟩ := H.leaf
    have hb0 := (Below.refl w.heap.size w).alloc (Nat.le_refl _) (.cells #[ptr q, .pointer none] 108)
    have hx1 := hx.below hb0
    have hb := Whole.new w 108 #[ptr q, .pointer none]
    have p0 := hb.cell 0
    have hq := hx1.lt
    have kR := Lib.hid (firstC_any _ q _ hq (hx1.cell 1))
    simp only [pcs, pa, pb]
    go_enter Try.func101, Try.ntmps101
    go_wp2_with fail
    refine kR.out.mono ?_; rintro e w1 ⟨rfl, hw1⟩
    have hw2 := hw1.symm
    subst hw2
    go_wp2_with fail
    go_ret
    exact ⟨rfl, hb0⟩
  | succ h =>
    obtain ⟨_, v, hx, _⟩ := H.inner
    have hb0 := (Below.refl w.heap.size w).alloc (Nat.le_refl _) (.cells #[.pointer none, ptr q] 108)
    have hx1 := hx.below hb0
    have hb := Whole.new w 108 #[.pointer none, ptr q]
    have p0 := hb.cell 0
    have p1 := hb.cell 1
    have hq := hx1.lt
    have kR := Lib.hid (firstC_any _ q _ hq (hx1.cell 1))
    simp only [pcs, pa, pb]
    go_enter Try.func101, Try.ntmps101
    go_wp2_with fail
    refine kR.out.mono ?_; rintro e w1 ⟨rfl, hw1⟩
    have hw2 := hw1.symm
    subst hw2
    go_wp2_with fail
    go_ret
    exact ⟨rfl, hb0⟩
theorem wide_any {w : World} {K : Nat → Prop} {h q : Nat} {t : T h} (H : PAt w K h q t) : Calls Try.prog 104 #[.agg (pcs h q).toArray] w fun e w' => e = .returned (.int .i64 (wideT h t)) ∧ Below w.heap.size w w' := by
  cases h with
  | zero =>
    obtain ⟨_, v, hx, hv, _⟩ := H.leaf
    have hb0 := (Below.refl w.heap.size w).alloc (Nat.le_refl _) (.cells #[ptr q, .pointer none] 108)
    have hx1 := hx.below hb0
    have hb := Whole.new w 108 #[ptr q, .pointer none]
    obtain ⟨A, cap, rfl, _, _⟩ := hv.cells
    have p0 := hb.cell 0
    have hq := hx1.lt
    have c2 := hx1.cell 2
    simp only [pcs, pa, pb]
    go_enter Try.func104, Try.ntmps104
    go_wp2_with fail
    go_ret
    exact ⟨rfl, hb0⟩
  | succ h =>
    obtain ⟨_, v, hx, hv⟩ := H.inner
    have hb0 := (Below.refl w.heap.size w).alloc (Nat.le_refl _) (.cells #[.pointer none, ptr q] 108)
    have hx1 := hx.below hb0
    have hb := Whole.new w 108 #[.pointer none, ptr q]
    obtain ⟨A, cap, rfl, _, _⟩ := hv.cells
    have p0 := hb.cell 0
    have p1 := hb.cell 1
    have hq := hx1.lt
    have c2 := hx1.cell 2
    simp only [pcs, pa, pb]
    go_enter Try.func104, Try.ntmps104
    go_wp2_with fail
    go_ret
    exact ⟨rfl, hb0⟩

theorem row_first {w : World} {A : Option Addr} {cap : Nat} {L : List Row} (h : VRows w (.slice A L.length cap) L) (hn : 0 < L.length) : ∃ b off, A = some ⟨b, off, none⟩ ∧ b < w.heap.size ∧ w.cell? ⟨b, off, none⟩ = some (.string (firstT 0 L)) := by
  obtain ⟨b, off, cap', e, _, _, hb, hc⟩ := View.at_ h (by omega)
  injection e with e1 e2 e3
  cases L with
  | nil => exact absurd hn (Nat.lt_irrefl 0)
  | cons r L => exact ⟨b, off, e1, hb, hc 0 (.string r.key) rfl⟩
/-- A result's cell, and a box that was made behind it. -/
theorem two_new (w : World) (t1 t2 : TypeId) (X Y : Array Value) : Whole ((w.alloc (.cells X t1)).alloc (.cells Y t2)) w.heap.size t1 X ∧ Whole ((w.alloc (.cells X t1)).alloc (.cells Y t2)) (w.heap.size + 1) t2 Y ∧ Below w.heap.size w ((w.alloc (.cells X t1)).alloc (.cells Y t2)) := by
  have hs1 : (w.alloc (.cells X t1)).heap.size = w.heap.size + 1 := by simp
  have hl2 := Whole.new (w.alloc (.cells X t1)) t2 Y
  rw [hs1] at hl2
  have hb1 := (Below.refl w.heap.size w).alloc (Nat.le_refl _) (.cells X t1)
  exact ⟨Whole.alloc (Whole.new w t1 X) _, hl2, hb1.alloc (by omega) _⟩
set_option maxRecDepth 100000 in
set_option maxHeartbeats 4000000 in
theorem leafOf_any {w : World} {v : Value} {L : List Row} (hv : VRows w v L) : Calls Try.prog 76 #[v] w fun e w' => ∃ q, e = .returned (.agg #[ptr q, .pointer none]) ∧ w.heap.size ≤ q ∧ Whole w' q 129 #[.int .i64 L.length, .string (firstT 0 L), v] ∧ Below w.heap.size w w' := by
  obtain ⟨A, cap, rfl, _, _⟩ := hv.cells
  obtain ⟨hr, hl, hb⟩ := two_new w 108 129 #[ptr (w.heap.size + 1), .pointer none] #[.int .i64 L.length, .string (firstT 0 L), .slice A L.length cap]
  have hb2 := (two_new w 108 129 #[.pointer none, .pointer none] #[.int .i64 L.length, .string ⟨#[]⟩, .slice A L.length cap]).2.2
  by_cases hn : 0 < L.length
  · have q1 : (0 : Int) < (L.length : Int) := by omega
    obtain ⟨b, off, rfl, hlt, hc⟩ := row_first hv hn
    have hc2 := (hb2.cell (p := ⟨b, off, none⟩) hlt).trans hc
    generalize firstT 0 L = key at *
    replace hr := Lib.hid hr
    replace hl := Lib.hid hl
    replace hb := Lib.hid hb
    go_enter Try.func76, Try.ntmps76
    go_wp2_with fail
    exact bodyPost_ret (results_cell_row rfl _ _ w.heap.size _ _ _ _ rfl hr.out Try.underlying108 rfl (by kernel_rfl)) rfl ⟨_, rfl, Nat.le_succ _, hl.out, hb.out⟩
  · have h0 : L = [] := List.eq_nil_of_length_eq_zero (by omega)
    subst h0
    replace hr := Lib.hid hr
    replace hl := Lib.hid hl
    replace hb := Lib.hid hb
    go_enter Try.func76, Try.ntmps76
    go_wp2_with fail
    exact bodyPost_ret (results_cell_row rfl _ _ w.heap.size _ _ _ _ rfl hr.out Try.underlying108 rfl (by kernel_rfl)) rfl ⟨_, rfl, Nat.le_succ _, hl.out, hb.out⟩
end Go.Proofs.Ytegomkgfmaclkaa
