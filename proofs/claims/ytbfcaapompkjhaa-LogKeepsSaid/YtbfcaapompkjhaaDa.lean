/-
  Bytes: a slice of bytes that is read, and slices.Clone of bytes and of slices.
-/
import Derived.Test.YtbfcaapompkjhaaProg
import Derived.Test.YtbfcaapompkjhaaMem
import Derived.Test.YtbfcaapompkjhaaSl5
import Derived.Test.YtbfcaapompkjhaaTake
import Derived.Deep.LoopGhost
import Derived.Deep.RegionWith
import Derived.Deep.RegionLaw
import Derived.Deep.DrawnRows
import Derived.Deep.DeepCutAuto
import Derived.BigRegion
import Derived.IntWalk
import Derived.BigQuiet
import Derived.Shelf.Abstract
set_option linter.unusedVariables false
set_option linter.unusedSimpArgs false
namespace Go.Proofs.Ytbfcaapompkjhaa
open Go.RowKit Go.Proofs.PosteMem
attribute [local go_sem ↓] Go.wp_at_zero Go.wp_at_succ

def bv (x : Int) : Value := .int .u8 x
theorem bv_one (bs : List Int) : ∀ u ∈ bs.map bv, u.oneCell' = true := by
  intro u hu
  obtain ⟨x, _, rfl⟩ := List.mem_map.1 hu
  rfl
theorem infoByte : (Try.prog.info? 5).map (fun i => (i.zero, i.size, i.bytes)) = some (some (.int .u8 0), 1, 1) := by kernel_rfl
theorem infoBs : (Try.prog.info? 27).map (fun i => (i.zero, i.size, i.bytes)) = some (some (.slice none 0 0), 1, 24) := by kernel_rfl
/-- A slice of bytes that is read; one in a row of its own. -/
def VB (w : World) (v : Value) (bs : List Int) : Prop := View w 1 v bs.length (bs.map bv)
def OB (w : World) (B : Nat) (v : Value) (bs : List Int) : Prop := w.ownsRow B 5 1 v bs.length (bs.map bv)
theorem OB.view {w : World} {B : Nat} {v : Value} {bs : List Int} (h : OB w B v bs) : VB w v bs := View.of_own h

theorem cloneB (w : World) (v : Value) (bs : List Int) (hv : VB w v bs) (hn : bs.length ≤ 1000000) :
    Calls Try.prog 56 #[v] w fun e w' => ∃ v', e = .returned v' ∧ OB w' w.heap.size v' bs ∧ Below w.heap.size w w' := by
  obtain ⟨i0, hi0, hz0, hz1, hz2⟩ := info_parts infoByte
  unfold OB
  have h1 := bv_one bs
  unfold VB at hv
  generalize bs.map bv = xs at *
  generalize bs.length = n at *
  obtain ⟨hl, A, cap, rfl, h2, h3, h4, h5⟩ := hv
  have hnil := fun (w : World) (a : Option Addr) (n c : Nat) => Lib.run_eql_slice_nil (P := Try.prog) w 27 5 a n c 0 0 Try.underlying27
  cases A with
  | none =>
    have hc := h4 rfl
    obtain rfl : n = 0 := by omega
    subst hc
    obtain rfl : xs = [] := List.eq_nil_of_length_eq_zero (by simpa using hl)
    go_enter Try.func56, Try.ntmps56
    go_wp2
    go_ret
    exact ⟨_, rfl, World.ownsRow_nil _ _ _ _, Below.refl _ _⟩
  | some a =>
    have hx : View (w.alloc (.cells #[] 5)) 1 (.slice (some a) n cap) n xs := View.alloc ⟨hl, some a, cap, rfl, h2, h3, h4, h5⟩ _
    go_enter Try.func56, Try.ntmps56
    go_wp2_with (at_builtin; refine wpList_append_view _ rfl (.tmp 5) (.tmp 6) _ rfl w.heap.size 5 i0 (.int .u8 0) 1 1 Try.underlying27 hi0 hz0 hz1 hz2 rfl (by omega) (.slice (some ⟨w.heap.size, 0, none⟩) 0 0) 0 [] rfl (World.ownsRow_made _ _ _ (Nat.le_refl _) (by simp) rfl) (.slice (some a) n cap) n xs rfl hx h1 (by omega) (by simp only [maxLen] at *; omega) (by simp) ?_; intro v1 w1 hown hg hat)
    go_ret
    exact ⟨v1, rfl, by simpa using hown, ((Below.refl _ _).alloc (Nat.le_refl _) _).grown hg (by simp) (by simp [Value.ownBlock])⟩

theorem cloneS (w : World) (v : Value) (n : Nat) (xs : List Value) (h1 : ∀ u ∈ xs, u.oneCell' = true) (hv : View w 1 v n xs) (hn : n ≤ 1000000) :
    Calls Try.prog 55 #[v] w fun e w' => ∃ v', e = .returned v' ∧ w'.ownsRow w.heap.size 27 1 v' n xs ∧ Below w.heap.size w w' := by
  obtain ⟨i0, hi0, hz0, hz1, hz2⟩ := info_parts infoBs
  obtain ⟨hl, A, cap, rfl, h2, h3, h4, h5⟩ := hv
  have hnil := fun (w : World) (a : Option Addr) (n c : Nat) => Lib.run_eql_slice_nil (P := Try.prog) w 41 27 a n c 0 0 Try.underlying41
  cases A with
  | none =>
    have hc := h4 rfl
    obtain rfl : n = 0 := by omega
    subst hc
    obtain rfl : xs = [] := List.eq_nil_of_length_eq_zero (by simpa using hl)
    go_enter Try.func55, Try.ntmps55
    go_wp2
    go_ret
    exact ⟨_, rfl, World.ownsRow_nil _ _ _ _, Below.refl _ _⟩
  | some a =>
    have hx : View (w.alloc (.cells #[] 27)) 1 (.slice (some a) n cap) n xs := View.alloc ⟨hl, some a, cap, rfl, h2, h3, h4, h5⟩ _
    go_enter Try.func55, Try.ntmps55
    go_wp2_with (at_builtin; refine wpList_append_view _ rfl (.tmp 5) (.tmp 6) _ rfl w.heap.size 27 i0 (.slice none 0 0) 1 24 Try.underlying41 hi0 hz0 hz1 hz2 rfl (by omega) (.slice (some ⟨w.heap.size, 0, none⟩) 0 0) 0 [] rfl (World.ownsRow_made _ _ _ (Nat.le_refl _) (by simp) rfl) (.slice (some a) n cap) n xs rfl hx h1 (by omega) (by simp only [maxLen] at *; omega) (by simp) ?_; intro v1 w1 hown hg hat)
    go_ret
    exact ⟨v1, rfl, by simpa using hown, ((Below.refl _ _).alloc (Nat.le_refl _) _).grown hg (by simp) (by simp [Value.ownBlock])⟩

theorem fill_next (n k : Nat) (c : Int) (hk : k < n) : ((List.replicate k (bv c) ++ List.replicate (n - k) (bv 0)).set k (bv c)) = List.replicate (k + 1) (bv c) ++ List.replicate (n - (k + 1)) (bv 0) := by
  rw [List.set_append_right _ _ (by simp), List.length_replicate, Nat.sub_self, show n - k = n - (k + 1) + 1 by omega, List.replicate_succ, List.set_cons_zero, List.replicate_succ', List.append_assoc]
  rfl
theorem made_bytes (n : Nat) : (madeCells (Value.int .u8 0).cells (n * 1)).toList = List.replicate n (bv 0) := by
  rw [Nat.mul_one]
  exact toList_madeCells_one _ _
/-- n bytes c. -/
def fillL (n : Nat) (c : Int) : List Int := List.replicate n c
theorem fill_end {w : World} {g n : Nat} {c : Int} (h : w.ownsRow g 5 1 (.slice (some ⟨g, 0, none⟩) n n) n (List.replicate n (bv c) ++ List.replicate (n - n) (bv 0))) : OB w g (.slice (some ⟨g, 0, none⟩) n n) (fillL n c) := by
  unfold OB fillL
  rw [List.length_replicate, List.map_replicate]
  simpa using h
set_option maxHeartbeats 4000000 in
theorem fill_any (w : World) (c : Int) (bad : Bool) :
    Calls Try.prog 18 #[.int .u8 c, .bool bad] w fun e w' => ∃ v', e = .returned v' ∧ OB w' w.heap.size v' (fillL (if bad then 63 else 64) c) ∧ Below w.heap.size w w' := by
  obtain ⟨i0, hi0, hz0, hz1, hz2⟩ := info_parts infoByte
  obtain ⟨n, hn, hn2⟩ : ∃ n : Nat, (if bad then 63 else 64) = n ∧ n ≤ 64 := ⟨_, rfl, by split <;> omega⟩
  rw [hn]
  cases bad with
  | false =>
    simp only [Bool.false_eq_true, if_false, if_true] at hn
    subst hn
    go_enter Try.func18, Try.ntmps18
    go_upto_region 6 with (at_make; refine wpList_make_full _ rfl _ _ 27 rfl w.heap.size 5 i0 (.int .u8 0) 1 Try.underlying27 hi0 hz0 hz1 .i64 .i64 _ _ 64 rfl rfl rfl rfl (by rw [hz2]; omega) (by unfold maxLen; omega) (Nat.le_refl _) ?_; intro w1 hown1 hg1)
    rw [made_bytes] at hown1
    have hb1 : Below w.heap.size w w1 := (Below.refl _ _).grown hg1 (Nat.le_refl _) (by intro k hk; cases hk)
    clear hg1
    go_loopw [7] (fun i wr => ∃ k : Nat, k ≤ 64 ∧ i = .int .i64 k ∧ wr.ownsRow w.heap.size 5 1 (.slice (some ⟨w.heap.size, 0, none⟩) 64 64) 64 (List.replicate k (bv c) ++ List.replicate (64 - k) (bv 0)) ∧ Below w.heap.size w wr) (fun i _ => 64 - (intOf i).toNat)
    case atStart => exact ⟨0, by omega, rfl, hown1, hb1⟩
    case round =>
      obtain ⟨k, hk, rfl, ho, hb⟩ := hrel
      by_cases hlt : k < 64
      · have q1 : (k : Int) < 64 := by omega
        obtain ⟨u1, c1⟩ : ∃ u, wr.cell? ⟨w.heap.size, k, none⟩ = some u := ⟨_, own_cell ho k (by omega)⟩
        have f1 := own_free ho k
        have ho2 := own_set ho k (by omega) (bv c)
        rw [fill_next 64 k c hlt] at ho2
        have hb2 := hb.setCell (p := ⟨w.heap.size, k, none⟩) (Nat.le_refl _) (bv c)
        unfold bv at ho2 hb2
        replace ho2 := Lib.hid ho2
        replace hb2 := Lib.hid hb2
        clear ho hb
        go_wp2_with fail
        go_roundw
        case rel => exact ⟨k + 1, by omega, by go_num, ho2.out, hb2.out⟩
        case measure => simp [intOf]; omega
      · have q1 : ¬ (k : Int) < 64 := by omega
        obtain rfl : k = 64 := by omega
        go_wp2_with fail
        go_ret
        exact ⟨_, rfl, fill_end ho, hb⟩
  | true =>
    simp only [Bool.false_eq_true, if_false, if_true] at hn
    subst hn
    go_enter Try.func18, Try.ntmps18
    go_upto_region 6 with (at_make; refine wpList_make_full _ rfl _ _ 27 rfl w.heap.size 5 i0 (.int .u8 0) 1 Try.underlying27 hi0 hz0 hz1 .i64 .i64 _ _ 63 rfl rfl rfl rfl (by rw [hz2]; omega) (by unfold maxLen; omega) (Nat.le_refl _) ?_; intro w1 hown1 hg1)
    rw [made_bytes] at hown1
    have hb1 : Below w.heap.size w w1 := (Below.refl _ _).grown hg1 (Nat.le_refl _) (by intro k hk; cases hk)
    clear hg1
    go_loopw [7] (fun i wr => ∃ k : Nat, k ≤ 63 ∧ i = .int .i64 k ∧ wr.ownsRow w.heap.size 5 1 (.slice (some ⟨w.heap.size, 0, none⟩) 63 63) 63 (List.replicate k (bv c) ++ List.replicate (63 - k) (bv 0)) ∧ Below w.heap.size w wr) (fun i _ => 63 - (intOf i).toNat)
    case atStart => exact ⟨0, by omega, rfl, hown1, hb1⟩
    case round =>
      obtain ⟨k, hk, rfl, ho, hb⟩ := hrel
      by_cases hlt : k < 63
      · have q1 : (k : Int) < 63 := by omega
        obtain ⟨u1, c1⟩ : ∃ u, wr.cell? ⟨w.heap.size, k, none⟩ = some u := ⟨_, own_cell ho k (by omega)⟩
        have f1 := own_free ho k
        have ho2 := own_set ho k (by omega) (bv c)
        rw [fill_next 63 k c hlt] at ho2
        have hb2 := hb.setCell (p := ⟨w.heap.size, k, none⟩) (Nat.le_refl _) (bv c)
        unfold bv at ho2 hb2
        replace ho2 := Lib.hid ho2
        replace hb2 := Lib.hid hb2
        clear ho hb
        go_wp2_with fail
        go_roundw
        case rel => exact ⟨k + 1, by omega, by go_num, ho2.out, hb2.out⟩
        case measure => simp [intOf]; omega
      · have q1 : ¬ (k : Int) < 63 := by omega
        obtain rfl : k = 63 := by omega
        go_wp2_with fail
        go_ret
        exact ⟨_, rfl, fill_end ho, hb⟩
end Go.Proofs.Ytbfcaapompkjhaa
