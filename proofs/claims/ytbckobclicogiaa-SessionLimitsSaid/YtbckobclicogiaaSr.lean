/-
  SessionLimits: how long names, keys and values may be.
-/
import Derived.Test.YtbckobclicogiaaSo
import Derived.StillTailTactics
set_option linter.unusedVariables false
set_option linter.unusedSimpArgs false
namespace Go.Proofs.Ytbckobclicogiaa
open Go.RowKit Go.Proofs.PosteMem Go.Proofs.PosteOpen

def sizeOfV : Value → Nat
  | .string s => s.size
  | _ => 0
set_option maxHeartbeats 2000000 in
theorem func16_any (w : World) (n : Nat) (hn : n ≤ 1) : Calls Try.prog 27 #[.int .i64 n] w fun e w' => ∃ s : ByteArray, e = .returned (.string s) ∧ s.size = 101 + n ∧ w = w' := by
  go_enter Try.func27, Try.ntmps27
  go_wp2_with fail
  go_loop [3] (fun v => ∃ s : ByteArray, v = .string s ∧ 1 ≤ s.size ∧ s.size ≤ 101 + n) (fun v => 200 - sizeOfV v)
  case atStart => exact ⟨⟨#[97]⟩, rfl, by decide, by show 1 ≤ _; omega⟩
  case round =>
    obtain ⟨s, rfl, h1, h2⟩ := hrel
    by_cases hlt : s.size < 101 + n
    · have q1 : (s.size : Int) < 101 + (n : Int) := by omega
      have hsz : (s ++ ⟨#[97]⟩ : ByteArray).size = s.size + 1 := by rw [ByteArray.size_append]; rfl
      go_wp2_with fail
      go_round
      case rel => exact ⟨_, rfl, by omega, by omega⟩
      case measure => show 200 - (s ++ (⟨#[97]⟩ : ByteArray)).size < 200 - s.size; omega
    · have q1 : ¬ (s.size : Int) < 101 + (n : Int) := by omega
      go_wp2_with fail
      go_ret
      exact ⟨s, rfl, by omega, rfl⟩

/-- The requests of the law: a text of 101 bytes and n more, cut. -/
def limQ (s : ByteArray) (n : Nat) : Nat → Req
  | 0 => ⟨12, s.extract 0 (16 + n), ⟨#[]⟩, ⟨#[]⟩, 0, 0⟩
  | 1 => ⟨7, ⟨#[116]⟩, s.extract 0 (40 + n), ⟨#[]⟩, 0, 0⟩
  | 2 => ⟨8, ⟨#[116]⟩, ⟨#[97]⟩, s.extract 0 (100 + n), 0, 0⟩
  | 3 => ⟨10, ⟨#[116]⟩, ⟨#[]⟩, s.extract 0 (40 + n), 0, 0⟩
  | 4 => ⟨11, ⟨#[113]⟩, ⟨#[]⟩, s.extract 0 (100 + n), 0, 0⟩
  | 5 => ⟨13, ⟨#[113]⟩, s.extract 0 (40 + n), ⟨#[]⟩, 0, 0⟩
  | 6 => ⟨11, ⟨#[113]⟩, ⟨#[]⟩, ⟨#[]⟩, 0, 1000 + n⟩
  | _ => ⟨6, ⟨#[113]⟩, ⟨#[]⟩, ⟨#[]⟩, 2, 1000 + n⟩
theorem limR (s : ByteArray) (n : Nat) (hn : n ≤ 1) (hs : s.size = 101 + n) (k : Nat) (hk : k ≤ 7) : rightR (limQ s n k) = if n = 0 then 0 else if 6 ≤ k then 1 else 6 := by
  have e1 : (s.extract 0 (16 + n)).size = 16 + n := by rw [ByteArray.size_extract]; omega
  have e2 : (s.extract 0 (40 + n)).size = 40 + n := by rw [ByteArray.size_extract]; omega
  have e3 : (s.extract 0 (100 + n)).size = 100 + n := by rw [ByteArray.size_extract]; omega
  have z : ∀ a : UInt8, (⟨#[a]⟩ : ByteArray).size = 1 := fun a => rfl
  have z0 : (⟨#[]⟩ : ByteArray).size = 0 := rfl
  have hn' : n = 0 ∨ n = 1 := by omega
  rcases k with _ | _ | _ | _ | _ | _ | _ | _ | k
  all_goals first
    | omega
    | (rw [rightR_in (by simp [limQ]) (by simp [limQ]) (by simp [limQ, namedR, E0])]
       rcases hn' with rfl | rfl <;> simp [limQ, longR, numsR, nameB, keyB, objB, e1, e2, e3, z, z0])

set_option maxRecDepth 100000 in
set_option maxHeartbeats 16000000 in
theorem limits_core (w : World) (which : Int) (over : Bool) : Calls Try.prog 8 #[.int .i64 which, .bool over] w fun e w' => e = .returned (.bool true) ∧ Below w.heap.size w w' := by
  by_cases h : which < 0
  · go_enter Try.func8, Try.ntmps8
    go_wp2_with fail
    refine (alive24 _).mono ?_; rintro e w1 ⟨rfl, hb1⟩
    go_wp2
    go_ret
    exact ⟨rfl, hb1⟩
  by_cases h2 : 7 < which
  · go_enter Try.func8, Try.ntmps8
    go_wp2_with fail
    refine (alive24 _).mono ?_; rintro e w1 ⟨rfl, hb1⟩
    go_wp2
    go_ret
    exact ⟨rfl, hb1⟩
  have hk : which = 0 ∨ which = 1 ∨ which = 2 ∨ which = 3 ∨ which = 4 ∨ which = 5 ∨ which = 6 ∨ which = 7 := by omega
  clear h h2
  cases over
  · have hR := Lib.hid (fun s hs => limR s 0 (by decide) hs)
    rcases hk with rfl | rfl | rfl | rfl | rfl | rfl | rfl | rfl
    · go_enter Try.func8, Try.ntmps8
      go_wp2_with fail
      refine (alive24 _).mono ?_; rintro e w1 ⟨rfl, hb1⟩
      go_wp2_with fail
      refine (func16_any _ 0 (by decide)).mono ?_; rintro e w2 ⟨s, rfl, hs, rfl⟩
      have q0 : (16 : Int) ≤ (s.size : Int) := by omega
      have q1 : (40 : Int) ≤ (s.size : Int) := by omega
      have q2 : (100 : Int) ≤ (s.size : Int) := by omega
      have r0 : 16 ≤ s.size := by omega
      have r1 : 40 ≤ s.size := by omega
      have r2 : 100 ≤ s.size := by omega
      have s0 : IntKind.i64.wrap 16 = 16 := by decide
      have s1 : IntKind.i64.wrap 40 = 40 := by decide
      have s2 : IntKind.i64.wrap 100 = 100 := by decide
      have s3 : IntKind.i64.wrap 1000 = 1000 := by decide
      replace hR : rightR (limQ s 0 0) = 0 := (hR.out s hs 0 (by decide)).trans (by decide)
      replace hR := Lib.hid hR
      replace hs := Lib.hid hs
      go_wp2_with fail
      go_still_tail 36, (by kernel_rfl)
      all_goals go_wp2_with fail
      all_goals
        refine (right_any _ (limQ s 0 0)).mono ?_; rintro e w3 ⟨rfl, hb3⟩
        rw [hR.out]
        go_wp2_with fail
        refine (num24 _ _).mono ?_; rintro e w4 ⟨rfl, rfl⟩
        go_wp2_with (go_at_call 20; refine (num24 _ _).mono ?_; rintro e w4 ⟨rfl, rfl⟩)
        go_ret
        exact ⟨rfl, below_then hb1 (below_then ((below_dn _ (Below.refl w1.heap.size w1)).alloc (Nat.le_refl _) _) hb3)⟩
    · go_enter Try.func8, Try.ntmps8
      go_wp2_with fail
      refine (alive24 _).mono ?_; rintro e w1 ⟨rfl, hb1⟩
      go_wp2_with fail
      refine (func16_any _ 0 (by decide)).mono ?_; rintro e w2 ⟨s, rfl, hs, rfl⟩
      have q0 : (16 : Int) ≤ (s.size : Int) := by omega
      have q1 : (40 : Int) ≤ (s.size : Int) := by omega
      have q2 : (100 : Int) ≤ (s.size : Int) := by omega
      have r0 : 16 ≤ s.size := by omega
      have r1 : 40 ≤ s.size := by omega
      have r2 : 100 ≤ s.size := by omega
      have s0 : IntKind.i64.wrap 16 = 16 := by decide
      have s1 : IntKind.i64.wrap 40 = 40 := by decide
      have s2 : IntKind.i64.wrap 100 = 100 := by decide
      have s3 : IntKind.i64.wrap 1000 = 1000 := by decide
      replace hR : rightR (limQ s 0 1) = 0 := (hR.out s hs 1 (by decide)).trans (by decide)
      replace hR := Lib.hid hR
      replace hs := Lib.hid hs
      go_wp2_with fail
      go_still_tail 36, (by kernel_rfl)
      all_goals go_wp2_with fail
      all_goals
        refine (right_any _ (limQ s 0 1)).mono ?_; rintro e w3 ⟨rfl, hb3⟩
        rw [hR.out]
        go_wp2_with fail
        refine (num24 _ _).mono ?_; rintro e w4 ⟨rfl, rfl⟩
        go_wp2_with (go_at_call 20; refine (num24 _ _).mono ?_; rintro e w4 ⟨rfl, rfl⟩)
        go_ret
        exact ⟨rfl, below_then hb1 (below_then ((below_dn _ (Below.refl w1.heap.size w1)).alloc (Nat.le_refl _) _) hb3)⟩
    · go_enter Try.func8, Try.ntmps8
      go_wp2_with fail
      refine (alive24 _).mono ?_; rintro e w1 ⟨rfl, hb1⟩
      go_wp2_with fail
      refine (func16_any _ 0 (by decide)).mono ?_; rintro e w2 ⟨s, rfl, hs, rfl⟩
      have q0 : (16 : Int) ≤ (s.size : Int) := by omega
      have q1 : (40 : Int) ≤ (s.size : Int) := by omega
      have q2 : (100 : Int) ≤ (s.size : Int) := by omega
      have r0 : 16 ≤ s.size := by omega
      have r1 : 40 ≤ s.size := by omega
      have r2 : 100 ≤ s.size := by omega
      have s0 : IntKind.i64.wrap 16 = 16 := by decide
      have s1 : IntKind.i64.wrap 40 = 40 := by decide
      have s2 : IntKind.i64.wrap 100 = 100 := by decide
      have s3 : IntKind.i64.wrap 1000 = 1000 := by decide
      replace hR : rightR (limQ s 0 2) = 0 := (hR.out s hs 2 (by decide)).trans (by decide)
      replace hR := Lib.hid hR
      replace hs := Lib.hid hs
      go_wp2_with fail
      go_still_tail 36, (by kernel_rfl)
      all_goals go_wp2_with fail
      all_goals
        refine (right_any _ (limQ s 0 2)).mono ?_; rintro e w3 ⟨rfl, hb3⟩
        rw [hR.out]
        go_wp2_with fail
        refine (num24 _ _).mono ?_; rintro e w4 ⟨rfl, rfl⟩
        go_wp2_with (go_at_call 20; refine (num24 _ _).mono ?_; rintro e w4 ⟨rfl, rfl⟩)
        go_ret
        exact ⟨rfl, below_then hb1 (below_then ((below_dn _ (Below.refl w1.heap.size w1)).alloc (Nat.le_refl _) _) hb3)⟩
    · go_enter Try.func8, Try.ntmps8
      go_wp2_with fail
      refine (alive24 _).mono ?_; rintro e w1 ⟨rfl, hb1⟩
      go_wp2_with fail
      refine (func16_any _ 0 (by decide)).mono ?_; rintro e w2 ⟨s, rfl, hs, rfl⟩
      have q0 : (16 : Int) ≤ (s.size : Int) := by omega
      have q1 : (40 : Int) ≤ (s.size : Int) := by omega
      have q2 : (100 : Int) ≤ (s.size : Int) := by omega
      have r0 : 16 ≤ s.size := by omega
      have r1 : 40 ≤ s.size := by omega
      have r2 : 100 ≤ s.size := by omega
      have s0 : IntKind.i64.wrap 16 = 16 := by decide
      have s1 : IntKind.i64.wrap 40 = 40 := by decide
      have s2 : IntKind.i64.wrap 100 = 100 := by decide
      have s3 : IntKind.i64.wrap 1000 = 1000 := by decide
      replace hR : rightR (limQ s 0 3) = 0 := (hR.out s hs 3 (by decide)).trans (by decide)
      replace hR := Lib.hid hR
      replace hs := Lib.hid hs
      go_wp2_with fail
      go_still_tail 36, (by kernel_rfl)
      all_goals go_wp2_with fail
      all_goals
        refine (right_any _ (limQ s 0 3)).mono ?_; rintro e w3 ⟨rfl, hb3⟩
        rw [hR.out]
        go_wp2_with fail
        refine (num24 _ _).mono ?_; rintro e w4 ⟨rfl, rfl⟩
        go_wp2_with (go_at_call 20; refine (num24 _ _).mono ?_; rintro e w4 ⟨rfl, rfl⟩)
        go_ret
        exact ⟨rfl, below_then hb1 (below_then ((below_dn _ (Below.refl w1.heap.size w1)).alloc (Nat.le_refl _) _) hb3)⟩
    · go_enter Try.func8, Try.ntmps8
      go_wp2_with fail
      refine (alive24 _).mono ?_; rintro e w1 ⟨rfl, hb1⟩
      go_wp2_with fail
      refine (func16_any _ 0 (by decide)).mono ?_; rintro e w2 ⟨s, rfl, hs, rfl⟩
      have q0 : (16 : Int) ≤ (s.size : Int) := by omega
      have q1 : (40 : Int) ≤ (s.size : Int) := by omega
      have q2 : (100 : Int) ≤ (s.size : Int) := by omega
      have r0 : 16 ≤ s.size := by omega
      have r1 : 40 ≤ s.size := by omega
      have r2 : 100 ≤ s.size := by omega
      have s0 : IntKind.i64.wrap 16 = 16 := by decide
      have s1 : IntKind.i64.wrap 40 = 40 := by decide
      have s2 : IntKind.i64.wrap 100 = 100 := by decide
      have s3 : IntKind.i64.wrap 1000 = 1000 := by decide
      replace hR : rightR (limQ s 0 4) = 0 := (hR.out s hs 4 (by decide)).trans (by decide)
      replace hR := Lib.hid hR
      replace hs := Lib.hid hs
      go_wp2_with fail
      go_still_tail 36, (by kernel_rfl)
      all_goals go_wp2_with fail
      all_goals
        refine (right_any _ (limQ s 0 4)).mono ?_; rintro e w3 ⟨rfl, hb3⟩
        rw [hR.out]
        go_wp2_with fail
        refine (num24 _ _).mono ?_; rintro e w4 ⟨rfl, rfl⟩
        go_wp2_with (go_at_call 20; refine (num24 _ _).mono ?_; rintro e w4 ⟨rfl, rfl⟩)
        go_ret
        exact ⟨rfl, below_then hb1 (below_then ((below_dn _ (Below.refl w1.heap.size w1)).alloc (Nat.le_refl _) _) hb3)⟩
    · go_enter Try.func8, Try.ntmps8
      go_wp2_with fail
      refine (alive24 _).mono ?_; rintro e w1 ⟨rfl, hb1⟩
      go_wp2_with fail
      refine (func16_any _ 0 (by decide)).mono ?_; rintro e w2 ⟨s, rfl, hs, rfl⟩
      have q0 : (16 : Int) ≤ (s.size : Int) := by omega
      have q1 : (40 : Int) ≤ (s.size : Int) := by omega
      have q2 : (100 : Int) ≤ (s.size : Int) := by omega
      have r0 : 16 ≤ s.size := by omega
      have r1 : 40 ≤ s.size := by omega
      have r2 : 100 ≤ s.size := by omega
      have s0 : IntKind.i64.wrap 16 = 16 := by decide
      have s1 : IntKind.i64.wrap 40 = 40 := by decide
      have s2 : IntKind.i64.wrap 100 = 100 := by decide
      have s3 : IntKind.i64.wrap 1000 = 1000 := by decide
      replace hR : rightR (limQ s 0 5) = 0 := (hR.out s hs 5 (by decide)).trans (by decide)
      replace hR := Lib.hid hR
      replace hs := Lib.hid hs
      go_wp2_with fail
      go_still_tail 36, (by kernel_rfl)
      all_goals go_wp2_with fail
      all_goals
        refine (right_any _ (limQ s 0 5)).mono ?_; rintro e w3 ⟨rfl, hb3⟩
        rw [hR.out]
        go_wp2_with fail
        refine (num24 _ _).mono ?_; rintro e w4 ⟨rfl, rfl⟩
        go_wp2_with (go_at_call 20; refine (num24 _ _).mono ?_; rintro e w4 ⟨rfl, rfl⟩)
        go_ret
        exact ⟨rfl, below_then hb1 (below_then ((below_dn _ (Below.refl w1.heap.size w1)).alloc (Nat.le_refl _) _) hb3)⟩
    · go_enter Try.func8, Try.ntmps8
      go_wp2_with fail
      refine (alive24 _).mono ?_; rintro e w1 ⟨rfl, hb1⟩
      go_wp2_with fail
      refine (func16_any _ 0 (by decide)).mono ?_; rintro e w2 ⟨s, rfl, hs, rfl⟩
      have q0 : (16 : Int) ≤ (s.size : Int) := by omega
      have q1 : (40 : Int) ≤ (s.size : Int) := by omega
      have q2 : (100 : Int) ≤ (s.size : Int) := by omega
      have r0 : 16 ≤ s.size := by omega
      have r1 : 40 ≤ s.size := by omega
      have r2 : 100 ≤ s.size := by omega
      have s0 : IntKind.i64.wrap 16 = 16 := by decide
      have s1 : IntKind.i64.wrap 40 = 40 := by decide
      have s2 : IntKind.i64.wrap 100 = 100 := by decide
      have s3 : IntKind.i64.wrap 1000 = 1000 := by decide
      replace hR : rightR (limQ s 0 6) = 0 := (hR.out s hs 6 (by decide)).trans (by decide)
      replace hR := Lib.hid hR
      replace hs := Lib.hid hs
      go_wp2_with fail
      go_still_tail 36, (by kernel_rfl)
      all_goals go_wp2_with fail
      all_goals
        refine (right_any _ (limQ s 0 6)).mono ?_; rintro e w3 ⟨rfl, hb3⟩
        rw [hR.out]
        go_wp2_with fail
        refine (num24 _ _).mono ?_; rintro e w4 ⟨rfl, rfl⟩
        go_wp2_with (go_at_call 20; refine (num24 _ _).mono ?_; rintro e w4 ⟨rfl, rfl⟩)
        go_ret
        exact ⟨rfl, below_then hb1 (below_then ((below_dn _ (Below.refl w1.heap.size w1)).alloc (Nat.le_refl _) _) hb3)⟩
    · go_enter Try.func8, Try.ntmps8
      go_wp2_with fail
      refine (alive24 _).mono ?_; rintro e w1 ⟨rfl, hb1⟩
      go_wp2_with fail
      refine (func16_any _ 0 (by decide)).mono ?_; rintro e w2 ⟨s, rfl, hs, rfl⟩
      have q0 : (16 : Int) ≤ (s.size : Int) := by omega
      have q1 : (40 : Int) ≤ (s.size : Int) := by omega
      have q2 : (100 : Int) ≤ (s.size : Int) := by omega
      have r0 : 16 ≤ s.size := by omega
      have r1 : 40 ≤ s.size := by omega
      have r2 : 100 ≤ s.size := by omega
      have s0 : IntKind.i64.wrap 16 = 16 := by decide
      have s1 : IntKind.i64.wrap 40 = 40 := by decide
      have s2 : IntKind.i64.wrap 100 = 100 := by decide
      have s3 : IntKind.i64.wrap 1000 = 1000 := by decide
      replace hR : rightR (limQ s 0 7) = 0 := (hR.out s hs 7 (by decide)).trans (by decide)
      replace hR := Lib.hid hR
      replace hs := Lib.hid hs
      go_wp2_with fail
      go_still_tail 36, (by kernel_rfl)
      all_goals go_wp2_with fail
      all_goals
        refine (right_any _ (limQ s 0 7)).mono ?_; rintro e w3 ⟨rfl, hb3⟩
        rw [hR.out]
        go_wp2_with fail
        refine (num24 _ _).mono ?_; rintro e w4 ⟨rfl, rfl⟩
        go_wp2_with (go_at_call 20; refine (num24 _ _).mono ?_; rintro e w4 ⟨rfl, rfl⟩)
        go_ret
        exact ⟨rfl, below_then hb1 (below_then ((below_dn _ (Below.refl w1.heap.size w1)).alloc (Nat.le_refl _) _) hb3)⟩
  · have hR := Lib.hid (fun s hs => limR s 1 (by decide) hs)
    rcases hk with rfl | rfl | rfl | rfl | rfl | rfl | rfl | rfl
    · go_enter Try.func8, Try.ntmps8
      go_wp2_with fail
      refine (alive24 _).mono ?_; rintro e w1 ⟨rfl, hb1⟩
      go_wp2_with fail
      refine (func16_any _ 1 (by decide)).mono ?_; rintro e w2 ⟨s, rfl, hs, rfl⟩
      have q0 : (17 : Int) ≤ (s.size : Int) := by omega
      have q1 : (41 : Int) ≤ (s.size : Int) := by omega
      have q2 : (101 : Int) ≤ (s.size : Int) := by omega
      have r0 : 17 ≤ s.size := by omega
      have r1 : 41 ≤ s.size := by omega
      have r2 : 101 ≤ s.size := by omega
      have s0 : IntKind.i64.wrap 17 = 17 := by decide
      have s1 : IntKind.i64.wrap 41 = 41 := by decide
      have s2 : IntKind.i64.wrap 101 = 101 := by decide
      have s3 : IntKind.i64.wrap 1001 = 1001 := by decide
      replace hR : rightR (limQ s 1 0) = 6 := (hR.out s hs 0 (by decide)).trans (by decide)
      replace hR := Lib.hid hR
      replace hs := Lib.hid hs
      go_wp2_with fail
      go_still_tail 36, (by kernel_rfl)
      all_goals go_wp2_with fail
      all_goals
        refine (right_any _ (limQ s 1 0)).mono ?_; rintro e w3 ⟨rfl, hb3⟩
        rw [hR.out]
        go_wp2_with fail
        refine (num24 _ _).mono ?_; rintro e w4 ⟨rfl, rfl⟩
        go_wp2_with (go_at_call 20; refine (num24 _ _).mono ?_; rintro e w4 ⟨rfl, rfl⟩)
        go_ret
        exact ⟨rfl, below_then hb1 (below_then ((below_dn _ (Below.refl w1.heap.size w1)).alloc (Nat.le_refl _) _) hb3)⟩
    · go_enter Try.func8, Try.ntmps8
      go_wp2_with fail
      refine (alive24 _).mono ?_; rintro e w1 ⟨rfl, hb1⟩
      go_wp2_with fail
      refine (func16_any _ 1 (by decide)).mono ?_; rintro e w2 ⟨s, rfl, hs, rfl⟩
      have q0 : (17 : Int) ≤ (s.size : Int) := by omega
      have q1 : (41 : Int) ≤ (s.size : Int) := by omega
      have q2 : (101 : Int) ≤ (s.size : Int) := by omega
      have r0 : 17 ≤ s.size := by omega
      have r1 : 41 ≤ s.size := by omega
      have r2 : 101 ≤ s.size := by omega
      have s0 : IntKind.i64.wrap 17 = 17 := by decide
      have s1 : IntKind.i64.wrap 41 = 41 := by decide
      have s2 : IntKind.i64.wrap 101 = 101 := by decide
      have s3 : IntKind.i64.wrap 1001 = 1001 := by decide
      replace hR : rightR (limQ s 1 1) = 6 := (hR.out s hs 1 (by decide)).trans (by decide)
      replace hR := Lib.hid hR
      replace hs := Lib.hid hs
      go_wp2_with fail
      go_still_tail 36, (by kernel_rfl)
      all_goals go_wp2_with fail
      all_goals
        refine (right_any _ (limQ s 1 1)).mono ?_; rintro e w3 ⟨rfl, hb3⟩
        rw [hR.out]
        go_wp2_with fail
        refine (num24 _ _).mono ?_; rintro e w4 ⟨rfl, rfl⟩
        go_wp2_with (go_at_call 20; refine (num24 _ _).mono ?_; rintro e w4 ⟨rfl, rfl⟩)
        go_ret
        exact ⟨rfl, below_then hb1 (below_then ((below_dn _ (Below.refl w1.heap.size w1)).alloc (Nat.le_refl _) _) hb3)⟩
    · go_enter Try.func8, Try.ntmps8
      go_wp2_with fail
      refine (alive24 _).mono ?_; rintro e w1 ⟨rfl, hb1⟩
      go_wp2_with fail
      refine (func16_any _ 1 (by decide)).mono ?_; rintro e w2 ⟨s, rfl, hs, rfl⟩
      have q0 : (17 : Int) ≤ (s.size : Int) := by omega
      have q1 : (41 : Int) ≤ (s.size : Int) := by omega
      have q2 : (101 : Int) ≤ (s.size : Int) := by omega
      have r0 : 17 ≤ s.size := by omega
      have r1 : 41 ≤ s.size := by omega
      have r2 : 101 ≤ s.size := by omega
      have s0 : IntKind.i64.wrap 17 = 17 := by decide
      have s1 : IntKind.i64.wrap 41 = 41 := by decide
      have s2 : IntKind.i64.wrap 101 = 101 := by decide
      have s3 : IntKind.i64.wrap 1001 = 1001 := by decide
      replace hR : rightR (limQ s 1 2) = 6 := (hR.out s hs 2 (by decide)).trans (by decide)
      replace hR := Lib.hid hR
      replace hs := Lib.hid hs
      go_wp2_with fail
      go_still_tail 36, (by kernel_rfl)
      all_goals go_wp2_with fail
      all_goals
        refine (right_any _ (limQ s 1 2)).mono ?_; rintro e w3 ⟨rfl, hb3⟩
        rw [hR.out]
        go_wp2_with fail
        refine (num24 _ _).mono ?_; rintro e w4 ⟨rfl, rfl⟩
        go_wp2_with (go_at_call 20; refine (num24 _ _).mono ?_; rintro e w4 ⟨rfl, rfl⟩)
        go_ret
        exact ⟨rfl, below_then hb1 (below_then ((below_dn _ (Below.refl w1.heap.size w1)).alloc (Nat.le_refl _) _) hb3)⟩
    · go_enter Try.func8, Try.ntmps8
      go_wp2_with fail
      refine (alive24 _).mono ?_; rintro e w1 ⟨rfl, hb1⟩
      go_wp2_with fail
      refine (func16_any _ 1 (by decide)).mono ?_; rintro e w2 ⟨s, rfl, hs, rfl⟩
      have q0 : (17 : Int) ≤ (s.size : Int) := by omega
      have q1 : (41 : Int) ≤ (s.size : Int) := by omega
      have q2 : (101 : Int) ≤ (s.size : Int) := by omega
      have r0 : 17 ≤ s.size := by omega
      have r1 : 41 ≤ s.size := by omega
      have r2 : 101 ≤ s.size := by omega
      have s0 : IntKind.i64.wrap 17 = 17 := by decide
      have s1 : IntKind.i64.wrap 41 = 41 := by decide
      have s2 : IntKind.i64.wrap 101 = 101 := by decide
      have s3 : IntKind.i64.wrap 1001 = 1001 := by decide
      replace hR : rightR (limQ s 1 3) = 6 := (hR.out s hs 3 (by decide)).trans (by decide)
      replace hR := Lib.hid hR
      replace hs := Lib.hid hs
      go_wp2_with fail
      go_still_tail 36, (by kernel_rfl)
      all_goals go_wp2_with fail
      all_goals
        refine (right_any _ (limQ s 1 3)).mono ?_; rintro e w3 ⟨rfl, hb3⟩
        rw [hR.out]
        go_wp2_with fail
        refine (num24 _ _).mono ?_; rintro e w4 ⟨rfl, rfl⟩
        go_wp2_with (go_at_call 20; refine (num24 _ _).mono ?_; rintro e w4 ⟨rfl, rfl⟩)
        go_ret
        exact ⟨rfl, below_then hb1 (below_then ((below_dn _ (Below.refl w1.heap.size w1)).alloc (Nat.le_refl _) _) hb3)⟩
    · go_enter Try.func8, Try.ntmps8
      go_wp2_with fail
      refine (alive24 _).mono ?_; rintro e w1 ⟨rfl, hb1⟩
      go_wp2_with fail
      refine (func16_any _ 1 (by decide)).mono ?_; rintro e w2 ⟨s, rfl, hs, rfl⟩
      have q0 : (17 : Int) ≤ (s.size : Int) := by omega
      have q1 : (41 : Int) ≤ (s.size : Int) := by omega
      have q2 : (101 : Int) ≤ (s.size : Int) := by omega
      have r0 : 17 ≤ s.size := by omega
      have r1 : 41 ≤ s.size := by omega
      have r2 : 101 ≤ s.size := by omega
      have s0 : IntKind.i64.wrap 17 = 17 := by decide
      have s1 : IntKind.i64.wrap 41 = 41 := by decide
      have s2 : IntKind.i64.wrap 101 = 101 := by decide
      have s3 : IntKind.i64.wrap 1001 = 1001 := by decide
      replace hR : rightR (limQ s 1 4) = 6 := (hR.out s hs 4 (by decide)).trans (by decide)
      replace hR := Lib.hid hR
      replace hs := Lib.hid hs
      go_wp2_with fail
      go_still_tail 36, (by kernel_rfl)
      all_goals go_wp2_with fail
      all_goals
        refine (right_any _ (limQ s 1 4)).mono ?_; rintro e w3 ⟨rfl, hb3⟩
        rw [hR.out]
        go_wp2_with fail
        refine (num24 _ _).mono ?_; rintro e w4 ⟨rfl, rfl⟩
        go_wp2_with (go_at_call 20; refine (num24 _ _).mono ?_; rintro e w4 ⟨rfl, rfl⟩)
        go_ret
        exact ⟨rfl, below_then hb1 (below_then ((below_dn _ (Below.refl w1.heap.size w1)).alloc (Nat.le_refl _) _) hb3)⟩
    · go_enter Try.func8, Try.ntmps8
      go_wp2_with fail
      refine (alive24 _).mono ?_; rintro e w1 ⟨rfl, hb1⟩
      go_wp2_with fail
      refine (func16_any _ 1 (by decide)).mono ?_; rintro e w2 ⟨s, rfl, hs, rfl⟩
      have q0 : (17 : Int) ≤ (s.size : Int) := by omega
      have q1 : (41 : Int) ≤ (s.size : Int) := by omega
      have q2 : (101 : Int) ≤ (s.size : Int) := by omega
      have r0 : 17 ≤ s.size := by omega
      have r1 : 41 ≤ s.size := by omega
      have r2 : 101 ≤ s.size := by omega
      have s0 : IntKind.i64.wrap 17 = 17 := by decide
      have s1 : IntKind.i64.wrap 41 = 41 := by decide
      have s2 : IntKind.i64.wrap 101 = 101 := by decide
      have s3 : IntKind.i64.wrap 1001 = 1001 := by decide
      replace hR : rightR (limQ s 1 5) = 6 := (hR.out s hs 5 (by decide)).trans (by decide)
      replace hR := Lib.hid hR
      replace hs := Lib.hid hs
      go_wp2_with fail
      go_still_tail 36, (by kernel_rfl)
      all_goals go_wp2_with fail
      all_goals
        refine (right_any _ (limQ s 1 5)).mono ?_; rintro e w3 ⟨rfl, hb3⟩
        rw [hR.out]
        go_wp2_with fail
        refine (num24 _ _).mono ?_; rintro e w4 ⟨rfl, rfl⟩
        go_wp2_with (go_at_call 20; refine (num24 _ _).mono ?_; rintro e w4 ⟨rfl, rfl⟩)
        go_ret
        exact ⟨rfl, below_then hb1 (below_then ((below_dn _ (Below.refl w1.heap.size w1)).alloc (Nat.le_refl _) _) hb3)⟩
    · go_enter Try.func8, Try.ntmps8
      go_wp2_with fail
      refine (alive24 _).mono ?_; rintro e w1 ⟨rfl, hb1⟩
      go_wp2_with fail
      refine (func16_any _ 1 (by decide)).mono ?_; rintro e w2 ⟨s, rfl, hs, rfl⟩
      have q0 : (17 : Int) ≤ (s.size : Int) := by omega
      have q1 : (41 : Int) ≤ (s.size : Int) := by omega
      have q2 : (101 : Int) ≤ (s.size : Int) := by omega
      have r0 : 17 ≤ s.size := by omega
      have r1 : 41 ≤ s.size := by omega
      have r2 : 101 ≤ s.size := by omega
      have s0 : IntKind.i64.wrap 17 = 17 := by decide
      have s1 : IntKind.i64.wrap 41 = 41 := by decide
      have s2 : IntKind.i64.wrap 101 = 101 := by decide
      have s3 : IntKind.i64.wrap 1001 = 1001 := by decide
      replace hR : rightR (limQ s 1 6) = 1 := (hR.out s hs 6 (by decide)).trans (by decide)
      replace hR := Lib.hid hR
      replace hs := Lib.hid hs
      go_wp2_with fail
      go_still_tail 36, (by kernel_rfl)
      all_goals go_wp2_with fail
      all_goals
        refine (right_any _ (limQ s 1 6)).mono ?_; rintro e w3 ⟨rfl, hb3⟩
        rw [hR.out]
        go_wp2_with fail
        refine (num24 _ _).mono ?_; rintro e w4 ⟨rfl, rfl⟩
        go_wp2_with (go_at_call 20; refine (num24 _ _).mono ?_; rintro e w4 ⟨rfl, rfl⟩)
        go_ret
        exact ⟨rfl, below_then hb1 (below_then ((below_dn _ (Below.refl w1.heap.size w1)).alloc (Nat.le_refl _) _) hb3)⟩
    · go_enter Try.func8, Try.ntmps8
      go_wp2_with fail
      refine (alive24 _).mono ?_; rintro e w1 ⟨rfl, hb1⟩
      go_wp2_with fail
      refine (func16_any _ 1 (by decide)).mono ?_; rintro e w2 ⟨s, rfl, hs, rfl⟩
      have q0 : (17 : Int) ≤ (s.size : Int) := by omega
      have q1 : (41 : Int) ≤ (s.size : Int) := by omega
      have q2 : (101 : Int) ≤ (s.size : Int) := by omega
      have r0 : 17 ≤ s.size := by omega
      have r1 : 41 ≤ s.size := by omega
      have r2 : 101 ≤ s.size := by omega
      have s0 : IntKind.i64.wrap 17 = 17 := by decide
      have s1 : IntKind.i64.wrap 41 = 41 := by decide
      have s2 : IntKind.i64.wrap 101 = 101 := by decide
      have s3 : IntKind.i64.wrap 1001 = 1001 := by decide
      replace hR : rightR (limQ s 1 7) = 1 := (hR.out s hs 7 (by decide)).trans (by decide)
      replace hR := Lib.hid hR
      replace hs := Lib.hid hs
      go_wp2_with fail
      go_still_tail 36, (by kernel_rfl)
      all_goals go_wp2_with fail
      all_goals
        refine (right_any _ (limQ s 1 7)).mono ?_; rintro e w3 ⟨rfl, hb3⟩
        rw [hR.out]
        go_wp2_with fail
        refine (num24 _ _).mono ?_; rintro e w4 ⟨rfl, rfl⟩
        go_wp2_with (go_at_call 20; refine (num24 _ _).mono ?_; rintro e w4 ⟨rfl, rfl⟩)
        go_ret
        exact ⟨rfl, below_then hb1 (below_then ((below_dn _ (Below.refl w1.heap.size w1)).alloc (Nat.le_refl _) _) hb3)⟩
theorem sessionLimits_walk (W : World) (which : Int) (_ : (Lit.int .i64 which).wf = true) (over : Bool) :
    Calls Try.prog 8 #[.int .i64 which, .bool over] W fun e w' => e = .returned (.bool true) ∧ Below W.heap.size W w' := limits_core W which over
end Go.Proofs.Ytbckobclicogiaa
