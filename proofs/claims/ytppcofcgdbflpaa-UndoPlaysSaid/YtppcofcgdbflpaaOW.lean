/-
  The walks of package order, of cmp and of posteref1's order functions, each by its contract.
-/
import Derived.Test.YtppcofcgdbflpaaProg
import Derived.Test.YtppcofcgdbflpaaOrd
import Derived.WalkKit
import Derived.WalkSpells
import Derived.WalkLawsBesides
import Derived.Deep.QuietTactic
import Derived.BigQuiet
import Derived.StillTailTactics
import Derived.Lib.Hide
import Derived.Handy
import Derived.Deep.RegionHeld3
import Derived.Deep.RegionWith
import Derived.Deep.DeepMust
namespace Go.Proofs.Ytppcofcgdbflpaa
open Go.RowKit Go.Proofs.PosteOrd

theorem isNaN_string (a : ByteArray) (w : World) : Calls Try.prog 58 #[.string a] w fun e w' => e = .returned (.bool false) ∧ w = w' := by
  go_enter Try.func58, Try.ntmps58
  go_wp2
  go_ret
  exact ⟨by simp, rfl⟩
theorem isNaN_int (a : Int) (w : World) : Calls Try.prog 59 #[.int .i64 a] w fun e w' => e = .returned (.bool false) ∧ w = w' := by
  go_enter Try.func59, Try.ntmps59
  go_wp2
  go_ret
  exact ⟨by simp, rfl⟩

theorem ret_int {k : IntKind} {a b : Int} (h : a = b) : Ending.returned (.int k a) = .returned (.int k b) := by rw [h]
theorem ret_bool {a b : Bool} (h : a = b) : Ending.returned (.bool a) = .returned (.bool b) := by rw [h]

set_option maxHeartbeats 1000000 in
theorem compare_string (a b : ByteArray) (w : World) : Calls Try.prog 46 #[.string a, .string b] w fun e w' => e = .returned (.int .i64 (cmpL a.toList b.toList)) ∧ w = w' := by
  go_enter Try.func46, Try.ntmps46
  go_wp2_with (go_at_call 58; refine (isNaN_string _ _).mono ?_; rintro e w' ⟨rfl, rfl⟩)
  · go_ret
    refine ⟨ret_int ?_, rfl⟩
    rw [cmpL, if_pos (by assumption)]
  · go_ret
    refine ⟨ret_int ?_, rfl⟩
    have h1 : Op.bytesLess a.toList b.toList = false := by assumption
    have h2 : (!a.toList == b.toList) = true := by assumption
    have h3 : Op.bytesLess b.toList a.toList = true := by
      cases h : Op.bytesLess b.toList a.toList with
      | true => rfl
      | false => rw [less_total _ _ h1 h] at h2; simp at h2
    rw [cmpL, h1, h3]; rfl
  · go_ret
    refine ⟨ret_int ?_, rfl⟩
    have h2 : (!a.toList == b.toList) = false := by assumption
    have h3 : a.toList = b.toList := by simpa using h2
    rw [h3, cmpL_self]
theorem keys_any (a b : ByteArray) (w : World) : Calls Try.prog 14 #[.string a, .string b] w fun e w' => e = .returned (.int .i64 (cmpL a.toList b.toList)) ∧ w = w' := by
  go_enter Try.func14, Try.ntmps14
  go_wp2_with (go_at_call 46; refine (compare_string _ _ _).mono ?_; rintro e w' ⟨rfl, rfl⟩)
  go_ret
  exact ⟨rfl, rfl⟩
def inB (k f t : ByteArray) : Bool := !Op.bytesLess k.toList f.toList && (t.toList.isEmpty || Op.bytesLess k.toList t.toList)
set_option maxHeartbeats 1000000 in
theorem in_any (k f t : ByteArray) (w : World) : Calls Try.prog 16 #[.string k, .string f, .string t] w fun e w' => e = .returned (.bool (inB k f t)) ∧ w = w' := by
  go_enter Try.func16, Try.ntmps16
  go_wp2
  all_goals
    go_ret
    refine ⟨ret_bool ?_, rfl⟩
    unfold inB
    simp [*]
set_option maxHeartbeats 1000000 in
theorem next_any (k : ByteArray) (w : World) (hk : k.size ≤ 140737488351232) : Calls Try.prog 15 #[.string k] w fun e w' => e = .returned (.string (k ++ ⟨#[0]⟩)) ∧ w = w' := by
  go_enter Try.func15, Try.ntmps15
  go_wp2
  go_ret
  exact ⟨rfl, rfl⟩
set_option maxHeartbeats 1000000 in
theorem alive1 (w : World) : Calls Try.prog 13 #[] w fun e w' => e = .returned (.bool true) ∧ w = w' := by
  have e1 : cmpL [97] [97, 98] = -1 := by decide
  have e2 : cmpL [98] [97] = 1 := by decide
  have e3 : inB { data := #[98] } { data := #[97] } { data := #[] } = true := by unfold inB; simp only [ByteArray.toList_eq]; decide
  go_enter Try.func13, Try.ntmps13
  go_wp2_with (first | (go_at_call 14; refine (keys_any _ _ _).mono ?_; rintro e w' ⟨rfl, rfl⟩) | (go_at_call 16; refine (in_any _ _ _ _).mono ?_; rintro e w' ⟨rfl, rfl⟩))
  go_ret
  exact ⟨rfl, rfl⟩

def cmpI (a b : Int) : Int := if a < b then -1 else if b < a then 1 else 0
set_option maxHeartbeats 1000000 in
theorem compare_int (a b : Int) (w : World) : Calls Try.prog 48 #[.int .i64 a, .int .i64 b] w fun e w' => e = .returned (.int .i64 (cmpI a b)) ∧ w = w' := by
  have h : (a < b ∧ cmpI a b = -1) ∨ (b < a ∧ cmpI a b = 1) ∨ (¬ a < b ∧ ¬ b < a ∧ cmpI a b = 0) := by
    unfold cmpI; by_cases h1 : a < b
    · exact .inl ⟨h1, by simp [h1]⟩
    · by_cases h2 : b < a
      · exact .inr (.inl ⟨h2, by simp [h1, h2]⟩)
      · exact .inr (.inr ⟨h1, h2, by simp [h1, h2]⟩)
  rcases h with ⟨h1, h⟩ | ⟨h1, h⟩ | ⟨h1, h2, h⟩
  all_goals
    rw [h]; clear h
    go_enter Try.func48, Try.ntmps48
    go_wp2_with (go_at_call 59; refine (isNaN_int _ _).mono ?_; rintro e w' ⟨rfl, rfl⟩)
    go_ret
    exact ⟨rfl, rfl⟩

def orI (x y : Int) : Int := if x = 0 then y else x
set_option maxHeartbeats 1000000 in
theorem or_two (x y : Int) (b : Nat) (w : World) (h0 : w.cell? ⟨b, 0, none⟩ = some (.int .i64 x)) (h1 : w.cell? ⟨b, 1, none⟩ = some (.int .i64 y)) :
    Calls Try.prog 47 #[.slice (some ⟨b, 0, none⟩) 2 2] w fun e w' => e = .returned (.int .i64 (orI x y)) ∧ w = w' := by
  unfold orI
  by_cases hx : x = 0
  · subst hx
    by_cases hy : y = 0
    · subst hy
      go_enter Try.func47, Try.ntmps47
      go_wp2
      go_rounds 3
      go_ret; exact ⟨rfl, rfl⟩
    · have hy' : (y != 0) = true := by simpa using hy
      go_enter Try.func47, Try.ntmps47
      go_wp2
      go_rounds 3
      go_ret; exact ⟨rfl, rfl⟩
  · rw [if_neg hx]
    have hx' : (x != 0) = true := by simpa using hx
    clear hx
    go_enter Try.func47, Try.ntmps47
    go_wp2
    go_rounds 3
    go_ret; exact ⟨rfl, rfl⟩

structure M where
  id : Int
  pri : Int
  retry : Int
  claimed : Bool
  corr : ByteArray
  body : ByteArray
def M.val (m : M) : Value := .agg #[.int .i64 m.id, .int .i64 m.pri, .int .i64 m.retry, .bool m.claimed, .string m.corr, .string m.body]
def cmpM (x y : M) : Int := orI (cmpI x.pri y.pri) (cmpI x.id y.id)
set_option maxHeartbeats 1000000 in
theorem msgs_any (x y : M) (w : World) : Calls Try.prog 17 #[x.val, y.val] w fun e w' => e = .returned (.int .i64 (cmpM x y)) ∧ Below w.heap.size w w' := by
  unfold M.val
  go_enter Try.func17, Try.ntmps17
  go_wp2
  go_region_held3 (fun w' => w'.cell? ⟨w.heap.size, 0, none⟩ = some (.int .i64 x.id) ∧ w'.cell? ⟨w.heap.size, 1, none⟩ = some (.int .i64 x.pri) ∧ w'.cell? ⟨w.heap.size + 1, 0, none⟩ = some (.int .i64 y.id) ∧ w'.cell? ⟨w.heap.size + 1, 1, none⟩ = some (.int .i64 y.pri)) (go_keep) (first | (go_at_call 48; refine (compare_int _ _ _).mono ?_; rintro e w' ⟨rfl, rfl⟩) | (go_at_call 47; refine (or_two (cmpI x.pri y.pri) (cmpI x.id y.id) _ _ (by go_simp) (by go_simp)).mono ?_; rintro e w' ⟨rfl, rfl⟩))
  go_wp2
  go_ret
  exact ⟨rfl, by go_grown⟩
end Go.Proofs.Ytppcofcgdbflpaa
