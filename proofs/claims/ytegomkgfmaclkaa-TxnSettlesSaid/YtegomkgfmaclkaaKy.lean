/-
  The keys' order: cmp.Compare, order.Keys, order.In, posteref1.Keys, each by its contract.
-/
import Derived.Test.YtegomkgfmaclkaaProg
import Derived.Test.YtegomkgfmaclkaaOrd
import Derived.Test.YtegomkgfmaclkaaMem
import Derived.WalkKit
import Derived.WalkSpells
import Derived.WalkLawsBesides
import Derived.Deep.QuietTactic
import Derived.BigQuiet
import Derived.StillTailTactics
import Derived.Lib.Hide
import Derived.Handy
import Derived.Deep.RegionHeld3
import Derived.Deep.RegionWith
import Derived.Deep.DeepMust
namespace Go.Proofs.Ytegomkgfmaclkaa
open Go.RowKit Go.Proofs.PosteOrd Go.Proofs.PosteMem

theorem isNaN_string (a : ByteArray) (w : World) : Calls Try.prog 107 #[.string a] w fun e w' => e = .returned (.bool false) ∧ w = w' := by
  go_enter Try.func107, Try.ntmps107
  go_wp2
  go_ret
  exact ⟨by simp, rfl⟩

set_option maxHeartbeats 1000000 in
theorem compare_string (a b : ByteArray) (w : World) : Calls Try.prog 87 #[.string a, .string b] w fun e w' => e = .returned (.int .i64 (cmpL a.toList b.toList)) ∧ w = w' := by
  go_enter Try.func87, Try.ntmps87
  go_wp2_with (go_at_call 107; refine (isNaN_string _ _).mono ?_; rintro e w' ⟨rfl, rfl⟩)
  · go_ret
    refine ⟨ret_int ?_, rfl⟩
    rw [cmpL, if_pos (by assumption)]
  · go_ret
    refine ⟨ret_int ?_, rfl⟩
    have h1 : Op.bytesLess a.toList b.toList = false := by assumption
    have h2 : (!a.toList == b.toList) = true := by assumption
    have h3 : Op.bytesLess b.toList a.toList = true := by
      cases h : Op.bytesLess b.toList a.toList with
      | true => rfl
      | false => rw [less_total _ _ h1 h] at h2; simp at h2
    rw [cmpL, h1, h3]; rfl
  · go_ret
    refine ⟨ret_int ?_, rfl⟩
    have h2 : (!a.toList == b.toList) = false := by assumption
    have h3 : a.toList = b.toList := by simpa using h2
    rw [h3, cmpL_self]
theorem keys_any (a b : ByteArray) (w : World) : Calls Try.prog 61 #[.string a, .string b] w fun e w' => e = .returned (.int .i64 (cmpL a.toList b.toList)) ∧ w = w' := by
  go_enter Try.func61, Try.ntmps61
  go_wp2_with (go_at_call 87; refine (compare_string _ _ _).mono ?_; rintro e w' ⟨rfl, rfl⟩)
  go_ret
  exact ⟨rfl, rfl⟩
def inB (k f t : ByteArray) : Bool := !Op.bytesLess k.toList f.toList && (t.toList.isEmpty || Op.bytesLess k.toList t.toList)
set_option maxHeartbeats 1000000 in
theorem in_any (k f t : ByteArray) (w : World) : Calls Try.prog 58 #[.string k, .string f, .string t] w fun e w' => e = .returned (.bool (inB k f t)) ∧ w = w' := by
  go_enter Try.func58, Try.ntmps58
  go_wp2
  all_goals
    go_ret
    refine ⟨ret_bool ?_, rfl⟩
    unfold inB
    simp [*]

set_option maxHeartbeats 4000000 in
theorem refKeys_any (a b : ByteArray) (w : World) (ha : a.size ≤ 140737488351232) (hb : b.size ≤ 140737488351232) :
    Calls Try.prog 57 #[.string a, .string b] w fun e w' => e = .returned (.int .i64 (cmpL a.toList b.toList)) ∧ Same w w' := by
  rw [ByteArray.toList_eq, ByteArray.toList_eq]
  go_enter Try.func57, Try.ntmps57
  go_wp2
  go_loopw [5] (fun i wr => ∃ k : Nat, k ≤ a.size ∧ k ≤ b.size ∧ i = .int .i64 k ∧ a.data.toList.take k = b.data.toList.take k ∧ Same w wr) (fun i _ => a.size - (intOf i).toNat)
  case atStart => exact ⟨0, by omega, by omega, rfl, by simp, 0, rfl⟩
  case round =>
    obtain ⟨k, hka, hkb, rfl, hp, n, rfl⟩ := hrel
    have HP := Lib.hid hp; clear hp
    by_cases hh : k < a.size ∧ k < b.size
    · obtain ⟨h1, h2⟩ := hh
      have q1 : ((k : Int) < (a.size : Int)) := by omega
      have q2 : ((k : Int) < (b.size : Int)) := by omega
      go_wp2_with fail
      go_quiet (fail)
      go_wp2_with fail
      · go_ret
        exact ⟨ret_int ((cmpL_at HP.out (by simpa using h1) (by simpa using h2)).1 (by assumption)).symm, (by repeat (first | exact Same.of _ _ | exact Same.refl _ | refine Same.drewN ?_ _ | refine Same.drew ?_))⟩
      · go_quiet (fail)
        go_wp2_with fail
        · go_ret
          exact ⟨ret_int ((cmpL_at HP.out (by simpa using h1) (by simpa using h2)).2 (by assumption)).symm, (by repeat (first | exact Same.of _ _ | exact Same.refl _ | refine Same.drewN ?_ _ | refine Same.drew ?_))⟩
        · go_roundw
          case rel => exact ⟨k + 1, by omega, by omega, by go_num, take_succ_eq HP.out (by simpa using h1) (by simpa using h2) (UInt8.toNat_inj.1 (by show (a[k]'h1).toNat = (b[k]'h2).toNat; omega)), ⟨_, rfl⟩⟩
          case measure => simp [intOf]; omega
    · have hh' : ¬ ((k : Int) < (a.size : Int) ∧ (k : Int) < (b.size : Int)) := by omega
      have HE := cmpL_end HP.out (by simp; omega) (by simpa using hka) (by simpa using hkb)
      have HE := Lib.hid HE
      go_wp2_with fail
      all_goals
        go_ret
        refine ⟨ret_int ?_, (by repeat (first | exact Same.of _ _ | exact Same.refl _ | refine Same.drewN ?_ _ | refine Same.drew ?_))⟩
      · exact (HE.out.2.1 (by assumption)).symm
      · exact (HE.out.1 (by assumption)).symm
      · exact (HE.out.2.2 (by simp; omega)).symm
end Go.Proofs.Ytegomkgfmaclkaa
