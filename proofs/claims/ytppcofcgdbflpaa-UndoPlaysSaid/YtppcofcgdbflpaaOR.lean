/-
  The walks of posteref1's order functions, each by its contract.
-/
import Derived.Test.YtppcofcgdbflpaaOW
namespace Go.Proofs.Ytppcofcgdbflpaa
open Go.RowKit Go.Proofs.PosteOrd

def Same (w w' : World) : Prop := ∃ n, w' = w.drewN n
theorem Same.refl (w : World) : Same w w := ⟨0, rfl⟩
theorem Same.of (w : World) (n : Nat) : Same w (w.drewN n) := ⟨n, rfl⟩
theorem Same.drewN {w w1 : World} (h : Same w w1) (m : Nat) : Same w (w1.drewN m) := by
  obtain ⟨n, rfl⟩ := h
  exact ⟨n + m, World.drewN_drewN ..⟩
theorem Same.drew {w w1 : World} (h : Same w w1) : Same w w1.drew := by
  obtain ⟨n, rfl⟩ := h
  exact ⟨n + 1, World.drewN_drewN w n 1⟩
theorem Same.trans {w w1 w2 : World} (h : Same w w1) (k : Same w1 w2) : Same w w2 := by
  obtain ⟨n, rfl⟩ := k
  exact h.drewN n
theorem Same.below {w w1 : World} (h : Same w w1) : Below w.heap.size w w1 := by
  obtain ⟨n, rfl⟩ := h
  exact ⟨rfl, rfl, rfl, Nat.le_refl _, fun _ _ => rfl⟩

set_option maxHeartbeats 4000000 in
theorem refKeys_any (a b : ByteArray) (w : World) (ha : a.size ≤ 140737488351232) (hb : b.size ≤ 140737488351232) :
    Calls Try.prog 18 #[.string a, .string b] w fun e w' => e = .returned (.int .i64 (cmpL a.toList b.toList)) ∧ Same w w' := by
  rw [ByteArray.toList_eq, ByteArray.toList_eq]
  go_enter Try.func18, Try.ntmps18
  go_wp2
  go_loopw [5] (fun i wr => ∃ k : Nat, k ≤ a.size ∧ k ≤ b.size ∧ i = .int .i64 k ∧ a.data.toList.take k = b.data.toList.take k ∧ Same w wr) (fun i _ => a.size - (intOf i).toNat)
  case atStart => exact ⟨0, by omega, by omega, rfl, by simp, 0, rfl⟩
  case round =>
    obtain ⟨k, hka, hkb, rfl, hp, n, rfl⟩ := hrel
    have HP := Lib.hid hp; clear hp
    by_cases hh : k < a.size ∧ k < b.size
    · obtain ⟨h1, h2⟩ := hh
      have q1 : ((k : Int) < (a.size : Int)) := by omega
      have q2 : ((k : Int) < (b.size : Int)) := by omega
      go_wp2_with fail
      go_quiet (fail)
      go_wp2_with fail
      · go_ret
        exact ⟨ret_int ((cmpL_at HP.out (by simpa using h1) (by simpa using h2)).1 (by assumption)).symm, (by repeat (first | exact Same.of _ _ | exact Same.refl _ | refine Same.drewN ?_ _ | refine Same.drew ?_))⟩
      · go_quiet (fail)
        go_wp2_with fail
        · go_ret
          exact ⟨ret_int ((cmpL_at HP.out (by simpa using h1) (by simpa using h2)).2 (by assumption)).symm, (by repeat (first | exact Same.of _ _ | exact Same.refl _ | refine Same.drewN ?_ _ | refine Same.drew ?_))⟩
        · go_roundw
          case rel => exact ⟨k + 1, by omega, by omega, by go_num, take_succ_eq HP.out (by simpa using h1) (by simpa using h2) (UInt8.toNat_inj.1 (by show (a[k]'h1).toNat = (b[k]'h2).toNat; omega)), ⟨_, rfl⟩⟩
          case measure => simp [intOf]; omega
    · have hh' : ¬ ((k : Int) < (a.size : Int) ∧ (k : Int) < (b.size : Int)) := by omega
      have HE := cmpL_end HP.out (by simp; omega) (by simpa using hka) (by simpa using hkb)
      have HE := Lib.hid HE
      go_wp2_with fail
      all_goals
        go_ret
        refine ⟨ret_int ?_, (by repeat (first | exact Same.of _ _ | exact Same.refl _ | refine Same.drewN ?_ _ | refine Same.drew ?_))⟩
      · exact (HE.out.2.1 (by assumption)).symm
      · exact (HE.out.1 (by assumption)).symm
      · exact (HE.out.2.2 (by simp; omega)).symm

set_option maxHeartbeats 1000000 in
theorem refIn_any (k f t : ByteArray) (w : World) (hk : k.size ≤ 140737488351232) (hf : f.size ≤ 140737488351232) (ht : t.size ≤ 140737488351232) :
    Calls Try.prog 21 #[.string k, .string f, .string t] w fun e w' => e = .returned (.bool (inB k f t)) ∧ Same w w' := by
  have r1 := cmpL_range k.toList f.toList
  have r2 := cmpL_range k.toList t.toList
  have e : inB k f t = (decide (0 ≤ cmpL k.toList f.toList) && (t.toList.isEmpty || decide (cmpL k.toList t.toList < 0))) := by
    unfold inB
    rw [Bool.eq_iff_iff]
    simp [cmpL_neg, cmpL_nonneg]
  have E := Lib.hid e; clear e
  go_enter Try.func21, Try.ntmps21
  go_wp2_with (go_at_call 18; refine (refKeys_any _ _ _ (by assumption) (by assumption)).mono ?_; rintro e w' ⟨rfl, n, rfl⟩)
  all_goals
    go_ret
    refine ⟨ret_bool ?_, (by repeat (first | exact Same.of _ _ | exact Same.refl _ | refine Same.drewN ?_ _ | refine Same.drew ?_))⟩
    rw [E.out]
  · simp [*]
  · simp [*]
  · have h : ¬ 0 ≤ cmpL k.toList f.toList := by omega
    simp [h]

set_option maxHeartbeats 1000000 in
theorem refNext_any (k : ByteArray) (w : World) (hk : k.size ≤ 140737488351232) : Calls Try.prog 20 #[.string k] w fun e w' => e = .returned (.string (k ++ ⟨#[0]⟩)) ∧ w = w' := by
  go_enter Try.func20, Try.ntmps20
  go_wp2
  go_ret
  exact ⟨rfl, rfl⟩

theorem cmpM_cases (x y : M) : (x.pri < y.pri ∧ cmpM x y = -1) ∨ (y.pri < x.pri ∧ cmpM x y = 1) ∨ (x.pri = y.pri ∧ x.id < y.id ∧ cmpM x y = -1) ∨ (x.pri = y.pri ∧ y.id < x.id ∧ cmpM x y = 1) ∨ (x.pri = y.pri ∧ x.id = y.id ∧ cmpM x y = 0) := by
  unfold cmpM orI cmpI
  by_cases h1 : x.pri < y.pri
  · left; simp [h1]
  · by_cases h2 : y.pri < x.pri
    · right; left; simp [h1, h2]
    · have e : x.pri = y.pri := by omega
      by_cases h3 : x.id < y.id
      · right; right; left; simp [e, h3]
      · by_cases h4 : y.id < x.id
        · right; right; right; left; simp [e, h3, h4]
        · right; right; right; right
          have e2 : x.id = y.id := by omega
          simp [e, e2]
set_option maxHeartbeats 2000000 in
theorem refMsgs_any (x y : M) (w : World) : Calls Try.prog 19 #[x.val, y.val] w fun e w' => e = .returned (.int .i64 (cmpM x y)) ∧ Below w.heap.size w w' := by
  have h := cmpM_cases x y
  generalize cmpM x y = r at h
  unfold M.val
  rcases h with ⟨h1, rfl⟩ | ⟨h1, rfl⟩ | ⟨h1, h2, rfl⟩ | ⟨h1, h2, rfl⟩ | ⟨h1, h2, rfl⟩
  all_goals
    try have e1 : (x.pri == y.pri) = true := by simpa using h1
    go_enter Try.func19, Try.ntmps19
    go_wp2
    go_ret
    exact ⟨rfl, by go_grown⟩
end Go.Proofs.Ytppcofcgdbflpaa
