/-
  The walks of the laws OrderRow, OrderNext, OrderMsgs: each returns true.
-/
import Derived.Test.YtppcofcgdbflpaaOR
namespace Go.Proofs.Ytppcofcgdbflpaa
open Go.RowKit Go.Proofs.PosteOrd

set_option maxHeartbeats 4000000 in
theorem orderRow_core (a b c : ByteArray) (w : World) (x y z : Int) (hx : -1 ≤ x ∧ x ≤ 1) (hab : (x == 0) = (a.toList == b.toList))
   (t1 : x ≤ 0 → y ≤ 0 → z ≤ 0) (t2 : 0 ≤ x → 0 ≤ y → 0 ≤ z) (sa : a.size ≤ 100) (sb : b.size ≤ 100) (sc : c.size ≤ 100)
   (kab : ∀ w, Calls Try.prog 14 #[.string a, .string b] w fun e w' => e = .returned (.int .i64 x) ∧ w = w')
   (kba : ∀ w, Calls Try.prog 14 #[.string b, .string a] w fun e w' => e = .returned (.int .i64 (-x)) ∧ w = w')
   (kbc : ∀ w, Calls Try.prog 14 #[.string b, .string c] w fun e w' => e = .returned (.int .i64 y) ∧ w = w')
   (kac : ∀ w, Calls Try.prog 14 #[.string a, .string c] w fun e w' => e = .returned (.int .i64 z) ∧ w = w') :
   Calls Try.prog 3 #[.string a, .string b, .string c] w fun e w' => e = .returned (.bool true) ∧ w = w' := by
  have kab := Lib.hid kab
  have kba := Lib.hid kba
  have kbc := Lib.hid kbc
  have kac := Lib.hid kac
  go_enter Try.func3, Try.ntmps3
  go_wp2_with fail
  refine (alive1 _).mono ?_; rintro e w' ⟨rfl, rfl⟩
  go_wp2_with fail
  refine (kab.out _).mono ?_; rintro e w' ⟨rfl, rfl⟩
  go_wp2_with fail
  refine (kbc.out _).mono ?_; rintro e w' ⟨rfl, rfl⟩
  go_wp2_with fail
  refine (kac.out _).mono ?_; rintro e w' ⟨rfl, rfl⟩
  go_wp2_with fail
  refine (kba.out _).mono ?_; rintro e w' ⟨rfl, rfl⟩
  go_wp2_with fail
  all_goals
    go_ret
    exact ⟨rfl, rfl⟩

theorem keys_at (a b : ByteArray) (x : Int) (h : cmpL a.toList b.toList = x) : ∀ w, Calls Try.prog 14 #[.string a, .string b] w fun e w' => e = .returned (.int .i64 x) ∧ w = w' := fun w => by
  subst h; exact keys_any a b w

set_option maxHeartbeats 1000000 in
theorem orderRow_any (a b c : ByteArray) (w : World) :
   Calls Try.prog 3 #[.string a, .string b, .string c] w fun e w' => e = .returned (.bool true) ∧ w = w' := by
  by_cases hs : a.size ≤ 100 ∧ b.size ≤ 100 ∧ c.size ≤ 100
  · refine orderRow_core a b c w (cmpL a.toList b.toList) (cmpL b.toList c.toList) (cmpL a.toList c.toList) (cmpL_range _ _) ?_ (fun h k => cmpL_le_trans h k) (fun h k => ?_) hs.1 hs.2.1 hs.2.2
      (keys_at _ _ _ rfl) (keys_at _ _ _ (cmpL_swap _ _)) (keys_at _ _ _ rfl) (keys_at _ _ _ rfl)
    · rw [Bool.eq_iff_iff]; simp [cmpL_eq]
    · have e1 := cmpL_swap a.toList b.toList
      have e2 := cmpL_swap b.toList c.toList
      have e3 := cmpL_swap a.toList c.toList
      have := cmpL_le_trans (a := c.toList) (b := b.toList) (c := a.toList) (by omega) (by omega)
      omega
  · have hs' : ¬ ((a.size : Int) ≤ 100 ∧ (b.size : Int) ≤ 100 ∧ (c.size : Int) ≤ 100) := by omega
    go_enter Try.func3, Try.ntmps3
    go_wp2_with fail
    refine (alive1 _).mono ?_; rintro e w' ⟨rfl, rfl⟩
    go_wp2_with fail
    all_goals first | (go_ret; exact ⟨rfl, rfl⟩) | (exfalso; omega)

theorem inB_self (a : ByteArray) : inB a a (a ++ ⟨#[0]⟩) = true := by
  unfold inB
  simp only [ByteArray.toList_eq]
  have e : (a ++ (⟨#[0]⟩ : ByteArray)).data.toList = a.data.toList ++ [0] := by simp [ByteArray.data_append]
  rw [e, less_irrefl, less_snoc0]
  simp

theorem next_toList (a : ByteArray) : (a ++ (⟨#[0]⟩ : ByteArray)).toList = a.toList ++ [0] := by
  simp only [ByteArray.toList_eq]
  simp [ByteArray.data_append]

set_option maxHeartbeats 4000000 in
theorem orderNext_any (a b : ByteArray) (w : World) (sa : a.size ≤ 140737488351232) (sb : b.size ≤ 140737488351232) :
   Calls Try.prog 4 #[.string a, .string b] w fun e w' => e = .returned (.bool true) ∧ w = w' := by
  by_cases hs : a.size ≤ 100 ∧ b.size ≤ 100
  · obtain ⟨h1, h2⟩ := hs
    have k1 := keys_at a b _ rfl
    have k2 := keys_at b (a ++ ⟨#[0]⟩) _ rfl
    have k3 := keys_at a (a ++ ⟨#[0]⟩) (-1) (by rw [next_toList, cmpL_lt, less_snoc0])
    have i2 := in_any b a (a ++ ⟨#[0]⟩)
    have i1 := in_any a a (a ++ ⟨#[0]⟩)
    rw [inB_self] at i1
    have i1 := Lib.hid i1
    have e2 : cmpL b.toList (a ++ (⟨#[0]⟩ : ByteArray)).toList < 0 ↔ cmpL b.toList a.toList ≤ 0 := by rw [next_toList]; exact cmpL_next_iff
    have e3 : inB b a (a ++ ⟨#[0]⟩) = (b.toList == a.toList) := by
      unfold inB
      rw [next_toList, Bool.eq_iff_iff]
      simp only [Bool.and_eq_true, Bool.not_eq_true', Bool.or_eq_true, List.isEmpty_iff, beq_iff_eq, less_snoc0_iff]
      constructor
      · rintro ⟨h1, h2 | h2 | h2⟩
        · simp at h2
        · rw [h1] at h2; cases h2
        · exact h2
      · intro h
        rw [h]
        exact ⟨less_irrefl _, .inr (.inr rfl)⟩
    have e4 : (b.toList == a.toList) = (a.toList == b.toList) := by rw [Bool.eq_iff_iff]; simp; exact ⟨Eq.symm, Eq.symm⟩
    rw [e4] at e3
    rw [e3] at i2
    have e5 := cmpL_swap a.toList b.toList
    generalize cmpL b.toList (a ++ (⟨#[0]⟩ : ByteArray)).toList = y at *
    generalize cmpL a.toList b.toList = x at *
    rw [e5] at e2
    have hxy : x < 0 → ¬ y < 0 := by
      intro h k
      have := e2.1 k
      omega
    clear e2 e5 e3 e4
    have k1 := Lib.hid k1
    have k2 := Lib.hid k2
    have k3 := Lib.hid k3
    have i2 := Lib.hid i2
    go_enter Try.func4, Try.ntmps4
    go_wp2_with fail
    refine (alive1 _).mono ?_; rintro e w' ⟨rfl, rfl⟩
    go_wp2_with fail
    refine (next_any _ _ (by assumption)).mono ?_; rintro e w' ⟨rfl, rfl⟩
    go_wp2_with fail
    refine (k1.out _).mono ?_; rintro e w' ⟨rfl, rfl⟩
    go_wp2_with fail
    · have hx : x < 0 := by assumption
      have hy : decide (y < 0) = false := by have := hxy hx; simpa using this
      clear hxy
      refine (k2.out _).mono ?_; rintro e w' ⟨rfl, rfl⟩
      go_wp2_with fail
      refine (k3.out _).mono ?_; rintro e w' ⟨rfl, rfl⟩
      go_wp2_with fail
      refine (i1.out _).mono ?_; rintro e w' ⟨rfl, rfl⟩
      go_wp2_with fail
      refine (i2.out _).mono ?_; rintro e w' ⟨rfl, rfl⟩
      go_wp2_with fail
      go_ret
      exact ⟨rfl, rfl⟩
    · refine (k3.out _).mono ?_; rintro e w' ⟨rfl, rfl⟩
      go_wp2_with fail
      refine (i1.out _).mono ?_; rintro e w' ⟨rfl, rfl⟩
      go_wp2_with fail
      refine (i2.out _).mono ?_; rintro e w' ⟨rfl, rfl⟩
      go_wp2_with fail
      go_ret
      exact ⟨rfl, rfl⟩
  · have hs' : ¬ ((a.size : Int) ≤ 100 ∧ (b.size : Int) ≤ 100) := by omega
    go_enter Try.func4, Try.ntmps4
    go_wp2_with fail
    refine (alive1 _).mono ?_; rintro e w' ⟨rfl, rfl⟩
    go_wp2_with fail
    all_goals first | (go_ret; exact ⟨rfl, rfl⟩) | (exfalso; omega)

theorem cmpM_range (x y : M) : -1 ≤ cmpM x y ∧ cmpM x y ≤ 1 := by rcases cmpM_cases x y with h | h | h | h | h <;> omega
theorem cmpM_swap (x y : M) : cmpM y x = - cmpM x y := by rcases cmpM_cases x y with h | h | h | h | h <;> rcases cmpM_cases y x with k | k | k | k | k <;> omega
theorem cmpM_eq (x y : M) : cmpM x y = 0 ↔ x.pri = y.pri ∧ x.id = y.id := by rcases cmpM_cases x y with h | h | h | h | h <;> omega
theorem cmpM_le_trans {x y z : M} (h : cmpM x y ≤ 0) (k : cmpM y z ≤ 0) : cmpM x z ≤ 0 := by
  rcases cmpM_cases x y with h1 | h1 | h1 | h1 | h1 <;> rcases cmpM_cases y z with h2 | h2 | h2 | h2 | h2 <;> rcases cmpM_cases x z with h3 | h3 | h3 | h3 | h3 <;> omega
theorem msgs_at (x y : M) (r : Int) (h : cmpM x y = r) : ∀ w, Calls Try.prog 17 #[x.val, y.val] w fun e w' => e = .returned (.int .i64 r) ∧ Below w.heap.size w w' := fun w => by
  subst h; exact msgs_any x y w

theorem bcell {W w1 : World} (hb : Below W.heap.size W w1) : (∀ b o, b < W.heap.size → w1.cell? ⟨b, o, none⟩ = W.cell? ⟨b, o, none⟩) ∧ (∀ b o, b < W.heap.size → w1.frozen? ⟨b, o, none⟩ = W.frozen? ⟨b, o, none⟩) :=
  ⟨fun b o h => hb.cell (p := ⟨b, o, none⟩) h, fun b o h => hb.frozen (p := ⟨b, o, none⟩) h⟩

set_option maxHeartbeats 4000000 in
theorem orderMsgs_core (a b c : M) (w : World) (x y z : Int) (hx : -1 ≤ x ∧ x ≤ 1) (hab : (x == 0) = (a.pri == b.pri && a.id == b.id))
   (t1 : x ≤ 0 → y ≤ 0 → z ≤ 0) (t2 : 0 ≤ x → 0 ≤ y → 0 ≤ z)
   (kab : ∀ w, Calls Try.prog 17 #[a.val, b.val] w fun e w' => e = .returned (.int .i64 x) ∧ Below w.heap.size w w')
   (kba : ∀ w, Calls Try.prog 17 #[b.val, a.val] w fun e w' => e = .returned (.int .i64 (-x)) ∧ Below w.heap.size w w')
   (kbc : ∀ w, Calls Try.prog 17 #[b.val, c.val] w fun e w' => e = .returned (.int .i64 y) ∧ Below w.heap.size w w')
   (kac : ∀ w, Calls Try.prog 17 #[a.val, c.val] w fun e w' => e = .returned (.int .i64 z) ∧ Below w.heap.size w w') :
   Calls Try.prog 5 #[a.val, b.val, c.val] w fun e w' => e = .returned (.bool true) ∧ Below w.heap.size w w' := by
  unfold M.val at *
  have kab := Lib.hid kab
  have kba := Lib.hid kba
  have kbc := Lib.hid kbc
  have kac := Lib.hid kac
  go_enter Try.func5, Try.ntmps5
  go_wp2_with fail
  refine (alive1 _).mono ?_; rintro e w' ⟨rfl, rfl⟩
  go_wp2_with fail
  refine (kab.out _).mono ?_; rintro e w' ⟨rfl, hb1⟩
  obtain ⟨c1, f1⟩ := bcell hb1
  go_wp2_with fail
  refine (kbc.out _).mono ?_; rintro e w2 ⟨rfl, hn⟩
  have hb := hb1.trans (hn.mono hb1.size); clear c1 f1 hb1 hn
  have hb1 := hb; clear hb
  obtain ⟨c1, f1⟩ := bcell hb1
  go_wp2_with fail
  refine (kac.out _).mono ?_; rintro e w3 ⟨rfl, hn⟩
  have hb := hb1.trans (hn.mono hb1.size); clear c1 f1 hb1 hn
  have hb1 := hb; clear hb
  obtain ⟨c1, f1⟩ := bcell hb1
  go_wp2_with fail
  refine (kba.out _).mono ?_; rintro e w4 ⟨rfl, hn⟩
  have hb := hb1.trans (hn.mono hb1.size); clear c1 f1 hb1 hn
  have hb1 := hb; clear hb
  obtain ⟨c1, f1⟩ := bcell hb1
  go_wp2_with fail
  all_goals first | (exfalso; simp_all; done) | (go_ret; refine ⟨ret_bool ?_, ((((Below.refl _ _).alloc (Nat.le_refl _) _).alloc (by simp) _).alloc (by simp; omega) _).trans (hb1.mono (by simp; omega))⟩; first | rfl | (simp; omega))

theorem orderMsgs_any (a b c : M) (w : World) : Calls Try.prog 5 #[a.val, b.val, c.val] w fun e w' => e = .returned (.bool true) ∧ Below w.heap.size w w' := by
  refine orderMsgs_core a b c w (cmpM a b) (cmpM b c) (cmpM a c) (cmpM_range _ _) ?_ (fun h k => cmpM_le_trans h k) (fun h k => ?_)
      (msgs_at _ _ _ rfl) (msgs_at _ _ _ (cmpM_swap _ _)) (msgs_at _ _ _ rfl) (msgs_at _ _ _ rfl)
  · rw [Bool.eq_iff_iff]; simp [cmpM_eq]
  · have e1 := cmpM_swap a b
    have e2 := cmpM_swap b c
    have e3 := cmpM_swap a c
    have := cmpM_le_trans (x := c) (y := b) (z := a) (by omega) (by omega)
    omega
end Go.Proofs.Ytppcofcgdbflpaa
