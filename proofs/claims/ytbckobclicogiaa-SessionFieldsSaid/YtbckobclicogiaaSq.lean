/-
  SessionFields: a field that a request does not have must be nothing. (Printed by wip/tpl/gen_fields.py.)
-/
import Derived.Test.YtbckobclicogiaaSo
set_option linter.unusedVariables false
set_option linter.unusedSimpArgs false
namespace Go.Proofs.Ytbckobclicogiaa
open Go.RowKit Go.Proofs.PosteMem Go.Proofs.PosteOpen
theorem rightR_bad {q : Req} (h : q.name ≠ (namedR q).name ∨ q.key ≠ (namedR q).key ∨ q.value ≠ (namedR q).value ∨ q.n ≠ (namedR q).n ∨ q.pri ≠ (namedR q).pri) : rightR q = 1 := by
  refine rightR_out fun e => ?_
  rcases h with h | h | h | h | h <;> exact h (congrArg _ e)
theorem bytes_ne {a b : List UInt8} (h : a ≠ b) : (⟨a.toArray⟩ : ByteArray) ≠ ⟨b.toArray⟩ := fun e => h (by have := congrArg ByteArray.data e; simpa using this)

theorem fbase1 : rightR ⟨1, ⟨#[]⟩, ⟨#[]⟩, ⟨#[]⟩, 0, 0⟩ = 0 := by
  rw [rightR_in (by decide) (by decide) (by simp [namedR, E0])]
  decide
theorem fmod1_0 : rightR ⟨1, ⟨#[98]⟩, ⟨#[]⟩, ⟨#[]⟩, 0, 0⟩ = 1 := rightR_bad (.inl (by simp [namedR, E0]))
theorem fmod1_1 : rightR ⟨1, ⟨#[]⟩, ⟨#[98]⟩, ⟨#[]⟩, 0, 0⟩ = 1 := rightR_bad (.inr (.inl (by simp [namedR, E0])))
theorem fmod1_2 : rightR ⟨1, ⟨#[]⟩, ⟨#[]⟩, ⟨#[98]⟩, 0, 0⟩ = 1 := rightR_bad (.inr (.inr (.inl (by simp [namedR, E0]))))
theorem fmod1_3 : rightR ⟨1, ⟨#[]⟩, ⟨#[]⟩, ⟨#[]⟩, 1, 0⟩ = 1 := rightR_bad (.inr (.inr (.inr (.inl (by simp [namedR])))))
theorem fmod1_4 : rightR ⟨1, ⟨#[]⟩, ⟨#[]⟩, ⟨#[]⟩, 0, 1⟩ = 1 := rightR_bad (.inr (.inr (.inr (.inr (by simp [namedR])))))
set_option maxRecDepth 100000 in
set_option maxHeartbeats 8000000 in
theorem fields1 (w : World) (which : Int) (h0 : 0 ≤ which) (h4 : which ≤ 4) : Calls Try.prog 9 #[.int .i64 1, .int .i64 which] w fun e w' => e = .returned (.bool true) ∧ Below w.heap.size w w' := by
  have e0 := Lib.hid fbase1
  have hw : which = 0 ∨ which = 1 ∨ which = 2 ∨ which = 3 ∨ which = 4 := by omega
  clear h0 h4
  rcases hw with rfl | rfl | rfl | rfl | rfl
  · have e1 := Lib.hid fmod1_0
    go_enter Try.func9, Try.ntmps9
    go_wp2_with fail
    refine (alive24 _).mono ?_; rintro e w1 ⟨rfl, hb1⟩
    go_wp2_with fail
    refine (right_any _ ⟨1, ⟨#[]⟩, ⟨#[]⟩, ⟨#[]⟩, 0, 0⟩).mono ?_; rintro e w2 ⟨rfl, hb2⟩
    rw [e0.out]
    have hlt := hb1.size
    have hlt2 : w1.heap.size + 1 ≤ w2.heap.size := by have := hb2.size; simpa using this
    have hw2 := (Whole.new w1 38 #[.int .i64 1, .string ⟨#[]⟩, .string ⟨#[]⟩, .string ⟨#[]⟩, .int .i64 0, .int .i64 0]).below hb2
    have hlt3 := hw2.lt
    have b0 := hw2.cell 0
    have f0 := hw2.frozen 0
    have b1 := hw2.cell 1
    have f1 := hw2.frozen 1
    have b2 := hw2.cell 2
    have f2 := hw2.frozen 2
    have b3 := hw2.cell 3
    have f3 := hw2.frozen 3
    have b4 := hw2.cell 4
    have f4 := hw2.frozen 4
    have b5 := hw2.cell 5
    have f5 := hw2.frozen 5
    go_wp2_with fail
    refine (num24 _ _).mono ?_; rintro e w3 ⟨rfl, rfl⟩
    go_wp2_with fail
    refine (right_any _ ⟨1, ⟨#[98]⟩, ⟨#[]⟩, ⟨#[]⟩, 0, 0⟩).mono ?_; rintro e w4 ⟨rfl, hb4⟩
    rw [e1.out]
    go_wp2_with fail
    refine (num24 _ _).mono ?_; rintro e w5 ⟨rfl, rfl⟩
    go_wp2
    go_ret
    have hB : Below w.heap.size w w2 := below_then hb1 (below_then ((Below.refl w1.heap.size w1).alloc (Nat.le_refl _) _) hb2)
    exact ⟨rfl, ((hB.setCell hlt _).alloc (by simp [World.setCell]; omega) _).trans (hb4.mono (by simp [World.setCell]; omega))⟩
  · have e1 := Lib.hid fmod1_1
    go_enter Try.func9, Try.ntmps9
    go_wp2_with fail
    refine (alive24 _).mono ?_; rintro e w1 ⟨rfl, hb1⟩
    go_wp2_with fail
    refine (right_any _ ⟨1, ⟨#[]⟩, ⟨#[]⟩, ⟨#[]⟩, 0, 0⟩).mono ?_; rintro e w2 ⟨rfl, hb2⟩
    rw [e0.out]
    have hlt := hb1.size
    have hlt2 : w1.heap.size + 1 ≤ w2.heap.size := by have := hb2.size; simpa using this
    have hw2 := (Whole.new w1 38 #[.int .i64 1, .string ⟨#[]⟩, .string ⟨#[]⟩, .string ⟨#[]⟩, .int .i64 0, .int .i64 0]).below hb2
    have hlt3 := hw2.lt
    have b0 := hw2.cell 0
    have f0 := hw2.frozen 0
    have b1 := hw2.cell 1
    have f1 := hw2.frozen 1
    have b2 := hw2.cell 2
    have f2 := hw2.frozen 2
    have b3 := hw2.cell 3
    have f3 := hw2.frozen 3
    have b4 := hw2.cell 4
    have f4 := hw2.frozen 4
    have b5 := hw2.cell 5
    have f5 := hw2.frozen 5
    go_wp2_with fail
    refine (num24 _ _).mono ?_; rintro e w3 ⟨rfl, rfl⟩
    go_wp2_with fail
    refine (right_any _ ⟨1, ⟨#[]⟩, ⟨#[98]⟩, ⟨#[]⟩, 0, 0⟩).mono ?_; rintro e w4 ⟨rfl, hb4⟩
    rw [e1.out]
    go_wp2_with fail
    refine (num24 _ _).mono ?_; rintro e w5 ⟨rfl, rfl⟩
    go_wp2
    go_ret
    have hB : Below w.heap.size w w2 := below_then hb1 (below_then ((Below.refl w1.heap.size w1).alloc (Nat.le_refl _) _) hb2)
    exact ⟨rfl, ((hB.setCell hlt _).alloc (by simp [World.setCell]; omega) _).trans (hb4.mono (by simp [World.setCell]; omega))⟩
  · have e1 := Lib.hid fmod1_2
    go_enter Try.func9, Try.ntmps9
    go_wp2_with fail
    refine (alive24 _).mono ?_; rintro e w1 ⟨rfl, hb1⟩
    go_wp2_with fail
    refine (right_any _ ⟨1, ⟨#[]⟩, ⟨#[]⟩, ⟨#[]⟩, 0, 0⟩).mono ?_; rintro e w2 ⟨rfl, hb2⟩
    rw [e0.out]
    have hlt := hb1.size
    have hlt2 : w1.heap.size + 1 ≤ w2.heap.size := by have := hb2.size; simpa using this
    have hw2 := (Whole.new w1 38 #[.int .i64 1, .string ⟨#[]⟩, .string ⟨#[]⟩, .string ⟨#[]⟩, .int .i64 0, .int .i64 0]).below hb2
    have hlt3 := hw2.lt
    have b0 := hw2.cell 0
    have f0 := hw2.frozen 0
    have b1 := hw2.cell 1
    have f1 := hw2.frozen 1
    have b2 := hw2.cell 2
    have f2 := hw2.frozen 2
    have b3 := hw2.cell 3
    have f3 := hw2.frozen 3
    have b4 := hw2.cell 4
    have f4 := hw2.frozen 4
    have b5 := hw2.cell 5
    have f5 := hw2.frozen 5
    go_wp2_with fail
    refine (num24 _ _).mono ?_; rintro e w3 ⟨rfl, rfl⟩
    go_wp2_with fail
    refine (right_any _ ⟨1, ⟨#[]⟩, ⟨#[]⟩, ⟨#[98]⟩, 0, 0⟩).mono ?_; rintro e w4 ⟨rfl, hb4⟩
    rw [e1.out]
    go_wp2_with fail
    refine (num24 _ _).mono ?_; rintro e w5 ⟨rfl, rfl⟩
    go_wp2
    go_ret
    have hB : Below w.heap.size w w2 := below_then hb1 (below_then ((Below.refl w1.heap.size w1).alloc (Nat.le_refl _) _) hb2)
    exact ⟨rfl, ((hB.setCell hlt _).alloc (by simp [World.setCell]; omega) _).trans (hb4.mono (by simp [World.setCell]; omega))⟩
  · have e1 := Lib.hid fmod1_3
    go_enter Try.func9, Try.ntmps9
    go_wp2_with fail
    refine (alive24 _).mono ?_; rintro e w1 ⟨rfl, hb1⟩
    go_wp2_with fail
    refine (right_any _ ⟨1, ⟨#[]⟩, ⟨#[]⟩, ⟨#[]⟩, 0, 0⟩).mono ?_; rintro e w2 ⟨rfl, hb2⟩
    rw [e0.out]
    have hlt := hb1.size
    have hlt2 : w1.heap.size + 1 ≤ w2.heap.size := by have := hb2.size; simpa using this
    have hw2 := (Whole.new w1 38 #[.int .i64 1, .string ⟨#[]⟩, .string ⟨#[]⟩, .string ⟨#[]⟩, .int .i64 0, .int .i64 0]).below hb2
    have hlt3 := hw2.lt
    have b0 := hw2.cell 0
    have f0 := hw2.frozen 0
    have b1 := hw2.cell 1
    have f1 := hw2.frozen 1
    have b2 := hw2.cell 2
    have f2 := hw2.frozen 2
    have b3 := hw2.cell 3
    have f3 := hw2.frozen 3
    have b4 := hw2.cell 4
    have f4 := hw2.frozen 4
    have b5 := hw2.cell 5
    have f5 := hw2.frozen 5
    go_wp2_with fail
    refine (num24 _ _).mono ?_; rintro e w3 ⟨rfl, rfl⟩
    go_wp2_with fail
    refine (right_any _ ⟨1, ⟨#[]⟩, ⟨#[]⟩, ⟨#[]⟩, 1, 0⟩).mono ?_; rintro e w4 ⟨rfl, hb4⟩
    rw [e1.out]
    go_wp2_with fail
    refine (num24 _ _).mono ?_; rintro e w5 ⟨rfl, rfl⟩
    go_wp2
    go_ret
    have hB : Below w.heap.size w w2 := below_then hb1 (below_then ((Below.refl w1.heap.size w1).alloc (Nat.le_refl _) _) hb2)
    exact ⟨rfl, ((hB.setCell hlt _).alloc (by simp [World.setCell]; omega) _).trans (hb4.mono (by simp [World.setCell]; omega))⟩
  · have e1 := Lib.hid fmod1_4
    go_enter Try.func9, Try.ntmps9
    go_wp2_with fail
    refine (alive24 _).mono ?_; rintro e w1 ⟨rfl, hb1⟩
    go_wp2_with fail
    refine (right_any _ ⟨1, ⟨#[]⟩, ⟨#[]⟩, ⟨#[]⟩, 0, 0⟩).mono ?_; rintro e w2 ⟨rfl, hb2⟩
    rw [e0.out]
    have hlt := hb1.size
    have hlt2 : w1.heap.size + 1 ≤ w2.heap.size := by have := hb2.size; simpa using this
    have hw2 := (Whole.new w1 38 #[.int .i64 1, .string ⟨#[]⟩, .string ⟨#[]⟩, .string ⟨#[]⟩, .int .i64 0, .int .i64 0]).below hb2
    have hlt3 := hw2.lt
    have b0 := hw2.cell 0
    have f0 := hw2.frozen 0
    have b1 := hw2.cell 1
    have f1 := hw2.frozen 1
    have b2 := hw2.cell 2
    have f2 := hw2.frozen 2
    have b3 := hw2.cell 3
    have f3 := hw2.frozen 3
    have b4 := hw2.cell 4
    have f4 := hw2.frozen 4
    have b5 := hw2.cell 5
    have f5 := hw2.frozen 5
    go_wp2_with fail
    refine (num24 _ _).mono ?_; rintro e w3 ⟨rfl, rfl⟩
    go_wp2_with fail
    refine (right_any _ ⟨1, ⟨#[]⟩, ⟨#[]⟩, ⟨#[]⟩, 0, 1⟩).mono ?_; rintro e w4 ⟨rfl, hb4⟩
    rw [e1.out]
    go_wp2_with fail
    refine (num24 _ _).mono ?_; rintro e w5 ⟨rfl, rfl⟩
    go_wp2
    go_ret
    have hB : Below w.heap.size w w2 := below_then hb1 (below_then ((Below.refl w1.heap.size w1).alloc (Nat.le_refl _) _) hb2)
    exact ⟨rfl, ((hB.setCell hlt _).alloc (by simp [World.setCell]; omega) _).trans (hb4.mono (by simp [World.setCell]; omega))⟩
theorem fbase2 : rightR ⟨2, ⟨#[]⟩, ⟨#[]⟩, ⟨#[]⟩, 0, 0⟩ = 0 := by
  rw [rightR_in (by decide) (by decide) (by simp [namedR, E0])]
  decide
theorem fmod2_0 : rightR ⟨2, ⟨#[98]⟩, ⟨#[]⟩, ⟨#[]⟩, 0, 0⟩ = 1 := rightR_bad (.inl (by simp [namedR, E0]))
theorem fmod2_1 : rightR ⟨2, ⟨#[]⟩, ⟨#[98]⟩, ⟨#[]⟩, 0, 0⟩ = 1 := rightR_bad (.inr (.inl (by simp [namedR, E0])))
theorem fmod2_2 : rightR ⟨2, ⟨#[]⟩, ⟨#[]⟩, ⟨#[98]⟩, 0, 0⟩ = 1 := rightR_bad (.inr (.inr (.inl (by simp [namedR, E0]))))
theorem fmod2_3 : rightR ⟨2, ⟨#[]⟩, ⟨#[]⟩, ⟨#[]⟩, 1, 0⟩ = 1 := rightR_bad (.inr (.inr (.inr (.inl (by simp [namedR])))))
theorem fmod2_4 : rightR ⟨2, ⟨#[]⟩, ⟨#[]⟩, ⟨#[]⟩, 0, 1⟩ = 1 := rightR_bad (.inr (.inr (.inr (.inr (by simp [namedR])))))
set_option maxRecDepth 100000 in
set_option maxHeartbeats 8000000 in
theorem fields2 (w : World) (which : Int) (h0 : 0 ≤ which) (h4 : which ≤ 4) : Calls Try.prog 9 #[.int .i64 2, .int .i64 which] w fun e w' => e = .returned (.bool true) ∧ Below w.heap.size w w' := by
  have e0 := Lib.hid fbase2
  have hw : which = 0 ∨ which = 1 ∨ which = 2 ∨ which = 3 ∨ which = 4 := by omega
  clear h0 h4
  rcases hw with rfl | rfl | rfl | rfl | rfl
  · have e1 := Lib.hid fmod2_0
    go_enter Try.func9, Try.ntmps9
    go_wp2_with fail
    refine (alive24 _).mono ?_; rintro e w1 ⟨rfl, hb1⟩
    go_wp2_with fail
    refine (right_any _ ⟨2, ⟨#[]⟩, ⟨#[]⟩, ⟨#[]⟩, 0, 0⟩).mono ?_; rintro e w2 ⟨rfl, hb2⟩
    rw [e0.out]
    have hlt := hb1.size
    have hlt2 : w1.heap.size + 1 ≤ w2.heap.size := by have := hb2.size; simpa using this
    have hw2 := (Whole.new w1 38 #[.int .i64 2, .string ⟨#[]⟩, .string ⟨#[]⟩, .string ⟨#[]⟩, .int .i64 0, .int .i64 0]).below hb2
    have hlt3 := hw2.lt
    have b0 := hw2.cell 0
    have f0 := hw2.frozen 0
    have b1 := hw2.cell 1
    have f1 := hw2.frozen 1
    have b2 := hw2.cell 2
    have f2 := hw2.frozen 2
    have b3 := hw2.cell 3
    have f3 := hw2.frozen 3
    have b4 := hw2.cell 4
    have f4 := hw2.frozen 4
    have b5 := hw2.cell 5
    have f5 := hw2.frozen 5
    go_wp2_with fail
    refine (num24 _ _).mono ?_; rintro e w3 ⟨rfl, rfl⟩
    go_wp2_with fail
    refine (right_any _ ⟨2, ⟨#[98]⟩, ⟨#[]⟩, ⟨#[]⟩, 0, 0⟩).mono ?_; rintro e w4 ⟨rfl, hb4⟩
    rw [e1.out]
    go_wp2_with fail
    refine (num24 _ _).mono ?_; rintro e w5 ⟨rfl, rfl⟩
    go_wp2
    go_ret
    have hB : Below w.heap.size w w2 := below_then hb1 (below_then ((Below.refl w1.heap.size w1).alloc (Nat.le_refl _) _) hb2)
    exact ⟨rfl, ((hB.setCell hlt _).alloc (by simp [World.setCell]; omega) _).trans (hb4.mono (by simp [World.setCell]; omega))⟩
  · have e1 := Lib.hid fmod2_1
    go_enter Try.func9, Try.ntmps9
    go_wp2_with fail
    refine (alive24 _).mono ?_; rintro e w1 ⟨rfl, hb1⟩
    go_wp2_with fail
    refine (right_any _ ⟨2, ⟨#[]⟩, ⟨#[]⟩, ⟨#[]⟩, 0, 0⟩).mono ?_; rintro e w2 ⟨rfl, hb2⟩
    rw [e0.out]
    have hlt := hb1.size
    have hlt2 : w1.heap.size + 1 ≤ w2.heap.size := by have := hb2.size; simpa using this
    have hw2 := (Whole.new w1 38 #[.int .i64 2, .string ⟨#[]⟩, .string ⟨#[]⟩, .string ⟨#[]⟩, .int .i64 0, .int .i64 0]).below hb2
    have hlt3 := hw2.lt
    have b0 := hw2.cell 0
    have f0 := hw2.frozen 0
    have b1 := hw2.cell 1
    have f1 := hw2.frozen 1
    have b2 := hw2.cell 2
    have f2 := hw2.frozen 2
    have b3 := hw2.cell 3
    have f3 := hw2.frozen 3
    have b4 := hw2.cell 4
    have f4 := hw2.frozen 4
    have b5 := hw2.cell 5
    have f5 := hw2.frozen 5
    go_wp2_with fail
    refine (num24 _ _).mono ?_; rintro e w3 ⟨rfl, rfl⟩
    go_wp2_with fail
    refine (right_any _ ⟨2, ⟨#[]⟩, ⟨#[98]⟩, ⟨#[]⟩, 0, 0⟩).mono ?_; rintro e w4 ⟨rfl, hb4⟩
    rw [e1.out]
    go_wp2_with fail
    refine (num24 _ _).mono ?_; rintro e w5 ⟨rfl, rfl⟩
    go_wp2
    go_ret
    have hB : Below w.heap.size w w2 := below_then hb1 (below_then ((Below.refl w1.heap.size w1).alloc (Nat.le_refl _) _) hb2)
    exact ⟨rfl, ((hB.setCell hlt _).alloc (by simp [World.setCell]; omega) _).trans (hb4.mono (by simp [World.setCell]; omega))⟩
  · have e1 := Lib.hid fmod2_2
    go_enter Try.func9, Try.ntmps9
    go_wp2_with fail
    refine (alive24 _).mono ?_; rintro e w1 ⟨rfl, hb1⟩
    go_wp2_with fail
    refine (right_any _ ⟨2, ⟨#[]⟩, ⟨#[]⟩, ⟨#[]⟩, 0, 0⟩).mono ?_; rintro e w2 ⟨rfl, hb2⟩
    rw [e0.out]
    have hlt := hb1.size
    have hlt2 : w1.heap.size + 1 ≤ w2.heap.size := by have := hb2.size; simpa using this
    have hw2 := (Whole.new w1 38 #[.int .i64 2, .string ⟨#[]⟩, .string ⟨#[]⟩, .string ⟨#[]⟩, .int .i64 0, .int .i64 0]).below hb2
    have hlt3 := hw2.lt
    have b0 := hw2.cell 0
    have f0 := hw2.frozen 0
    have b1 := hw2.cell 1
    have f1 := hw2.frozen 1
    have b2 := hw2.cell 2
    have f2 := hw2.frozen 2
    have b3 := hw2.cell 3
    have f3 := hw2.frozen 3
    have b4 := hw2.cell 4
    have f4 := hw2.frozen 4
    have b5 := hw2.cell 5
    have f5 := hw2.frozen 5
    go_wp2_with fail
    refine (num24 _ _).mono ?_; rintro e w3 ⟨rfl, rfl⟩
    go_wp2_with fail
    refine (right_any _ ⟨2, ⟨#[]⟩, ⟨#[]⟩, ⟨#[98]⟩, 0, 0⟩).mono ?_; rintro e w4 ⟨rfl, hb4⟩
    rw [e1.out]
    go_wp2_with fail
    refine (num24 _ _).mono ?_; rintro e w5 ⟨rfl, rfl⟩
    go_wp2
    go_ret
    have hB : Below w.heap.size w w2 := below_then hb1 (below_then ((Below.refl w1.heap.size w1).alloc (Nat.le_refl _) _) hb2)
    exact ⟨rfl, ((hB.setCell hlt _).alloc (by simp [World.setCell]; omega) _).trans (hb4.mono (by simp [World.setCell]; omega))⟩
  · have e1 := Lib.hid fmod2_3
    go_enter Try.func9, Try.ntmps9
    go_wp2_with fail
    refine (alive24 _).mono ?_; rintro e w1 ⟨rfl, hb1⟩
    go_wp2_with fail
    refine (right_any _ ⟨2, ⟨#[]⟩, ⟨#[]⟩, ⟨#[]⟩, 0, 0⟩).mono ?_; rintro e w2 ⟨rfl, hb2⟩
    rw [e0.out]
    have hlt := hb1.size
    have hlt2 : w1.heap.size + 1 ≤ w2.heap.size := by have := hb2.size; simpa using this
    have hw2 := (Whole.new w1 38 #[.int .i64 2, .string ⟨#[]⟩, .string ⟨#[]⟩, .string ⟨#[]⟩, .int .i64 0, .int .i64 0]).below hb2
    have hlt3 := hw2.lt
    have b0 := hw2.cell 0
    have f0 := hw2.frozen 0
    have b1 := hw2.cell 1
    have f1 := hw2.frozen 1
    have b2 := hw2.cell 2
    have f2 := hw2.frozen 2
    have b3 := hw2.cell 3
    have f3 := hw2.frozen 3
    have b4 := hw2.cell 4
    have f4 := hw2.frozen 4
    have b5 := hw2.cell 5
    have f5 := hw2.frozen 5
    go_wp2_with fail
    refine (num24 _ _).mono ?_; rintro e w3 ⟨rfl, rfl⟩
    go_wp2_with fail
    refine (right_any _ ⟨2, ⟨#[]⟩, ⟨#[]⟩, ⟨#[]⟩, 1, 0⟩).mono ?_; rintro e w4 ⟨rfl, hb4⟩
    rw [e1.out]
    go_wp2_with fail
    refine (num24 _ _).mono ?_; rintro e w5 ⟨rfl, rfl⟩
    go_wp2
    go_ret
    have hB : Below w.heap.size w w2 := below_then hb1 (below_then ((Below.refl w1.heap.size w1).alloc (Nat.le_refl _) _) hb2)
    exact ⟨rfl, ((hB.setCell hlt _).alloc (by simp [World.setCell]; omega) _).trans (hb4.mono (by simp [World.setCell]; omega))⟩
  · have e1 := Lib.hid fmod2_4
    go_enter Try.func9, Try.ntmps9
    go_wp2_with fail
    refine (alive24 _).mono ?_; rintro e w1 ⟨rfl, hb1⟩
    go_wp2_with fail
    refine (right_any _ ⟨2, ⟨#[]⟩, ⟨#[]⟩, ⟨#[]⟩, 0, 0⟩).mono ?_; rintro e w2 ⟨rfl, hb2⟩
    rw [e0.out]
    have hlt := hb1.size
    have hlt2 : w1.heap.size + 1 ≤ w2.heap.size := by have := hb2.size; simpa using this
    have hw2 := (Whole.new w1 38 #[.int .i64 2, .string ⟨#[]⟩, .string ⟨#[]⟩, .string ⟨#[]⟩, .int .i64 0, .int .i64 0]).below hb2
    have hlt3 := hw2.lt
    have b0 := hw2.cell 0
    have f0 := hw2.frozen 0
    have b1 := hw2.cell 1
    have f1 := hw2.frozen 1
    have b2 := hw2.cell 2
    have f2 := hw2.frozen 2
    have b3 := hw2.cell 3
    have f3 := hw2.frozen 3
    have b4 := hw2.cell 4
    have f4 := hw2.frozen 4
    have b5 := hw2.cell 5
    have f5 := hw2.frozen 5
    go_wp2_with fail
    refine (num24 _ _).mono ?_; rintro e w3 ⟨rfl, rfl⟩
    go_wp2_with fail
    refine (right_any _ ⟨2, ⟨#[]⟩, ⟨#[]⟩, ⟨#[]⟩, 0, 1⟩).mono ?_; rintro e w4 ⟨rfl, hb4⟩
    rw [e1.out]
    go_wp2_with fail
    refine (num24 _ _).mono ?_; rintro e w5 ⟨rfl, rfl⟩
    go_wp2
    go_ret
    have hB : Below w.heap.size w w2 := below_then hb1 (below_then ((Below.refl w1.heap.size w1).alloc (Nat.le_refl _) _) hb2)
    exact ⟨rfl, ((hB.setCell hlt _).alloc (by simp [World.setCell]; omega) _).trans (hb4.mono (by simp [World.setCell]; omega))⟩
theorem fbase3 : rightR ⟨3, ⟨#[]⟩, ⟨#[]⟩, ⟨#[]⟩, 0, 0⟩ = 0 := by
  rw [rightR_in (by decide) (by decide) (by simp [namedR, E0])]
  decide
theorem fmod3_0 : rightR ⟨3, ⟨#[98]⟩, ⟨#[]⟩, ⟨#[]⟩, 0, 0⟩ = 1 := rightR_bad (.inl (by simp [namedR, E0]))
theorem fmod3_1 : rightR ⟨3, ⟨#[]⟩, ⟨#[98]⟩, ⟨#[]⟩, 0, 0⟩ = 1 := rightR_bad (.inr (.inl (by simp [namedR, E0])))
theorem fmod3_2 : rightR ⟨3, ⟨#[]⟩, ⟨#[]⟩, ⟨#[98]⟩, 0, 0⟩ = 1 := rightR_bad (.inr (.inr (.inl (by simp [namedR, E0]))))
theorem fmod3_3 : rightR ⟨3, ⟨#[]⟩, ⟨#[]⟩, ⟨#[]⟩, 1, 0⟩ = 1 := rightR_bad (.inr (.inr (.inr (.inl (by simp [namedR])))))
theorem fmod3_4 : rightR ⟨3, ⟨#[]⟩, ⟨#[]⟩, ⟨#[]⟩, 0, 1⟩ = 1 := rightR_bad (.inr (.inr (.inr (.inr (by simp [namedR])))))
set_option maxRecDepth 100000 in
set_option maxHeartbeats 8000000 in
theorem fields3 (w : World) (which : Int) (h0 : 0 ≤ which) (h4 : which ≤ 4) : Calls Try.prog 9 #[.int .i64 3, .int .i64 which] w fun e w' => e = .returned (.bool true) ∧ Below w.heap.size w w' := by
  have e0 := Lib.hid fbase3
  have hw : which = 0 ∨ which = 1 ∨ which = 2 ∨ which = 3 ∨ which = 4 := by omega
  clear h0 h4
  rcases hw with rfl | rfl | rfl | rfl | rfl
  · have e1 := Lib.hid fmod3_0
    go_enter Try.func9, Try.ntmps9
    go_wp2_with fail
    refine (alive24 _).mono ?_; rintro e w1 ⟨rfl, hb1⟩
    go_wp2_with fail
    refine (right_any _ ⟨3, ⟨#[]⟩, ⟨#[]⟩, ⟨#[]⟩, 0, 0⟩).mono ?_; rintro e w2 ⟨rfl, hb2⟩
    rw [e0.out]
    have hlt := hb1.size
    have hlt2 : w1.heap.size + 1 ≤ w2.heap.size := by have := hb2.size; simpa using this
    have hw2 := (Whole.new w1 38 #[.int .i64 3, .string ⟨#[]⟩, .string ⟨#[]⟩, .string ⟨#[]⟩, .int .i64 0, .int .i64 0]).below hb2
    have hlt3 := hw2.lt
    have b0 := hw2.cell 0
    have f0 := hw2.frozen 0
    have b1 := hw2.cell 1
    have f1 := hw2.frozen 1
    have b2 := hw2.cell 2
    have f2 := hw2.frozen 2
    have b3 := hw2.cell 3
    have f3 := hw2.frozen 3
    have b4 := hw2.cell 4
    have f4 := hw2.frozen 4
    have b5 := hw2.cell 5
    have f5 := hw2.frozen 5
    go_wp2_with fail
    refine (num24 _ _).mono ?_; rintro e w3 ⟨rfl, rfl⟩
    go_wp2_with fail
    refine (right_any _ ⟨3, ⟨#[98]⟩, ⟨#[]⟩, ⟨#[]⟩, 0, 0⟩).mono ?_; rintro e w4 ⟨rfl, hb4⟩
    rw [e1.out]
    go_wp2_with fail
    refine (num24 _ _).mono ?_; rintro e w5 ⟨rfl, rfl⟩
    go_wp2
    go_ret
    have hB : Below w.heap.size w w2 := below_then hb1 (below_then ((Below.refl w1.heap.size w1).alloc (Nat.le_refl _) _) hb2)
    exact ⟨rfl, ((hB.setCell hlt _).alloc (by simp [World.setCell]; omega) _).trans (hb4.mono (by simp [World.setCell]; omega))⟩
  · have e1 := Lib.hid fmod3_1
    go_enter Try.func9, Try.ntmps9
    go_wp2_with fail
    refine (alive24 _).mono ?_; rintro e w1 ⟨rfl, hb1⟩
    go_wp2_with fail
    refine (right_any _ ⟨3, ⟨#[]⟩, ⟨#[]⟩, ⟨#[]⟩, 0, 0⟩).mono ?_; rintro e w2 ⟨rfl, hb2⟩
    rw [e0.out]
    have hlt := hb1.size
    have hlt2 : w1.heap.size + 1 ≤ w2.heap.size := by have := hb2.size; simpa using this
    have hw2 := (Whole.new w1 38 #[.int .i64 3, .string ⟨#[]⟩, .string ⟨#[]⟩, .string ⟨#[]⟩, .int .i64 0, .int .i64 0]).below hb2
    have hlt3 := hw2.lt
    have b0 := hw2.cell 0
    have f0 := hw2.frozen 0
    have b1 := hw2.cell 1
    have f1 := hw2.frozen 1
    have b2 := hw2.cell 2
    have f2 := hw2.frozen 2
    have b3 := hw2.cell 3
    have f3 := hw2.frozen 3
    have b4 := hw2.cell 4
    have f4 := hw2.frozen 4
    have b5 := hw2.cell 5
    have f5 := hw2.frozen 5
    go_wp2_with fail
    refine (num24 _ _).mono ?_; rintro e w3 ⟨rfl, rfl⟩
    go_wp2_with fail
    refine (right_any _ ⟨3, ⟨#[]⟩, ⟨#[98]⟩, ⟨#[]⟩, 0, 0⟩).mono ?_; rintro e w4 ⟨rfl, hb4⟩
    rw [e1.out]
    go_wp2_with fail
    refine (num24 _ _).mono ?_; rintro e w5 ⟨rfl, rfl⟩
    go_wp2
    go_ret
    have hB : Below w.heap.size w w2 := below_then hb1 (below_then ((Below.refl w1.heap.size w1).alloc (Nat.le_refl _) _) hb2)
    exact ⟨rfl, ((hB.setCell hlt _).alloc (by simp [World.setCell]; omega) _).trans (hb4.mono (by simp [World.setCell]; omega))⟩
  · have e1 := Lib.hid fmod3_2
    go_enter Try.func9, Try.ntmps9
    go_wp2_with fail
    refine (alive24 _).mono ?_; rintro e w1 ⟨rfl, hb1⟩
    go_wp2_with fail
    refine (right_any _ ⟨3, ⟨#[]⟩, ⟨#[]⟩, ⟨#[]⟩, 0, 0⟩).mono ?_; rintro e w2 ⟨rfl, hb2⟩
    rw [e0.out]
    have hlt := hb1.size
    have hlt2 : w1.heap.size + 1 ≤ w2.heap.size := by have := hb2.size; simpa using this
    have hw2 := (Whole.new w1 38 #[.int .i64 3, .string ⟨#[]⟩, .string ⟨#[]⟩, .string ⟨#[]⟩, .int .i64 0, .int .i64 0]).below hb2
    have hlt3 := hw2.lt
    have b0 := hw2.cell 0
    have f0 := hw2.frozen 0
    have b1 := hw2.cell 1
    have f1 := hw2.frozen 1
    have b2 := hw2.cell 2
    have f2 := hw2.frozen 2
    have b3 := hw2.cell 3
    have f3 := hw2.frozen 3
    have b4 := hw2.cell 4
    have f4 := hw2.frozen 4
    have b5 := hw2.cell 5
    have f5 := hw2.frozen 5
    go_wp2_with fail
    refine (num24 _ _).mono ?_; rintro e w3 ⟨rfl, rfl⟩
    go_wp2_with fail
    refine (right_any _ ⟨3, ⟨#[]⟩, ⟨#[]⟩, ⟨#[98]⟩, 0, 0⟩).mono ?_; rintro e w4 ⟨rfl, hb4⟩
    rw [e1.out]
    go_wp2_with fail
    refine (num24 _ _).mono ?_; rintro e w5 ⟨rfl, rfl⟩
    go_wp2
    go_ret
    have hB : Below w.heap.size w w2 := below_then hb1 (below_then ((Below.refl w1.heap.size w1).alloc (Nat.le_refl _) _) hb2)
    exact ⟨rfl, ((hB.setCell hlt _).alloc (by simp [World.setCell]; omega) _).trans (hb4.mono (by simp [World.setCell]; omega))⟩
  · have e1 := Lib.hid fmod3_3
    go_enter Try.func9, Try.ntmps9
    go_wp2_with fail
    refine (alive24 _).mono ?_; rintro e w1 ⟨rfl, hb1⟩
    go_wp2_with fail
    refine (right_any _ ⟨3, ⟨#[]⟩, ⟨#[]⟩, ⟨#[]⟩, 0, 0⟩).mono ?_; rintro e w2 ⟨rfl, hb2⟩
    rw [e0.out]
    have hlt := hb1.size
    have hlt2 : w1.heap.size + 1 ≤ w2.heap.size := by have := hb2.size; simpa using this
    have hw2 := (Whole.new w1 38 #[.int .i64 3, .string ⟨#[]⟩, .string ⟨#[]⟩, .string ⟨#[]⟩, .int .i64 0, .int .i64 0]).below hb2
    have hlt3 := hw2.lt
    have b0 := hw2.cell 0
    have f0 := hw2.frozen 0
    have b1 := hw2.cell 1
    have f1 := hw2.frozen 1
    have b2 := hw2.cell 2
    have f2 := hw2.frozen 2
    have b3 := hw2.cell 3
    have f3 := hw2.frozen 3
    have b4 := hw2.cell 4
    have f4 := hw2.frozen 4
    have b5 := hw2.cell 5
    have f5 := hw2.frozen 5
    go_wp2_with fail
    refine (num24 _ _).mono ?_; rintro e w3 ⟨rfl, rfl⟩
    go_wp2_with fail
    refine (right_any _ ⟨3, ⟨#[]⟩, ⟨#[]⟩, ⟨#[]⟩, 1, 0⟩).mono ?_; rintro e w4 ⟨rfl, hb4⟩
    rw [e1.out]
    go_wp2_with fail
    refine (num24 _ _).mono ?_; rintro e w5 ⟨rfl, rfl⟩
    go_wp2
    go_ret
    have hB : Below w.heap.size w w2 := below_then hb1 (below_then ((Below.refl w1.heap.size w1).alloc (Nat.le_refl _) _) hb2)
    exact ⟨rfl, ((hB.setCell hlt _).alloc (by simp [World.setCell]; omega) _).trans (hb4.mono (by simp [World.setCell]; omega))⟩
  · have e1 := Lib.hid fmod3_4
    go_enter Try.func9, Try.ntmps9
    go_wp2_with fail
    refine (alive24 _).mono ?_; rintro e w1 ⟨rfl, hb1⟩
    go_wp2_with fail
    refine (right_any _ ⟨3, ⟨#[]⟩, ⟨#[]⟩, ⟨#[]⟩, 0, 0⟩).mono ?_; rintro e w2 ⟨rfl, hb2⟩
    rw [e0.out]
    have hlt := hb1.size
    have hlt2 : w1.heap.size + 1 ≤ w2.heap.size := by have := hb2.size; simpa using this
    have hw2 := (Whole.new w1 38 #[.int .i64 3, .string ⟨#[]⟩, .string ⟨#[]⟩, .string ⟨#[]⟩, .int .i64 0, .int .i64 0]).below hb2
    have hlt3 := hw2.lt
    have b0 := hw2.cell 0
    have f0 := hw2.frozen 0
    have b1 := hw2.cell 1
    have f1 := hw2.frozen 1
    have b2 := hw2.cell 2
    have f2 := hw2.frozen 2
    have b3 := hw2.cell 3
    have f3 := hw2.frozen 3
    have b4 := hw2.cell 4
    have f4 := hw2.frozen 4
    have b5 := hw2.cell 5
    have f5 := hw2.frozen 5
    go_wp2_with fail
    refine (num24 _ _).mono ?_; rintro e w3 ⟨rfl, rfl⟩
    go_wp2_with fail
    refine (right_any _ ⟨3, ⟨#[]⟩, ⟨#[]⟩, ⟨#[]⟩, 0, 1⟩).mono ?_; rintro e w4 ⟨rfl, hb4⟩
    rw [e1.out]
    go_wp2_with fail
    refine (num24 _ _).mono ?_; rintro e w5 ⟨rfl, rfl⟩
    go_wp2
    go_ret
    have hB : Below w.heap.size w w2 := below_then hb1 (below_then ((Below.refl w1.heap.size w1).alloc (Nat.le_refl _) _) hb2)
    exact ⟨rfl, ((hB.setCell hlt _).alloc (by simp [World.setCell]; omega) _).trans (hb4.mono (by simp [World.setCell]; omega))⟩
theorem fbase4 : rightR ⟨4, ⟨#[]⟩, ⟨#[]⟩, ⟨#[]⟩, 0, 0⟩ = 0 := by
  rw [rightR_in (by decide) (by decide) (by simp [namedR, E0])]
  decide
theorem fmod4_0 : rightR ⟨4, ⟨#[98]⟩, ⟨#[]⟩, ⟨#[]⟩, 0, 0⟩ = 1 := rightR_bad (.inl (by simp [namedR, E0]))
theorem fmod4_1 : rightR ⟨4, ⟨#[]⟩, ⟨#[98]⟩, ⟨#[]⟩, 0, 0⟩ = 1 := rightR_bad (.inr (.inl (by simp [namedR, E0])))
theorem fmod4_2 : rightR ⟨4, ⟨#[]⟩, ⟨#[]⟩, ⟨#[98]⟩, 0, 0⟩ = 1 := rightR_bad (.inr (.inr (.inl (by simp [namedR, E0]))))
theorem fmod4_3 : rightR ⟨4, ⟨#[]⟩, ⟨#[]⟩, ⟨#[]⟩, 1, 0⟩ = 1 := rightR_bad (.inr (.inr (.inr (.inl (by simp [namedR])))))
theorem fmod4_4 : rightR ⟨4, ⟨#[]⟩, ⟨#[]⟩, ⟨#[]⟩, 0, 1⟩ = 1 := rightR_bad (.inr (.inr (.inr (.inr (by simp [namedR])))))
set_option maxRecDepth 100000 in
set_option maxHeartbeats 8000000 in
theorem fields4 (w : World) (which : Int) (h0 : 0 ≤ which) (h4 : which ≤ 4) : Calls Try.prog 9 #[.int .i64 4, .int .i64 which] w fun e w' => e = .returned (.bool true) ∧ Below w.heap.size w w' := by
  have e0 := Lib.hid fbase4
  have hw : which = 0 ∨ which = 1 ∨ which = 2 ∨ which = 3 ∨ which = 4 := by omega
  clear h0 h4
  rcases hw with rfl | rfl | rfl | rfl | rfl
  · have e1 := Lib.hid fmod4_0
    go_enter Try.func9, Try.ntmps9
    go_wp2_with fail
    refine (alive24 _).mono ?_; rintro e w1 ⟨rfl, hb1⟩
    go_wp2_with fail
    refine (right_any _ ⟨4, ⟨#[]⟩, ⟨#[]⟩, ⟨#[]⟩, 0, 0⟩).mono ?_; rintro e w2 ⟨rfl, hb2⟩
    rw [e0.out]
    have hlt := hb1.size
    have hlt2 : w1.heap.size + 1 ≤ w2.heap.size := by have := hb2.size; simpa using this
    have hw2 := (Whole.new w1 38 #[.int .i64 4, .string ⟨#[]⟩, .string ⟨#[]⟩, .string ⟨#[]⟩, .int .i64 0, .int .i64 0]).below hb2
    have hlt3 := hw2.lt
    have b0 := hw2.cell 0
    have f0 := hw2.frozen 0
    have b1 := hw2.cell 1
    have f1 := hw2.frozen 1
    have b2 := hw2.cell 2
    have f2 := hw2.frozen 2
    have b3 := hw2.cell 3
    have f3 := hw2.frozen 3
    have b4 := hw2.cell 4
    have f4 := hw2.frozen 4
    have b5 := hw2.cell 5
    have f5 := hw2.frozen 5
    go_wp2_with fail
    refine (num24 _ _).mono ?_; rintro e w3 ⟨rfl, rfl⟩
    go_wp2_with fail
    refine (right_any _ ⟨4, ⟨#[98]⟩, ⟨#[]⟩, ⟨#[]⟩, 0, 0⟩).mono ?_; rintro e w4 ⟨rfl, hb4⟩
    rw [e1.out]
    go_wp2_with fail
    refine (num24 _ _).mono ?_; rintro e w5 ⟨rfl, rfl⟩
    go_wp2
    go_ret
    have hB : Below w.heap.size w w2 := below_then hb1 (below_then ((Below.refl w1.heap.size w1).alloc (Nat.le_refl _) _) hb2)
    exact ⟨rfl, ((hB.setCell hlt _).alloc (by simp [World.setCell]; omega) _).trans (hb4.mono (by simp [World.setCell]; omega))⟩
  · have e1 := Lib.hid fmod4_1
    go_enter Try.func9, Try.ntmps9
    go_wp2_with fail
    refine (alive24 _).mono ?_; rintro e w1 ⟨rfl, hb1⟩
    go_wp2_with fail
    refine (right_any _ ⟨4, ⟨#[]⟩, ⟨#[]⟩, ⟨#[]⟩, 0, 0⟩).mono ?_; rintro e w2 ⟨rfl, hb2⟩
    rw [e0.out]
    have hlt := hb1.size
    have hlt2 : w1.heap.size + 1 ≤ w2.heap.size := by have := hb2.size; simpa using this
    have hw2 := (Whole.new w1 38 #[.int .i64 4, .string ⟨#[]⟩, .string ⟨#[]⟩, .string ⟨#[]⟩, .int .i64 0, .int .i64 0]).below hb2
    have hlt3 := hw2.lt
    have b0 := hw2.cell 0
    have f0 := hw2.frozen 0
    have b1 := hw2.cell 1
    have f1 := hw2.frozen 1
    have b2 := hw2.cell 2
    have f2 := hw2.frozen 2
    have b3 := hw2.cell 3
    have f3 := hw2.frozen 3
    have b4 := hw2.cell 4
    have f4 := hw2.frozen 4
    have b5 := hw2.cell 5
    have f5 := hw2.frozen 5
    go_wp2_with fail
    refine (num24 _ _).mono ?_; rintro e w3 ⟨rfl, rfl⟩
    go_wp2_with fail
    refine (right_any _ ⟨4, ⟨#[]⟩, ⟨#[98]⟩, ⟨#[]⟩, 0, 0⟩).mono ?_; rintro e w4 ⟨rfl, hb4⟩
    rw [e1.out]
    go_wp2_with fail
    refine (num24 _ _).mono ?_; rintro e w5 ⟨rfl, rfl⟩
    go_wp2
    go_ret
    have hB : Below w.heap.size w w2 := below_then hb1 (below_then ((Below.refl w1.heap.size w1).alloc (Nat.le_refl _) _) hb2)
    exact ⟨rfl, ((hB.setCell hlt _).alloc (by simp [World.setCell]; omega) _).trans (hb4.mono (by simp [World.setCell]; omega))⟩
  · have e1 := Lib.hid fmod4_2
    go_enter Try.func9, Try.ntmps9
    go_wp2_with fail
    refine (alive24 _).mono ?_; rintro e w1 ⟨rfl, hb1⟩
    go_wp2_with fail
    refine (right_any _ ⟨4, ⟨#[]⟩, ⟨#[]⟩, ⟨#[]⟩, 0, 0⟩).mono ?_; rintro e w2 ⟨rfl, hb2⟩
    rw [e0.out]
    have hlt := hb1.size
    have hlt2 : w1.heap.size + 1 ≤ w2.heap.size := by have := hb2.size; simpa using this
    have hw2 := (Whole.new w1 38 #[.int .i64 4, .string ⟨#[]⟩, .string ⟨#[]⟩, .string ⟨#[]⟩, .int .i64 0, .int .i64 0]).below hb2
    have hlt3 := hw2.lt
    have b0 := hw2.cell 0
    have f0 := hw2.frozen 0
    have b1 := hw2.cell 1
    have f1 := hw2.frozen 1
    have b2 := hw2.cell 2
    have f2 := hw2.frozen 2
    have b3 := hw2.cell 3
    have f3 := hw2.frozen 3
    have b4 := hw2.cell 4
    have f4 := hw2.frozen 4
    have b5 := hw2.cell 5
    have f5 := hw2.frozen 5
    go_wp2_with fail
    refine (num24 _ _).mono ?_; rintro e w3 ⟨rfl, rfl⟩
    go_wp2_with fail
    refine (right_any _ ⟨4, ⟨#[]⟩, ⟨#[]⟩, ⟨#[98]⟩, 0, 0⟩).mono ?_; rintro e w4 ⟨rfl, hb4⟩
    rw [e1.out]
    go_wp2_with fail
    refine (num24 _ _).mono ?_; rintro e w5 ⟨rfl, rfl⟩
    go_wp2
    go_ret
    have hB : Below w.heap.size w w2 := below_then hb1 (below_then ((Below.refl w1.heap.size w1).alloc (Nat.le_refl _) _) hb2)
    exact ⟨rfl, ((hB.setCell hlt _).alloc (by simp [World.setCell]; omega) _).trans (hb4.mono (by simp [World.setCell]; omega))⟩
  · have e1 := Lib.hid fmod4_3
    go_enter Try.func9, Try.ntmps9
    go_wp2_with fail
    refine (alive24 _).mono ?_; rintro e w1 ⟨rfl, hb1⟩
    go_wp2_with fail
    refine (right_any _ ⟨4, ⟨#[]⟩, ⟨#[]⟩, ⟨#[]⟩, 0, 0⟩).mono ?_; rintro e w2 ⟨rfl, hb2⟩
    rw [e0.out]
    have hlt := hb1.size
    have hlt2 : w1.heap.size + 1 ≤ w2.heap.size := by have := hb2.size; simpa using this
    have hw2 := (Whole.new w1 38 #[.int .i64 4, .string ⟨#[]⟩, .string ⟨#[]⟩, .string ⟨#[]⟩, .int .i64 0, .int .i64 0]).below hb2
    have hlt3 := hw2.lt
    have b0 := hw2.cell 0
    have f0 := hw2.frozen 0
    have b1 := hw2.cell 1
    have f1 := hw2.frozen 1
    have b2 := hw2.cell 2
    have f2 := hw2.frozen 2
    have b3 := hw2.cell 3
    have f3 := hw2.frozen 3
    have b4 := hw2.cell 4
    have f4 := hw2.frozen 4
    have b5 := hw2.cell 5
    have f5 := hw2.frozen 5
    go_wp2_with fail
    refine (num24 _ _).mono ?_; rintro e w3 ⟨rfl, rfl⟩
    go_wp2_with fail
    refine (right_any _ ⟨4, ⟨#[]⟩, ⟨#[]⟩, ⟨#[]⟩, 1, 0⟩).mono ?_; rintro e w4 ⟨rfl, hb4⟩
    rw [e1.out]
    go_wp2_with fail
    refine (num24 _ _).mono ?_; rintro e w5 ⟨rfl, rfl⟩
    go_wp2
    go_ret
    have hB : Below w.heap.size w w2 := below_then hb1 (below_then ((Below.refl w1.heap.size w1).alloc (Nat.le_refl _) _) hb2)
    exact ⟨rfl, ((hB.setCell hlt _).alloc (by simp [World.setCell]; omega) _).trans (hb4.mono (by simp [World.setCell]; omega))⟩
  · have e1 := Lib.hid fmod4_4
    go_enter Try.func9, Try.ntmps9
    go_wp2_with fail
    refine (alive24 _).mono ?_; rintro e w1 ⟨rfl, hb1⟩
    go_wp2_with fail
    refine (right_any _ ⟨4, ⟨#[]⟩, ⟨#[]⟩, ⟨#[]⟩, 0, 0⟩).mono ?_; rintro e w2 ⟨rfl, hb2⟩
    rw [e0.out]
    have hlt := hb1.size
    have hlt2 : w1.heap.size + 1 ≤ w2.heap.size := by have := hb2.size; simpa using this
    have hw2 := (Whole.new w1 38 #[.int .i64 4, .string ⟨#[]⟩, .string ⟨#[]⟩, .string ⟨#[]⟩, .int .i64 0, .int .i64 0]).below hb2
    have hlt3 := hw2.lt
    have b0 := hw2.cell 0
    have f0 := hw2.frozen 0
    have b1 := hw2.cell 1
    have f1 := hw2.frozen 1
    have b2 := hw2.cell 2
    have f2 := hw2.frozen 2
    have b3 := hw2.cell 3
    have f3 := hw2.frozen 3
    have b4 := hw2.cell 4
    have f4 := hw2.frozen 4
    have b5 := hw2.cell 5
    have f5 := hw2.frozen 5
    go_wp2_with fail
    refine (num24 _ _).mono ?_; rintro e w3 ⟨rfl, rfl⟩
    go_wp2_with fail
    refine (right_any _ ⟨4, ⟨#[]⟩, ⟨#[]⟩, ⟨#[]⟩, 0, 1⟩).mono ?_; rintro e w4 ⟨rfl, hb4⟩
    rw [e1.out]
    go_wp2_with fail
    refine (num24 _ _).mono ?_; rintro e w5 ⟨rfl, rfl⟩
    go_wp2
    go_ret
    have hB : Below w.heap.size w w2 := below_then hb1 (below_then ((Below.refl w1.heap.size w1).alloc (Nat.le_refl _) _) hb2)
    exact ⟨rfl, ((hB.setCell hlt _).alloc (by simp [World.setCell]; omega) _).trans (hb4.mono (by simp [World.setCell]; omega))⟩
theorem fbase5 : rightR ⟨5, ⟨#[]⟩, ⟨#[]⟩, ⟨#[]⟩, 0, 0⟩ = 0 := by
  rw [rightR_in (by decide) (by decide) (by simp [namedR, E0])]
  decide
theorem fmod5_0 : rightR ⟨5, ⟨#[98]⟩, ⟨#[]⟩, ⟨#[]⟩, 0, 0⟩ = 1 := rightR_bad (.inl (by simp [namedR, E0]))
theorem fmod5_1 : rightR ⟨5, ⟨#[]⟩, ⟨#[98]⟩, ⟨#[]⟩, 0, 0⟩ = 1 := rightR_bad (.inr (.inl (by simp [namedR, E0])))
theorem fmod5_2 : rightR ⟨5, ⟨#[]⟩, ⟨#[]⟩, ⟨#[98]⟩, 0, 0⟩ = 1 := rightR_bad (.inr (.inr (.inl (by simp [namedR, E0]))))
theorem fmod5_4 : rightR ⟨5, ⟨#[]⟩, ⟨#[]⟩, ⟨#[]⟩, 0, 1⟩ = 1 := rightR_bad (.inr (.inr (.inr (.inr (by simp [namedR])))))
set_option maxRecDepth 100000 in
set_option maxHeartbeats 8000000 in
theorem fields5 (w : World) (which : Int) (h0 : 0 ≤ which) (h4 : which ≤ 4) : Calls Try.prog 9 #[.int .i64 5, .int .i64 which] w fun e w' => e = .returned (.bool true) ∧ Below w.heap.size w w' := by
  have e0 := Lib.hid fbase5
  have hw : which = 0 ∨ which = 1 ∨ which = 2 ∨ which = 3 ∨ which = 4 := by omega
  clear h0 h4
  rcases hw with rfl | rfl | rfl | rfl | rfl
  · have e1 := Lib.hid fmod5_0
    go_enter Try.func9, Try.ntmps9
    go_wp2_with fail
    refine (alive24 _).mono ?_; rintro e w1 ⟨rfl, hb1⟩
    go_wp2_with fail
    refine (right_any _ ⟨5, ⟨#[]⟩, ⟨#[]⟩, ⟨#[]⟩, 0, 0⟩).mono ?_; rintro e w2 ⟨rfl, hb2⟩
    rw [e0.out]
    have hlt := hb1.size
    have hlt2 : w1.heap.size + 1 ≤ w2.heap.size := by have := hb2.size; simpa using this
    have hw2 := (Whole.new w1 38 #[.int .i64 5, .string ⟨#[]⟩, .string ⟨#[]⟩, .string ⟨#[]⟩, .int .i64 0, .int .i64 0]).below hb2
    have hlt3 := hw2.lt
    have b0 := hw2.cell 0
    have f0 := hw2.frozen 0
    have b1 := hw2.cell 1
    have f1 := hw2.frozen 1
    have b2 := hw2.cell 2
    have f2 := hw2.frozen 2
    have b3 := hw2.cell 3
    have f3 := hw2.frozen 3
    have b4 := hw2.cell 4
    have f4 := hw2.frozen 4
    have b5 := hw2.cell 5
    have f5 := hw2.frozen 5
    go_wp2_with fail
    refine (num24 _ _).mono ?_; rintro e w3 ⟨rfl, rfl⟩
    go_wp2_with fail
    refine (right_any _ ⟨5, ⟨#[98]⟩, ⟨#[]⟩, ⟨#[]⟩, 0, 0⟩).mono ?_; rintro e w4 ⟨rfl, hb4⟩
    rw [e1.out]
    go_wp2_with fail
    refine (num24 _ _).mono ?_; rintro e w5 ⟨rfl, rfl⟩
    go_wp2
    go_ret
    have hB : Below w.heap.size w w2 := below_then hb1 (below_then ((Below.refl w1.heap.size w1).alloc (Nat.le_refl _) _) hb2)
    exact ⟨rfl, ((hB.setCell hlt _).alloc (by simp [World.setCell]; omega) _).trans (hb4.mono (by simp [World.setCell]; omega))⟩
  · have e1 := Lib.hid fmod5_1
    go_enter Try.func9, Try.ntmps9
    go_wp2_with fail
    refine (alive24 _).mono ?_; rintro e w1 ⟨rfl, hb1⟩
    go_wp2_with fail
    refine (right_any _ ⟨5, ⟨#[]⟩, ⟨#[]⟩, ⟨#[]⟩, 0, 0⟩).mono ?_; rintro e w2 ⟨rfl, hb2⟩
    rw [e0.out]
    have hlt := hb1.size
    have hlt2 : w1.heap.size + 1 ≤ w2.heap.size := by have := hb2.size; simpa using this
    have hw2 := (Whole.new w1 38 #[.int .i64 5, .string ⟨#[]⟩, .string ⟨#[]⟩, .string ⟨#[]⟩, .int .i64 0, .int .i64 0]).below hb2
    have hlt3 := hw2.lt
    have b0 := hw2.cell 0
    have f0 := hw2.frozen 0
    have b1 := hw2.cell 1
    have f1 := hw2.frozen 1
    have b2 := hw2.cell 2
    have f2 := hw2.frozen 2
    have b3 := hw2.cell 3
    have f3 := hw2.frozen 3
    have b4 := hw2.cell 4
    have f4 := hw2.frozen 4
    have b5 := hw2.cell 5
    have f5 := hw2.frozen 5
    go_wp2_with fail
    refine (num24 _ _).mono ?_; rintro e w3 ⟨rfl, rfl⟩
    go_wp2_with fail
    refine (right_any _ ⟨5, ⟨#[]⟩, ⟨#[98]⟩, ⟨#[]⟩, 0, 0⟩).mono ?_; rintro e w4 ⟨rfl, hb4⟩
    rw [e1.out]
    go_wp2_with fail
    refine (num24 _ _).mono ?_; rintro e w5 ⟨rfl, rfl⟩
    go_wp2
    go_ret
    have hB : Below w.heap.size w w2 := below_then hb1 (below_then ((Below.refl w1.heap.size w1).alloc (Nat.le_refl _) _) hb2)
    exact ⟨rfl, ((hB.setCell hlt _).alloc (by simp [World.setCell]; omega) _).trans (hb4.mono (by simp [World.setCell]; omega))⟩
  · have e1 := Lib.hid fmod5_2
    go_enter Try.func9, Try.ntmps9
    go_wp2_with fail
    refine (alive24 _).mono ?_; rintro e w1 ⟨rfl, hb1⟩
    go_wp2_with fail
    refine (right_any _ ⟨5, ⟨#[]⟩, ⟨#[]⟩, ⟨#[]⟩, 0, 0⟩).mono ?_; rintro e w2 ⟨rfl, hb2⟩
    rw [e0.out]
    have hlt := hb1.size
    have hlt2 : w1.heap.size + 1 ≤ w2.heap.size := by have := hb2.size; simpa using this
    have hw2 := (Whole.new w1 38 #[.int .i64 5, .string ⟨#[]⟩, .string ⟨#[]⟩, .string ⟨#[]⟩, .int .i64 0, .int .i64 0]).below hb2
    have hlt3 := hw2.lt
    have b0 := hw2.cell 0
    have f0 := hw2.frozen 0
    have b1 := hw2.cell 1
    have f1 := hw2.frozen 1
    have b2 := hw2.cell 2
    have f2 := hw2.frozen 2
    have b3 := hw2.cell 3
    have f3 := hw2.frozen 3
    have b4 := hw2.cell 4
    have f4 := hw2.frozen 4
    have b5 := hw2.cell 5
    have f5 := hw2.frozen 5
    go_wp2_with fail
    refine (num24 _ _).mono ?_; rintro e w3 ⟨rfl, rfl⟩
    go_wp2_with fail
    refine (right_any _ ⟨5, ⟨#[]⟩, ⟨#[]⟩, ⟨#[98]⟩, 0, 0⟩).mono ?_; rintro e w4 ⟨rfl, hb4⟩
    rw [e1.out]
    go_wp2_with fail
    refine (num24 _ _).mono ?_; rintro e w5 ⟨rfl, rfl⟩
    go_wp2
    go_ret
    have hB : Below w.heap.size w w2 := below_then hb1 (below_then ((Below.refl w1.heap.size w1).alloc (Nat.le_refl _) _) hb2)
    exact ⟨rfl, ((hB.setCell hlt _).alloc (by simp [World.setCell]; omega) _).trans (hb4.mono (by simp [World.setCell]; omega))⟩
  · go_enter Try.func9, Try.ntmps9
    go_wp2_with fail
    refine (alive24 _).mono ?_; rintro e w1 ⟨rfl, hb1⟩
    go_wp2_with fail
    refine (right_any _ ⟨5, ⟨#[]⟩, ⟨#[]⟩, ⟨#[]⟩, 0, 0⟩).mono ?_; rintro e w2 ⟨rfl, hb2⟩
    rw [e0.out]
    have hlt := hb1.size
    have hlt2 : w1.heap.size + 1 ≤ w2.heap.size := by have := hb2.size; simpa using this
    have hw2 := (Whole.new w1 38 #[.int .i64 5, .string ⟨#[]⟩, .string ⟨#[]⟩, .string ⟨#[]⟩, .int .i64 0, .int .i64 0]).below hb2
    have hlt3 := hw2.lt
    have b0 := hw2.cell 0
    have f0 := hw2.frozen 0
    have b1 := hw2.cell 1
    have f1 := hw2.frozen 1
    have b2 := hw2.cell 2
    have f2 := hw2.frozen 2
    have b3 := hw2.cell 3
    have f3 := hw2.frozen 3
    have b4 := hw2.cell 4
    have f4 := hw2.frozen 4
    have b5 := hw2.cell 5
    have f5 := hw2.frozen 5
    go_wp2_with fail
    refine (num24 _ _).mono ?_; rintro e w3 ⟨rfl, rfl⟩
    go_wp2_with fail
    go_ret
    have hB : Below w.heap.size w w2 := below_then hb1 (below_then ((Below.refl w1.heap.size w1).alloc (Nat.le_refl _) _) hb2)
    exact ⟨rfl, hB.alloc (by omega) _⟩
  · have e1 := Lib.hid fmod5_4
    go_enter Try.func9, Try.ntmps9
    go_wp2_with fail
    refine (alive24 _).mono ?_; rintro e w1 ⟨rfl, hb1⟩
    go_wp2_with fail
    refine (right_any _ ⟨5, ⟨#[]⟩, ⟨#[]⟩, ⟨#[]⟩, 0, 0⟩).mono ?_; rintro e w2 ⟨rfl, hb2⟩
    rw [e0.out]
    have hlt := hb1.size
    have hlt2 : w1.heap.size + 1 ≤ w2.heap.size := by have := hb2.size; simpa using this
    have hw2 := (Whole.new w1 38 #[.int .i64 5, .string ⟨#[]⟩, .string ⟨#[]⟩, .string ⟨#[]⟩, .int .i64 0, .int .i64 0]).below hb2
    have hlt3 := hw2.lt
    have b0 := hw2.cell 0
    have f0 := hw2.frozen 0
    have b1 := hw2.cell 1
    have f1 := hw2.frozen 1
    have b2 := hw2.cell 2
    have f2 := hw2.frozen 2
    have b3 := hw2.cell 3
    have f3 := hw2.frozen 3
    have b4 := hw2.cell 4
    have f4 := hw2.frozen 4
    have b5 := hw2.cell 5
    have f5 := hw2.frozen 5
    go_wp2_with fail
    refine (num24 _ _).mono ?_; rintro e w3 ⟨rfl, rfl⟩
    go_wp2_with fail
    refine (right_any _ ⟨5, ⟨#[]⟩, ⟨#[]⟩, ⟨#[]⟩, 0, 1⟩).mono ?_; rintro e w4 ⟨rfl, hb4⟩
    rw [e1.out]
    go_wp2_with fail
    refine (num24 _ _).mono ?_; rintro e w5 ⟨rfl, rfl⟩
    go_wp2
    go_ret
    have hB : Below w.heap.size w w2 := below_then hb1 (below_then ((Below.refl w1.heap.size w1).alloc (Nat.le_refl _) _) hb2)
    exact ⟨rfl, ((hB.setCell hlt _).alloc (by simp [World.setCell]; omega) _).trans (hb4.mono (by simp [World.setCell]; omega))⟩
theorem fbase6 : rightR ⟨6, ⟨#[97]⟩, ⟨#[]⟩, ⟨#[]⟩, 2, 1⟩ = 0 := by
  rw [rightR_in (by decide) (by decide) (by simp [namedR, E0])]
  decide
theorem fmod6_1 : rightR ⟨6, ⟨#[97]⟩, ⟨#[98]⟩, ⟨#[]⟩, 2, 1⟩ = 1 := rightR_bad (.inr (.inl (by simp [namedR, E0])))
theorem fmod6_2 : rightR ⟨6, ⟨#[97]⟩, ⟨#[]⟩, ⟨#[98]⟩, 2, 1⟩ = 1 := rightR_bad (.inr (.inr (.inl (by simp [namedR, E0]))))
set_option maxRecDepth 100000 in
set_option maxHeartbeats 8000000 in
theorem fields6 (w : World) (which : Int) (h0 : 0 ≤ which) (h4 : which ≤ 4) : Calls Try.prog 9 #[.int .i64 6, .int .i64 which] w fun e w' => e = .returned (.bool true) ∧ Below w.heap.size w w' := by
  have e0 := Lib.hid fbase6
  have hw : which = 0 ∨ which = 1 ∨ which = 2 ∨ which = 3 ∨ which = 4 := by omega
  clear h0 h4
  rcases hw with rfl | rfl | rfl | rfl | rfl
  · go_enter Try.func9, Try.ntmps9
    go_wp2_with fail
    refine (alive24 _).mono ?_; rintro e w1 ⟨rfl, hb1⟩
    go_wp2_with fail
    refine (right_any _ ⟨6, ⟨#[97]⟩, ⟨#[]⟩, ⟨#[]⟩, 2, 1⟩).mono ?_; rintro e w2 ⟨rfl, hb2⟩
    rw [e0.out]
    have hlt := hb1.size
    have hlt2 : w1.heap.size + 1 ≤ w2.heap.size := by have := hb2.size; simpa using this
    have hw2 := (Whole.new w1 38 #[.int .i64 6, .string ⟨#[97]⟩, .string ⟨#[]⟩, .string ⟨#[]⟩, .int .i64 2, .int .i64 1]).below hb2
    have hlt3 := hw2.lt
    have b0 := hw2.cell 0
    have f0 := hw2.frozen 0
    have b1 := hw2.cell 1
    have f1 := hw2.frozen 1
    have b2 := hw2.cell 2
    have f2 := hw2.frozen 2
    have b3 := hw2.cell 3
    have f3 := hw2.frozen 3
    have b4 := hw2.cell 4
    have f4 := hw2.frozen 4
    have b5 := hw2.cell 5
    have f5 := hw2.frozen 5
    go_wp2_with fail
    refine (num24 _ _).mono ?_; rintro e w3 ⟨rfl, rfl⟩
    go_wp2_with fail
    go_ret
    have hB : Below w.heap.size w w2 := below_then hb1 (below_then ((Below.refl w1.heap.size w1).alloc (Nat.le_refl _) _) hb2)
    exact ⟨rfl, hB.alloc (by omega) _⟩
  · have e1 := Lib.hid fmod6_1
    go_enter Try.func9, Try.ntmps9
    go_wp2_with fail
    refine (alive24 _).mono ?_; rintro e w1 ⟨rfl, hb1⟩
    go_wp2_with fail
    refine (right_any _ ⟨6, ⟨#[97]⟩, ⟨#[]⟩, ⟨#[]⟩, 2, 1⟩).mono ?_; rintro e w2 ⟨rfl, hb2⟩
    rw [e0.out]
    have hlt := hb1.size
    have hlt2 : w1.heap.size + 1 ≤ w2.heap.size := by have := hb2.size; simpa using this
    have hw2 := (Whole.new w1 38 #[.int .i64 6, .string ⟨#[97]⟩, .string ⟨#[]⟩, .string ⟨#[]⟩, .int .i64 2, .int .i64 1]).below hb2
    have hlt3 := hw2.lt
    have b0 := hw2.cell 0
    have f0 := hw2.frozen 0
    have b1 := hw2.cell 1
    have f1 := hw2.frozen 1
    have b2 := hw2.cell 2
    have f2 := hw2.frozen 2
    have b3 := hw2.cell 3
    have f3 := hw2.frozen 3
    have b4 := hw2.cell 4
    have f4 := hw2.frozen 4
    have b5 := hw2.cell 5
    have f5 := hw2.frozen 5
    go_wp2_with fail
    refine (num24 _ _).mono ?_; rintro e w3 ⟨rfl, rfl⟩
    go_wp2_with fail
    refine (right_any _ ⟨6, ⟨#[97]⟩, ⟨#[98]⟩, ⟨#[]⟩, 2, 1⟩).mono ?_; rintro e w4 ⟨rfl, hb4⟩
    rw [e1.out]
    go_wp2_with fail
    refine (num24 _ _).mono ?_; rintro e w5 ⟨rfl, rfl⟩
    go_wp2
    go_ret
    have hB : Below w.heap.size w w2 := below_then hb1 (below_then ((Below.refl w1.heap.size w1).alloc (Nat.le_refl _) _) hb2)
    exact ⟨rfl, ((hB.setCell hlt _).alloc (by simp [World.setCell]; omega) _).trans (hb4.mono (by simp [World.setCell]; omega))⟩
  · have e1 := Lib.hid fmod6_2
    go_enter Try.func9, Try.ntmps9
    go_wp2_with fail
    refine (alive24 _).mono ?_; rintro e w1 ⟨rfl, hb1⟩
    go_wp2_with fail
    refine (right_any _ ⟨6, ⟨#[97]⟩, ⟨#[]⟩, ⟨#[]⟩, 2, 1⟩).mono ?_; rintro e w2 ⟨rfl, hb2⟩
    rw [e0.out]
    have hlt := hb1.size
    have hlt2 : w1.heap.size + 1 ≤ w2.heap.size := by have := hb2.size; simpa using this
    have hw2 := (Whole.new w1 38 #[.int .i64 6, .string ⟨#[97]⟩, .string ⟨#[]⟩, .string ⟨#[]⟩, .int .i64 2, .int .i64 1]).below hb2
    have hlt3 := hw2.lt
    have b0 := hw2.cell 0
    have f0 := hw2.frozen 0
    have b1 := hw2.cell 1
    have f1 := hw2.frozen 1
    have b2 := hw2.cell 2
    have f2 := hw2.frozen 2
    have b3 := hw2.cell 3
    have f3 := hw2.frozen 3
    have b4 := hw2.cell 4
    have f4 := hw2.frozen 4
    have b5 := hw2.cell 5
    have f5 := hw2.frozen 5
    go_wp2_with fail
    refine (num24 _ _).mono ?_; rintro e w3 ⟨rfl, rfl⟩
    go_wp2_with fail
    refine (right_any _ ⟨6, ⟨#[97]⟩, ⟨#[]⟩, ⟨#[98]⟩, 2, 1⟩).mono ?_; rintro e w4 ⟨rfl, hb4⟩
    rw [e1.out]
    go_wp2_with fail
    refine (num24 _ _).mono ?_; rintro e w5 ⟨rfl, rfl⟩
    go_wp2
    go_ret
    have hB : Below w.heap.size w w2 := below_then hb1 (below_then ((Below.refl w1.heap.size w1).alloc (Nat.le_refl _) _) hb2)
    exact ⟨rfl, ((hB.setCell hlt _).alloc (by simp [World.setCell]; omega) _).trans (hb4.mono (by simp [World.setCell]; omega))⟩
  · go_enter Try.func9, Try.ntmps9
    go_wp2_with fail
    refine (alive24 _).mono ?_; rintro e w1 ⟨rfl, hb1⟩
    go_wp2_with fail
    refine (right_any _ ⟨6, ⟨#[97]⟩, ⟨#[]⟩, ⟨#[]⟩, 2, 1⟩).mono ?_; rintro e w2 ⟨rfl, hb2⟩
    rw [e0.out]
    have hlt := hb1.size
    have hlt2 : w1.heap.size + 1 ≤ w2.heap.size := by have := hb2.size; simpa using this
    have hw2 := (Whole.new w1 38 #[.int .i64 6, .string ⟨#[97]⟩, .string ⟨#[]⟩, .string ⟨#[]⟩, .int .i64 2, .int .i64 1]).below hb2
    have hlt3 := hw2.lt
    have b0 := hw2.cell 0
    have f0 := hw2.frozen 0
    have b1 := hw2.cell 1
    have f1 := hw2.frozen 1
    have b2 := hw2.cell 2
    have f2 := hw2.frozen 2
    have b3 := hw2.cell 3
    have f3 := hw2.frozen 3
    have b4 := hw2.cell 4
    have f4 := hw2.frozen 4
    have b5 := hw2.cell 5
    have f5 := hw2.frozen 5
    go_wp2_with fail
    refine (num24 _ _).mono ?_; rintro e w3 ⟨rfl, rfl⟩
    go_wp2_with fail
    go_ret
    have hB : Below w.heap.size w w2 := below_then hb1 (below_then ((Below.refl w1.heap.size w1).alloc (Nat.le_refl _) _) hb2)
    exact ⟨rfl, hB.alloc (by omega) _⟩
  · go_enter Try.func9, Try.ntmps9
    go_wp2_with fail
    refine (alive24 _).mono ?_; rintro e w1 ⟨rfl, hb1⟩
    go_wp2_with fail
    refine (right_any _ ⟨6, ⟨#[97]⟩, ⟨#[]⟩, ⟨#[]⟩, 2, 1⟩).mono ?_; rintro e w2 ⟨rfl, hb2⟩
    rw [e0.out]
    have hlt := hb1.size
    have hlt2 : w1.heap.size + 1 ≤ w2.heap.size := by have := hb2.size; simpa using this
    have hw2 := (Whole.new w1 38 #[.int .i64 6, .string ⟨#[97]⟩, .string ⟨#[]⟩, .string ⟨#[]⟩, .int .i64 2, .int .i64 1]).below hb2
    have hlt3 := hw2.lt
    have b0 := hw2.cell 0
    have f0 := hw2.frozen 0
    have b1 := hw2.cell 1
    have f1 := hw2.frozen 1
    have b2 := hw2.cell 2
    have f2 := hw2.frozen 2
    have b3 := hw2.cell 3
    have f3 := hw2.frozen 3
    have b4 := hw2.cell 4
    have f4 := hw2.frozen 4
    have b5 := hw2.cell 5
    have f5 := hw2.frozen 5
    go_wp2_with fail
    refine (num24 _ _).mono ?_; rintro e w3 ⟨rfl, rfl⟩
    go_wp2_with fail
    go_ret
    have hB : Below w.heap.size w w2 := below_then hb1 (below_then ((Below.refl w1.heap.size w1).alloc (Nat.le_refl _) _) hb2)
    exact ⟨rfl, hB.alloc (by omega) _⟩
theorem fbase7 : rightR ⟨7, ⟨#[97]⟩, ⟨#[107]⟩, ⟨#[]⟩, 0, 0⟩ = 0 := by
  rw [rightR_in (by decide) (by decide) (by simp [namedR, E0])]
  decide
theorem fmod7_2 : rightR ⟨7, ⟨#[97]⟩, ⟨#[107]⟩, ⟨#[98]⟩, 0, 0⟩ = 1 := rightR_bad (.inr (.inr (.inl (by simp [namedR, E0]))))
theorem fmod7_3 : rightR ⟨7, ⟨#[97]⟩, ⟨#[107]⟩, ⟨#[]⟩, 1, 0⟩ = 1 := rightR_bad (.inr (.inr (.inr (.inl (by simp [namedR])))))
theorem fmod7_4 : rightR ⟨7, ⟨#[97]⟩, ⟨#[107]⟩, ⟨#[]⟩, 0, 1⟩ = 1 := rightR_bad (.inr (.inr (.inr (.inr (by simp [namedR])))))
set_option maxRecDepth 100000 in
set_option maxHeartbeats 8000000 in
theorem fields7 (w : World) (which : Int) (h0 : 0 ≤ which) (h4 : which ≤ 4) : Calls Try.prog 9 #[.int .i64 7, .int .i64 which] w fun e w' => e = .returned (.bool true) ∧ Below w.heap.size w w' := by
  have e0 := Lib.hid fbase7
  have hw : which = 0 ∨ which = 1 ∨ which = 2 ∨ which = 3 ∨ which = 4 := by omega
  clear h0 h4
  rcases hw with rfl | rfl | rfl | rfl | rfl
  · go_enter Try.func9, Try.ntmps9
    go_wp2_with fail
    refine (alive24 _).mono ?_; rintro e w1 ⟨rfl, hb1⟩
    go_wp2_with fail
    refine (right_any _ ⟨7, ⟨#[97]⟩, ⟨#[107]⟩, ⟨#[]⟩, 0, 0⟩).mono ?_; rintro e w2 ⟨rfl, hb2⟩
    rw [e0.out]
    have hlt := hb1.size
    have hlt2 : w1.heap.size + 1 ≤ w2.heap.size := by have := hb2.size; simpa using this
    have hw2 := (Whole.new w1 38 #[.int .i64 7, .string ⟨#[97]⟩, .string ⟨#[107]⟩, .string ⟨#[]⟩, .int .i64 0, .int .i64 0]).below hb2
    have hlt3 := hw2.lt
    have b0 := hw2.cell 0
    have f0 := hw2.frozen 0
    have b1 := hw2.cell 1
    have f1 := hw2.frozen 1
    have b2 := hw2.cell 2
    have f2 := hw2.frozen 2
    have b3 := hw2.cell 3
    have f3 := hw2.frozen 3
    have b4 := hw2.cell 4
    have f4 := hw2.frozen 4
    have b5 := hw2.cell 5
    have f5 := hw2.frozen 5
    go_wp2_with fail
    refine (num24 _ _).mono ?_; rintro e w3 ⟨rfl, rfl⟩
    go_wp2_with fail
    go_ret
    have hB : Below w.heap.size w w2 := below_then hb1 (below_then ((Below.refl w1.heap.size w1).alloc (Nat.le_refl _) _) hb2)
    exact ⟨rfl, hB.alloc (by omega) _⟩
  · go_enter Try.func9, Try.ntmps9
    go_wp2_with fail
    refine (alive24 _).mono ?_; rintro e w1 ⟨rfl, hb1⟩
    go_wp2_with fail
    refine (right_any _ ⟨7, ⟨#[97]⟩, ⟨#[107]⟩, ⟨#[]⟩, 0, 0⟩).mono ?_; rintro e w2 ⟨rfl, hb2⟩
    rw [e0.out]
    have hlt := hb1.size
    have hlt2 : w1.heap.size + 1 ≤ w2.heap.size := by have := hb2.size; simpa using this
    have hw2 := (Whole.new w1 38 #[.int .i64 7, .string ⟨#[97]⟩, .string ⟨#[107]⟩, .string ⟨#[]⟩, .int .i64 0, .int .i64 0]).below hb2
    have hlt3 := hw2.lt
    have b0 := hw2.cell 0
    have f0 := hw2.frozen 0
    have b1 := hw2.cell 1
    have f1 := hw2.frozen 1
    have b2 := hw2.cell 2
    have f2 := hw2.frozen 2
    have b3 := hw2.cell 3
    have f3 := hw2.frozen 3
    have b4 := hw2.cell 4
    have f4 := hw2.frozen 4
    have b5 := hw2.cell 5
    have f5 := hw2.frozen 5
    go_wp2_with fail
    refine (num24 _ _).mono ?_; rintro e w3 ⟨rfl, rfl⟩
    go_wp2_with fail
    go_ret
    have hB : Below w.heap.size w w2 := below_then hb1 (below_then ((Below.refl w1.heap.size w1).alloc (Nat.le_refl _) _) hb2)
    exact ⟨rfl, hB.alloc (by omega) _⟩
  · have e1 := Lib.hid fmod7_2
    go_enter Try.func9, Try.ntmps9
    go_wp2_with fail
    refine (alive24 _).mono ?_; rintro e w1 ⟨rfl, hb1⟩
    go_wp2_with fail
    refine (right_any _ ⟨7, ⟨#[97]⟩, ⟨#[107]⟩, ⟨#[]⟩, 0, 0⟩).mono ?_; rintro e w2 ⟨rfl, hb2⟩
    rw [e0.out]
    have hlt := hb1.size
    have hlt2 : w1.heap.size + 1 ≤ w2.heap.size := by have := hb2.size; simpa using this
    have hw2 := (Whole.new w1 38 #[.int .i64 7, .string ⟨#[97]⟩, .string ⟨#[107]⟩, .string ⟨#[]⟩, .int .i64 0, .int .i64 0]).below hb2
    have hlt3 := hw2.lt
    have b0 := hw2.cell 0
    have f0 := hw2.frozen 0
    have b1 := hw2.cell 1
    have f1 := hw2.frozen 1
    have b2 := hw2.cell 2
    have f2 := hw2.frozen 2
    have b3 := hw2.cell 3
    have f3 := hw2.frozen 3
    have b4 := hw2.cell 4
    have f4 := hw2.frozen 4
    have b5 := hw2.cell 5
    have f5 := hw2.frozen 5
    go_wp2_with fail
    refine (num24 _ _).mono ?_; rintro e w3 ⟨rfl, rfl⟩
    go_wp2_with fail
    refine (right_any _ ⟨7, ⟨#[97]⟩, ⟨#[107]⟩, ⟨#[98]⟩, 0, 0⟩).mono ?_; rintro e w4 ⟨rfl, hb4⟩
    rw [e1.out]
    go_wp2_with fail
    refine (num24 _ _).mono ?_; rintro e w5 ⟨rfl, rfl⟩
    go_wp2
    go_ret
    have hB : Below w.heap.size w w2 := below_then hb1 (below_then ((Below.refl w1.heap.size w1).alloc (Nat.le_refl _) _) hb2)
    exact ⟨rfl, ((hB.setCell hlt _).alloc (by simp [World.setCell]; omega) _).trans (hb4.mono (by simp [World.setCell]; omega))⟩
  · have e1 := Lib.hid fmod7_3
    go_enter Try.func9, Try.ntmps9
    go_wp2_with fail
    refine (alive24 _).mono ?_; rintro e w1 ⟨rfl, hb1⟩
    go_wp2_with fail
    refine (right_any _ ⟨7, ⟨#[97]⟩, ⟨#[107]⟩, ⟨#[]⟩, 0, 0⟩).mono ?_; rintro e w2 ⟨rfl, hb2⟩
    rw [e0.out]
    have hlt := hb1.size
    have hlt2 : w1.heap.size + 1 ≤ w2.heap.size := by have := hb2.size; simpa using this
    have hw2 := (Whole.new w1 38 #[.int .i64 7, .string ⟨#[97]⟩, .string ⟨#[107]⟩, .string ⟨#[]⟩, .int .i64 0, .int .i64 0]).below hb2
    have hlt3 := hw2.lt
    have b0 := hw2.cell 0
    have f0 := hw2.frozen 0
    have b1 := hw2.cell 1
    have f1 := hw2.frozen 1
    have b2 := hw2.cell 2
    have f2 := hw2.frozen 2
    have b3 := hw2.cell 3
    have f3 := hw2.frozen 3
    have b4 := hw2.cell 4
    have f4 := hw2.frozen 4
    have b5 := hw2.cell 5
    have f5 := hw2.frozen 5
    go_wp2_with fail
    refine (num24 _ _).mono ?_; rintro e w3 ⟨rfl, rfl⟩
    go_wp2_with fail
    refine (right_any _ ⟨7, ⟨#[97]⟩, ⟨#[107]⟩, ⟨#[]⟩, 1, 0⟩).mono ?_; rintro e w4 ⟨rfl, hb4⟩
    rw [e1.out]
    go_wp2_with fail
    refine (num24 _ _).mono ?_; rintro e w5 ⟨rfl, rfl⟩
    go_wp2
    go_ret
    have hB : Below w.heap.size w w2 := below_then hb1 (below_then ((Below.refl w1.heap.size w1).alloc (Nat.le_refl _) _) hb2)
    exact ⟨rfl, ((hB.setCell hlt _).alloc (by simp [World.setCell]; omega) _).trans (hb4.mono (by simp [World.setCell]; omega))⟩
  · have e1 := Lib.hid fmod7_4
    go_enter Try.func9, Try.ntmps9
    go_wp2_with fail
    refine (alive24 _).mono ?_; rintro e w1 ⟨rfl, hb1⟩
    go_wp2_with fail
    refine (right_any _ ⟨7, ⟨#[97]⟩, ⟨#[107]⟩, ⟨#[]⟩, 0, 0⟩).mono ?_; rintro e w2 ⟨rfl, hb2⟩
    rw [e0.out]
    have hlt := hb1.size
    have hlt2 : w1.heap.size + 1 ≤ w2.heap.size := by have := hb2.size; simpa using this
    have hw2 := (Whole.new w1 38 #[.int .i64 7, .string ⟨#[97]⟩, .string ⟨#[107]⟩, .string ⟨#[]⟩, .int .i64 0, .int .i64 0]).below hb2
    have hlt3 := hw2.lt
    have b0 := hw2.cell 0
    have f0 := hw2.frozen 0
    have b1 := hw2.cell 1
    have f1 := hw2.frozen 1
    have b2 := hw2.cell 2
    have f2 := hw2.frozen 2
    have b3 := hw2.cell 3
    have f3 := hw2.frozen 3
    have b4 := hw2.cell 4
    have f4 := hw2.frozen 4
    have b5 := hw2.cell 5
    have f5 := hw2.frozen 5
    go_wp2_with fail
    refine (num24 _ _).mono ?_; rintro e w3 ⟨rfl, rfl⟩
    go_wp2_with fail
    refine (right_any _ ⟨7, ⟨#[97]⟩, ⟨#[107]⟩, ⟨#[]⟩, 0, 1⟩).mono ?_; rintro e w4 ⟨rfl, hb4⟩
    rw [e1.out]
    go_wp2_with fail
    refine (num24 _ _).mono ?_; rintro e w5 ⟨rfl, rfl⟩
    go_wp2
    go_ret
    have hB : Below w.heap.size w w2 := below_then hb1 (below_then ((Below.refl w1.heap.size w1).alloc (Nat.le_refl _) _) hb2)
    exact ⟨rfl, ((hB.setCell hlt _).alloc (by simp [World.setCell]; omega) _).trans (hb4.mono (by simp [World.setCell]; omega))⟩
theorem fbase8 : rightR ⟨8, ⟨#[97]⟩, ⟨#[107]⟩, ⟨#[]⟩, 0, 0⟩ = 0 := by
  rw [rightR_in (by decide) (by decide) (by simp [namedR, E0])]
  decide
theorem fmod8_3 : rightR ⟨8, ⟨#[97]⟩, ⟨#[107]⟩, ⟨#[]⟩, 1, 0⟩ = 1 := rightR_bad (.inr (.inr (.inr (.inl (by simp [namedR])))))
theorem fmod8_4 : rightR ⟨8, ⟨#[97]⟩, ⟨#[107]⟩, ⟨#[]⟩, 0, 1⟩ = 1 := rightR_bad (.inr (.inr (.inr (.inr (by simp [namedR])))))
set_option maxRecDepth 100000 in
set_option maxHeartbeats 8000000 in
theorem fields8 (w : World) (which : Int) (h0 : 0 ≤ which) (h4 : which ≤ 4) : Calls Try.prog 9 #[.int .i64 8, .int .i64 which] w fun e w' => e = .returned (.bool true) ∧ Below w.heap.size w w' := by
  have e0 := Lib.hid fbase8
  have hw : which = 0 ∨ which = 1 ∨ which = 2 ∨ which = 3 ∨ which = 4 := by omega
  clear h0 h4
  rcases hw with rfl | rfl | rfl | rfl | rfl
  · go_enter Try.func9, Try.ntmps9
    go_wp2_with fail
    refine (alive24 _).mono ?_; rintro e w1 ⟨rfl, hb1⟩
    go_wp2_with fail
    refine (right_any _ ⟨8, ⟨#[97]⟩, ⟨#[107]⟩, ⟨#[]⟩, 0, 0⟩).mono ?_; rintro e w2 ⟨rfl, hb2⟩
    rw [e0.out]
    have hlt := hb1.size
    have hlt2 : w1.heap.size + 1 ≤ w2.heap.size := by have := hb2.size; simpa using this
    have hw2 := (Whole.new w1 38 #[.int .i64 8, .string ⟨#[97]⟩, .string ⟨#[107]⟩, .string ⟨#[]⟩, .int .i64 0, .int .i64 0]).below hb2
    have hlt3 := hw2.lt
    have b0 := hw2.cell 0
    have f0 := hw2.frozen 0
    have b1 := hw2.cell 1
    have f1 := hw2.frozen 1
    have b2 := hw2.cell 2
    have f2 := hw2.frozen 2
    have b3 := hw2.cell 3
    have f3 := hw2.frozen 3
    have b4 := hw2.cell 4
    have f4 := hw2.frozen 4
    have b5 := hw2.cell 5
    have f5 := hw2.frozen 5
    go_wp2_with fail
    refine (num24 _ _).mono ?_; rintro e w3 ⟨rfl, rfl⟩
    go_wp2_with fail
    go_ret
    have hB : Below w.heap.size w w2 := below_then hb1 (below_then ((Below.refl w1.heap.size w1).alloc (Nat.le_refl _) _) hb2)
    exact ⟨rfl, hB.alloc (by omega) _⟩
  · go_enter Try.func9, Try.ntmps9
    go_wp2_with fail
    refine (alive24 _).mono ?_; rintro e w1 ⟨rfl, hb1⟩
    go_wp2_with fail
    refine (right_any _ ⟨8, ⟨#[97]⟩, ⟨#[107]⟩, ⟨#[]⟩, 0, 0⟩).mono ?_; rintro e w2 ⟨rfl, hb2⟩
    rw [e0.out]
    have hlt := hb1.size
    have hlt2 : w1.heap.size + 1 ≤ w2.heap.size := by have := hb2.size; simpa using this
    have hw2 := (Whole.new w1 38 #[.int .i64 8, .string ⟨#[97]⟩, .string ⟨#[107]⟩, .string ⟨#[]⟩, .int .i64 0, .int .i64 0]).below hb2
    have hlt3 := hw2.lt
    have b0 := hw2.cell 0
    have f0 := hw2.frozen 0
    have b1 := hw2.cell 1
    have f1 := hw2.frozen 1
    have b2 := hw2.cell 2
    have f2 := hw2.frozen 2
    have b3 := hw2.cell 3
    have f3 := hw2.frozen 3
    have b4 := hw2.cell 4
    have f4 := hw2.frozen 4
    have b5 := hw2.cell 5
    have f5 := hw2.frozen 5
    go_wp2_with fail
    refine (num24 _ _).mono ?_; rintro e w3 ⟨rfl, rfl⟩
    go_wp2_with fail
    go_ret
    have hB : Below w.heap.size w w2 := below_then hb1 (below_then ((Below.refl w1.heap.size w1).alloc (Nat.le_refl _) _) hb2)
    exact ⟨rfl, hB.alloc (by omega) _⟩
  · go_enter Try.func9, Try.ntmps9
    go_wp2_with fail
    refine (alive24 _).mono ?_; rintro e w1 ⟨rfl, hb1⟩
    go_wp2_with fail
    refine (right_any _ ⟨8, ⟨#[97]⟩, ⟨#[107]⟩, ⟨#[]⟩, 0, 0⟩).mono ?_; rintro e w2 ⟨rfl, hb2⟩
    rw [e0.out]
    have hlt := hb1.size
    have hlt2 : w1.heap.size + 1 ≤ w2.heap.size := by have := hb2.size; simpa using this
    have hw2 := (Whole.new w1 38 #[.int .i64 8, .string ⟨#[97]⟩, .string ⟨#[107]⟩, .string ⟨#[]⟩, .int .i64 0, .int .i64 0]).below hb2
    have hlt3 := hw2.lt
    have b0 := hw2.cell 0
    have f0 := hw2.frozen 0
    have b1 := hw2.cell 1
    have f1 := hw2.frozen 1
    have b2 := hw2.cell 2
    have f2 := hw2.frozen 2
    have b3 := hw2.cell 3
    have f3 := hw2.frozen 3
    have b4 := hw2.cell 4
    have f4 := hw2.frozen 4
    have b5 := hw2.cell 5
    have f5 := hw2.frozen 5
    go_wp2_with fail
    refine (num24 _ _).mono ?_; rintro e w3 ⟨rfl, rfl⟩
    go_wp2_with fail
    go_ret
    have hB : Below w.heap.size w w2 := below_then hb1 (below_then ((Below.refl w1.heap.size w1).alloc (Nat.le_refl _) _) hb2)
    exact ⟨rfl, hB.alloc (by omega) _⟩
  · have e1 := Lib.hid fmod8_3
    go_enter Try.func9, Try.ntmps9
    go_wp2_with fail
    refine (alive24 _).mono ?_; rintro e w1 ⟨rfl, hb1⟩
    go_wp2_with fail
    refine (right_any _ ⟨8, ⟨#[97]⟩, ⟨#[107]⟩, ⟨#[]⟩, 0, 0⟩).mono ?_; rintro e w2 ⟨rfl, hb2⟩
    rw [e0.out]
    have hlt := hb1.size
    have hlt2 : w1.heap.size + 1 ≤ w2.heap.size := by have := hb2.size; simpa using this
    have hw2 := (Whole.new w1 38 #[.int .i64 8, .string ⟨#[97]⟩, .string ⟨#[107]⟩, .string ⟨#[]⟩, .int .i64 0, .int .i64 0]).below hb2
    have hlt3 := hw2.lt
    have b0 := hw2.cell 0
    have f0 := hw2.frozen 0
    have b1 := hw2.cell 1
    have f1 := hw2.frozen 1
    have b2 := hw2.cell 2
    have f2 := hw2.frozen 2
    have b3 := hw2.cell 3
    have f3 := hw2.frozen 3
    have b4 := hw2.cell 4
    have f4 := hw2.frozen 4
    have b5 := hw2.cell 5
    have f5 := hw2.frozen 5
    go_wp2_with fail
    refine (num24 _ _).mono ?_; rintro e w3 ⟨rfl, rfl⟩
    go_wp2_with fail
    refine (right_any _ ⟨8, ⟨#[97]⟩, ⟨#[107]⟩, ⟨#[]⟩, 1, 0⟩).mono ?_; rintro e w4 ⟨rfl, hb4⟩
    rw [e1.out]
    go_wp2_with fail
    refine (num24 _ _).mono ?_; rintro e w5 ⟨rfl, rfl⟩
    go_wp2
    go_ret
    have hB : Below w.heap.size w w2 := below_then hb1 (below_then ((Below.refl w1.heap.size w1).alloc (Nat.le_refl _) _) hb2)
    exact ⟨rfl, ((hB.setCell hlt _).alloc (by simp [World.setCell]; omega) _).trans (hb4.mono (by simp [World.setCell]; omega))⟩
  · have e1 := Lib.hid fmod8_4
    go_enter Try.func9, Try.ntmps9
    go_wp2_with fail
    refine (alive24 _).mono ?_; rintro e w1 ⟨rfl, hb1⟩
    go_wp2_with fail
    refine (right_any _ ⟨8, ⟨#[97]⟩, ⟨#[107]⟩, ⟨#[]⟩, 0, 0⟩).mono ?_; rintro e w2 ⟨rfl, hb2⟩
    rw [e0.out]
    have hlt := hb1.size
    have hlt2 : w1.heap.size + 1 ≤ w2.heap.size := by have := hb2.size; simpa using this
    have hw2 := (Whole.new w1 38 #[.int .i64 8, .string ⟨#[97]⟩, .string ⟨#[107]⟩, .string ⟨#[]⟩, .int .i64 0, .int .i64 0]).below hb2
    have hlt3 := hw2.lt
    have b0 := hw2.cell 0
    have f0 := hw2.frozen 0
    have b1 := hw2.cell 1
    have f1 := hw2.frozen 1
    have b2 := hw2.cell 2
    have f2 := hw2.frozen 2
    have b3 := hw2.cell 3
    have f3 := hw2.frozen 3
    have b4 := hw2.cell 4
    have f4 := hw2.frozen 4
    have b5 := hw2.cell 5
    have f5 := hw2.frozen 5
    go_wp2_with fail
    refine (num24 _ _).mono ?_; rintro e w3 ⟨rfl, rfl⟩
    go_wp2_with fail
    refine (right_any _ ⟨8, ⟨#[97]⟩, ⟨#[107]⟩, ⟨#[]⟩, 0, 1⟩).mono ?_; rintro e w4 ⟨rfl, hb4⟩
    rw [e1.out]
    go_wp2_with fail
    refine (num24 _ _).mono ?_; rintro e w5 ⟨rfl, rfl⟩
    go_wp2
    go_ret
    have hB : Below w.heap.size w w2 := below_then hb1 (below_then ((Below.refl w1.heap.size w1).alloc (Nat.le_refl _) _) hb2)
    exact ⟨rfl, ((hB.setCell hlt _).alloc (by simp [World.setCell]; omega) _).trans (hb4.mono (by simp [World.setCell]; omega))⟩
theorem fbase9 : rightR ⟨9, ⟨#[97]⟩, ⟨#[107]⟩, ⟨#[]⟩, 0, 0⟩ = 0 := by
  rw [rightR_in (by decide) (by decide) (by simp [namedR, E0])]
  decide
theorem fmod9_2 : rightR ⟨9, ⟨#[97]⟩, ⟨#[107]⟩, ⟨#[98]⟩, 0, 0⟩ = 1 := rightR_bad (.inr (.inr (.inl (by simp [namedR, E0]))))
theorem fmod9_3 : rightR ⟨9, ⟨#[97]⟩, ⟨#[107]⟩, ⟨#[]⟩, 1, 0⟩ = 1 := rightR_bad (.inr (.inr (.inr (.inl (by simp [namedR])))))
theorem fmod9_4 : rightR ⟨9, ⟨#[97]⟩, ⟨#[107]⟩, ⟨#[]⟩, 0, 1⟩ = 1 := rightR_bad (.inr (.inr (.inr (.inr (by simp [namedR])))))
set_option maxRecDepth 100000 in
set_option maxHeartbeats 8000000 in
theorem fields9 (w : World) (which : Int) (h0 : 0 ≤ which) (h4 : which ≤ 4) : Calls Try.prog 9 #[.int .i64 9, .int .i64 which] w fun e w' => e = .returned (.bool true) ∧ Below w.heap.size w w' := by
  have e0 := Lib.hid fbase9
  have hw : which = 0 ∨ which = 1 ∨ which = 2 ∨ which = 3 ∨ which = 4 := by omega
  clear h0 h4
  rcases hw with rfl | rfl | rfl | rfl | rfl
  · go_enter Try.func9, Try.ntmps9
    go_wp2_with fail
    refine (alive24 _).mono ?_; rintro e w1 ⟨rfl, hb1⟩
    go_wp2_with fail
    refine (right_any _ ⟨9, ⟨#[97]⟩, ⟨#[107]⟩, ⟨#[]⟩, 0, 0⟩).mono ?_; rintro e w2 ⟨rfl, hb2⟩
    rw [e0.out]
    have hlt := hb1.size
    have hlt2 : w1.heap.size + 1 ≤ w2.heap.size := by have := hb2.size; simpa using this
    have hw2 := (Whole.new w1 38 #[.int .i64 9, .string ⟨#[97]⟩, .string ⟨#[107]⟩, .string ⟨#[]⟩, .int .i64 0, .int .i64 0]).below hb2
    have hlt3 := hw2.lt
    have b0 := hw2.cell 0
    have f0 := hw2.frozen 0
    have b1 := hw2.cell 1
    have f1 := hw2.frozen 1
    have b2 := hw2.cell 2
    have f2 := hw2.frozen 2
    have b3 := hw2.cell 3
    have f3 := hw2.frozen 3
    have b4 := hw2.cell 4
    have f4 := hw2.frozen 4
    have b5 := hw2.cell 5
    have f5 := hw2.frozen 5
    go_wp2_with fail
    refine (num24 _ _).mono ?_; rintro e w3 ⟨rfl, rfl⟩
    go_wp2_with fail
    go_ret
    have hB : Below w.heap.size w w2 := below_then hb1 (below_then ((Below.refl w1.heap.size w1).alloc (Nat.le_refl _) _) hb2)
    exact ⟨rfl, hB.alloc (by omega) _⟩
  · go_enter Try.func9, Try.ntmps9
    go_wp2_with fail
    refine (alive24 _).mono ?_; rintro e w1 ⟨rfl, hb1⟩
    go_wp2_with fail
    refine (right_any _ ⟨9, ⟨#[97]⟩, ⟨#[107]⟩, ⟨#[]⟩, 0, 0⟩).mono ?_; rintro e w2 ⟨rfl, hb2⟩
    rw [e0.out]
    have hlt := hb1.size
    have hlt2 : w1.heap.size + 1 ≤ w2.heap.size := by have := hb2.size; simpa using this
    have hw2 := (Whole.new w1 38 #[.int .i64 9, .string ⟨#[97]⟩, .string ⟨#[107]⟩, .string ⟨#[]⟩, .int .i64 0, .int .i64 0]).below hb2
    have hlt3 := hw2.lt
    have b0 := hw2.cell 0
    have f0 := hw2.frozen 0
    have b1 := hw2.cell 1
    have f1 := hw2.frozen 1
    have b2 := hw2.cell 2
    have f2 := hw2.frozen 2
    have b3 := hw2.cell 3
    have f3 := hw2.frozen 3
    have b4 := hw2.cell 4
    have f4 := hw2.frozen 4
    have b5 := hw2.cell 5
    have f5 := hw2.frozen 5
    go_wp2_with fail
    refine (num24 _ _).mono ?_; rintro e w3 ⟨rfl, rfl⟩
    go_wp2_with fail
    go_ret
    have hB : Below w.heap.size w w2 := below_then hb1 (below_then ((Below.refl w1.heap.size w1).alloc (Nat.le_refl _) _) hb2)
    exact ⟨rfl, hB.alloc (by omega) _⟩
  · have e1 := Lib.hid fmod9_2
    go_enter Try.func9, Try.ntmps9
    go_wp2_with fail
    refine (alive24 _).mono ?_; rintro e w1 ⟨rfl, hb1⟩
    go_wp2_with fail
    refine (right_any _ ⟨9, ⟨#[97]⟩, ⟨#[107]⟩, ⟨#[]⟩, 0, 0⟩).mono ?_; rintro e w2 ⟨rfl, hb2⟩
    rw [e0.out]
    have hlt := hb1.size
    have hlt2 : w1.heap.size + 1 ≤ w2.heap.size := by have := hb2.size; simpa using this
    have hw2 := (Whole.new w1 38 #[.int .i64 9, .string ⟨#[97]⟩, .string ⟨#[107]⟩, .string ⟨#[]⟩, .int .i64 0, .int .i64 0]).below hb2
    have hlt3 := hw2.lt
    have b0 := hw2.cell 0
    have f0 := hw2.frozen 0
    have b1 := hw2.cell 1
    have f1 := hw2.frozen 1
    have b2 := hw2.cell 2
    have f2 := hw2.frozen 2
    have b3 := hw2.cell 3
    have f3 := hw2.frozen 3
    have b4 := hw2.cell 4
    have f4 := hw2.frozen 4
    have b5 := hw2.cell 5
    have f5 := hw2.frozen 5
    go_wp2_with fail
    refine (num24 _ _).mono ?_; rintro e w3 ⟨rfl, rfl⟩
    go_wp2_with fail
    refine (right_any _ ⟨9, ⟨#[97]⟩, ⟨#[107]⟩, ⟨#[98]⟩, 0, 0⟩).mono ?_; rintro e w4 ⟨rfl, hb4⟩
    rw [e1.out]
    go_wp2_with fail
    refine (num24 _ _).mono ?_; rintro e w5 ⟨rfl, rfl⟩
    go_wp2
    go_ret
    have hB : Below w.heap.size w w2 := below_then hb1 (below_then ((Below.refl w1.heap.size w1).alloc (Nat.le_refl _) _) hb2)
    exact ⟨rfl, ((hB.setCell hlt _).alloc (by simp [World.setCell]; omega) _).trans (hb4.mono (by simp [World.setCell]; omega))⟩
  · have e1 := Lib.hid fmod9_3
    go_enter Try.func9, Try.ntmps9
    go_wp2_with fail
    refine (alive24 _).mono ?_; rintro e w1 ⟨rfl, hb1⟩
    go_wp2_with fail
    refine (right_any _ ⟨9, ⟨#[97]⟩, ⟨#[107]⟩, ⟨#[]⟩, 0, 0⟩).mono ?_; rintro e w2 ⟨rfl, hb2⟩
    rw [e0.out]
    have hlt := hb1.size
    have hlt2 : w1.heap.size + 1 ≤ w2.heap.size := by have := hb2.size; simpa using this
    have hw2 := (Whole.new w1 38 #[.int .i64 9, .string ⟨#[97]⟩, .string ⟨#[107]⟩, .string ⟨#[]⟩, .int .i64 0, .int .i64 0]).below hb2
    have hlt3 := hw2.lt
    have b0 := hw2.cell 0
    have f0 := hw2.frozen 0
    have b1 := hw2.cell 1
    have f1 := hw2.frozen 1
    have b2 := hw2.cell 2
    have f2 := hw2.frozen 2
    have b3 := hw2.cell 3
    have f3 := hw2.frozen 3
    have b4 := hw2.cell 4
    have f4 := hw2.frozen 4
    have b5 := hw2.cell 5
    have f5 := hw2.frozen 5
    go_wp2_with fail
    refine (num24 _ _).mono ?_; rintro e w3 ⟨rfl, rfl⟩
    go_wp2_with fail
    refine (right_any _ ⟨9, ⟨#[97]⟩, ⟨#[107]⟩, ⟨#[]⟩, 1, 0⟩).mono ?_; rintro e w4 ⟨rfl, hb4⟩
    rw [e1.out]
    go_wp2_with fail
    refine (num24 _ _).mono ?_; rintro e w5 ⟨rfl, rfl⟩
    go_wp2
    go_ret
    have hB : Below w.heap.size w w2 := below_then hb1 (below_then ((Below.refl w1.heap.size w1).alloc (Nat.le_refl _) _) hb2)
    exact ⟨rfl, ((hB.setCell hlt _).alloc (by simp [World.setCell]; omega) _).trans (hb4.mono (by simp [World.setCell]; omega))⟩
  · have e1 := Lib.hid fmod9_4
    go_enter Try.func9, Try.ntmps9
    go_wp2_with fail
    refine (alive24 _).mono ?_; rintro e w1 ⟨rfl, hb1⟩
    go_wp2_with fail
    refine (right_any _ ⟨9, ⟨#[97]⟩, ⟨#[107]⟩, ⟨#[]⟩, 0, 0⟩).mono ?_; rintro e w2 ⟨rfl, hb2⟩
    rw [e0.out]
    have hlt := hb1.size
    have hlt2 : w1.heap.size + 1 ≤ w2.heap.size := by have := hb2.size; simpa using this
    have hw2 := (Whole.new w1 38 #[.int .i64 9, .string ⟨#[97]⟩, .string ⟨#[107]⟩, .string ⟨#[]⟩, .int .i64 0, .int .i64 0]).below hb2
    have hlt3 := hw2.lt
    have b0 := hw2.cell 0
    have f0 := hw2.frozen 0
    have b1 := hw2.cell 1
    have f1 := hw2.frozen 1
    have b2 := hw2.cell 2
    have f2 := hw2.frozen 2
    have b3 := hw2.cell 3
    have f3 := hw2.frozen 3
    have b4 := hw2.cell 4
    have f4 := hw2.frozen 4
    have b5 := hw2.cell 5
    have f5 := hw2.frozen 5
    go_wp2_with fail
    refine (num24 _ _).mono ?_; rintro e w3 ⟨rfl, rfl⟩
    go_wp2_with fail
    refine (right_any _ ⟨9, ⟨#[97]⟩, ⟨#[107]⟩, ⟨#[]⟩, 0, 1⟩).mono ?_; rintro e w4 ⟨rfl, hb4⟩
    rw [e1.out]
    go_wp2_with fail
    refine (num24 _ _).mono ?_; rintro e w5 ⟨rfl, rfl⟩
    go_wp2
    go_ret
    have hB : Below w.heap.size w w2 := below_then hb1 (below_then ((Below.refl w1.heap.size w1).alloc (Nat.le_refl _) _) hb2)
    exact ⟨rfl, ((hB.setCell hlt _).alloc (by simp [World.setCell]; omega) _).trans (hb4.mono (by simp [World.setCell]; omega))⟩
theorem fbase10 : rightR ⟨10, ⟨#[97]⟩, ⟨#[]⟩, ⟨#[]⟩, 0, 0⟩ = 0 := by
  rw [rightR_in (by decide) (by decide) (by simp [namedR, E0])]
  decide
theorem fmod10_3 : rightR ⟨10, ⟨#[97]⟩, ⟨#[]⟩, ⟨#[]⟩, 1, 0⟩ = 1 := rightR_bad (.inr (.inr (.inr (.inl (by simp [namedR])))))
theorem fmod10_4 : rightR ⟨10, ⟨#[97]⟩, ⟨#[]⟩, ⟨#[]⟩, 0, 1⟩ = 1 := rightR_bad (.inr (.inr (.inr (.inr (by simp [namedR])))))
set_option maxRecDepth 100000 in
set_option maxHeartbeats 8000000 in
theorem fields10 (w : World) (which : Int) (h0 : 0 ≤ which) (h4 : which ≤ 4) : Calls Try.prog 9 #[.int .i64 10, .int .i64 which] w fun e w' => e = .returned (.bool true) ∧ Below w.heap.size w w' := by
  have e0 := Lib.hid fbase10
  have hw : which = 0 ∨ which = 1 ∨ which = 2 ∨ which = 3 ∨ which = 4 := by omega
  clear h0 h4
  rcases hw with rfl | rfl | rfl | rfl | rfl
  · go_enter Try.func9, Try.ntmps9
    go_wp2_with fail
    refine (alive24 _).mono ?_; rintro e w1 ⟨rfl, hb1⟩
    go_wp2_with fail
    refine (right_any _ ⟨10, ⟨#[97]⟩, ⟨#[]⟩, ⟨#[]⟩, 0, 0⟩).mono ?_; rintro e w2 ⟨rfl, hb2⟩
    rw [e0.out]
    have hlt := hb1.size
    have hlt2 : w1.heap.size + 1 ≤ w2.heap.size := by have := hb2.size; simpa using this
    have hw2 := (Whole.new w1 38 #[.int .i64 10, .string ⟨#[97]⟩, .string ⟨#[]⟩, .string ⟨#[]⟩, .int .i64 0, .int .i64 0]).below hb2
    have hlt3 := hw2.lt
    have b0 := hw2.cell 0
    have f0 := hw2.frozen 0
    have b1 := hw2.cell 1
    have f1 := hw2.frozen 1
    have b2 := hw2.cell 2
    have f2 := hw2.frozen 2
    have b3 := hw2.cell 3
    have f3 := hw2.frozen 3
    have b4 := hw2.cell 4
    have f4 := hw2.frozen 4
    have b5 := hw2.cell 5
    have f5 := hw2.frozen 5
    go_wp2_with fail
    refine (num24 _ _).mono ?_; rintro e w3 ⟨rfl, rfl⟩
    go_wp2_with fail
    go_ret
    have hB : Below w.heap.size w w2 := below_then hb1 (below_then ((Below.refl w1.heap.size w1).alloc (Nat.le_refl _) _) hb2)
    exact ⟨rfl, hB.alloc (by omega) _⟩
  · go_enter Try.func9, Try.ntmps9
    go_wp2_with fail
    refine (alive24 _).mono ?_; rintro e w1 ⟨rfl, hb1⟩
    go_wp2_with fail
    refine (right_any _ ⟨10, ⟨#[97]⟩, ⟨#[]⟩, ⟨#[]⟩, 0, 0⟩).mono ?_; rintro e w2 ⟨rfl, hb2⟩
    rw [e0.out]
    have hlt := hb1.size
    have hlt2 : w1.heap.size + 1 ≤ w2.heap.size := by have := hb2.size; simpa using this
    have hw2 := (Whole.new w1 38 #[.int .i64 10, .string ⟨#[97]⟩, .string ⟨#[]⟩, .string ⟨#[]⟩, .int .i64 0, .int .i64 0]).below hb2
    have hlt3 := hw2.lt
    have b0 := hw2.cell 0
    have f0 := hw2.frozen 0
    have b1 := hw2.cell 1
    have f1 := hw2.frozen 1
    have b2 := hw2.cell 2
    have f2 := hw2.frozen 2
    have b3 := hw2.cell 3
    have f3 := hw2.frozen 3
    have b4 := hw2.cell 4
    have f4 := hw2.frozen 4
    have b5 := hw2.cell 5
    have f5 := hw2.frozen 5
    go_wp2_with fail
    refine (num24 _ _).mono ?_; rintro e w3 ⟨rfl, rfl⟩
    go_wp2_with fail
    go_ret
    have hB : Below w.heap.size w w2 := below_then hb1 (below_then ((Below.refl w1.heap.size w1).alloc (Nat.le_refl _) _) hb2)
    exact ⟨rfl, hB.alloc (by omega) _⟩
  · go_enter Try.func9, Try.ntmps9
    go_wp2_with fail
    refine (alive24 _).mono ?_; rintro e w1 ⟨rfl, hb1⟩
    go_wp2_with fail
    refine (right_any _ ⟨10, ⟨#[97]⟩, ⟨#[]⟩, ⟨#[]⟩, 0, 0⟩).mono ?_; rintro e w2 ⟨rfl, hb2⟩
    rw [e0.out]
    have hlt := hb1.size
    have hlt2 : w1.heap.size + 1 ≤ w2.heap.size := by have := hb2.size; simpa using this
    have hw2 := (Whole.new w1 38 #[.int .i64 10, .string ⟨#[97]⟩, .string ⟨#[]⟩, .string ⟨#[]⟩, .int .i64 0, .int .i64 0]).below hb2
    have hlt3 := hw2.lt
    have b0 := hw2.cell 0
    have f0 := hw2.frozen 0
    have b1 := hw2.cell 1
    have f1 := hw2.frozen 1
    have b2 := hw2.cell 2
    have f2 := hw2.frozen 2
    have b3 := hw2.cell 3
    have f3 := hw2.frozen 3
    have b4 := hw2.cell 4
    have f4 := hw2.frozen 4
    have b5 := hw2.cell 5
    have f5 := hw2.frozen 5
    go_wp2_with fail
    refine (num24 _ _).mono ?_; rintro e w3 ⟨rfl, rfl⟩
    go_wp2_with fail
    go_ret
    have hB : Below w.heap.size w w2 := below_then hb1 (below_then ((Below.refl w1.heap.size w1).alloc (Nat.le_refl _) _) hb2)
    exact ⟨rfl, hB.alloc (by omega) _⟩
  · have e1 := Lib.hid fmod10_3
    go_enter Try.func9, Try.ntmps9
    go_wp2_with fail
    refine (alive24 _).mono ?_; rintro e w1 ⟨rfl, hb1⟩
    go_wp2_with fail
    refine (right_any _ ⟨10, ⟨#[97]⟩, ⟨#[]⟩, ⟨#[]⟩, 0, 0⟩).mono ?_; rintro e w2 ⟨rfl, hb2⟩
    rw [e0.out]
    have hlt := hb1.size
    have hlt2 : w1.heap.size + 1 ≤ w2.heap.size := by have := hb2.size; simpa using this
    have hw2 := (Whole.new w1 38 #[.int .i64 10, .string ⟨#[97]⟩, .string ⟨#[]⟩, .string ⟨#[]⟩, .int .i64 0, .int .i64 0]).below hb2
    have hlt3 := hw2.lt
    have b0 := hw2.cell 0
    have f0 := hw2.frozen 0
    have b1 := hw2.cell 1
    have f1 := hw2.frozen 1
    have b2 := hw2.cell 2
    have f2 := hw2.frozen 2
    have b3 := hw2.cell 3
    have f3 := hw2.frozen 3
    have b4 := hw2.cell 4
    have f4 := hw2.frozen 4
    have b5 := hw2.cell 5
    have f5 := hw2.frozen 5
    go_wp2_with fail
    refine (num24 _ _).mono ?_; rintro e w3 ⟨rfl, rfl⟩
    go_wp2_with fail
    refine (right_any _ ⟨10, ⟨#[97]⟩, ⟨#[]⟩, ⟨#[]⟩, 1, 0⟩).mono ?_; rintro e w4 ⟨rfl, hb4⟩
    rw [e1.out]
    go_wp2_with fail
    refine (num24 _ _).mono ?_; rintro e w5 ⟨rfl, rfl⟩
    go_wp2
    go_ret
    have hB : Below w.heap.size w w2 := below_then hb1 (below_then ((Below.refl w1.heap.size w1).alloc (Nat.le_refl _) _) hb2)
    exact ⟨rfl, ((hB.setCell hlt _).alloc (by simp [World.setCell]; omega) _).trans (hb4.mono (by simp [World.setCell]; omega))⟩
  · have e1 := Lib.hid fmod10_4
    go_enter Try.func9, Try.ntmps9
    go_wp2_with fail
    refine (alive24 _).mono ?_; rintro e w1 ⟨rfl, hb1⟩
    go_wp2_with fail
    refine (right_any _ ⟨10, ⟨#[97]⟩, ⟨#[]⟩, ⟨#[]⟩, 0, 0⟩).mono ?_; rintro e w2 ⟨rfl, hb2⟩
    rw [e0.out]
    have hlt := hb1.size
    have hlt2 : w1.heap.size + 1 ≤ w2.heap.size := by have := hb2.size; simpa using this
    have hw2 := (Whole.new w1 38 #[.int .i64 10, .string ⟨#[97]⟩, .string ⟨#[]⟩, .string ⟨#[]⟩, .int .i64 0, .int .i64 0]).below hb2
    have hlt3 := hw2.lt
    have b0 := hw2.cell 0
    have f0 := hw2.frozen 0
    have b1 := hw2.cell 1
    have f1 := hw2.frozen 1
    have b2 := hw2.cell 2
    have f2 := hw2.frozen 2
    have b3 := hw2.cell 3
    have f3 := hw2.frozen 3
    have b4 := hw2.cell 4
    have f4 := hw2.frozen 4
    have b5 := hw2.cell 5
    have f5 := hw2.frozen 5
    go_wp2_with fail
    refine (num24 _ _).mono ?_; rintro e w3 ⟨rfl, rfl⟩
    go_wp2_with fail
    refine (right_any _ ⟨10, ⟨#[97]⟩, ⟨#[]⟩, ⟨#[]⟩, 0, 1⟩).mono ?_; rintro e w4 ⟨rfl, hb4⟩
    rw [e1.out]
    go_wp2_with fail
    refine (num24 _ _).mono ?_; rintro e w5 ⟨rfl, rfl⟩
    go_wp2
    go_ret
    have hB : Below w.heap.size w w2 := below_then hb1 (below_then ((Below.refl w1.heap.size w1).alloc (Nat.le_refl _) _) hb2)
    exact ⟨rfl, ((hB.setCell hlt _).alloc (by simp [World.setCell]; omega) _).trans (hb4.mono (by simp [World.setCell]; omega))⟩
theorem fbase11 : rightR ⟨11, ⟨#[97]⟩, ⟨#[]⟩, ⟨#[]⟩, 0, 0⟩ = 0 := by
  rw [rightR_in (by decide) (by decide) (by simp [namedR, E0])]
  decide
theorem fmod11_3 : rightR ⟨11, ⟨#[97]⟩, ⟨#[]⟩, ⟨#[]⟩, 1, 0⟩ = 1 := rightR_bad (.inr (.inr (.inr (.inl (by simp [namedR])))))
set_option maxRecDepth 100000 in
set_option maxHeartbeats 8000000 in
theorem fields11 (w : World) (which : Int) (h0 : 0 ≤ which) (h4 : which ≤ 4) : Calls Try.prog 9 #[.int .i64 11, .int .i64 which] w fun e w' => e = .returned (.bool true) ∧ Below w.heap.size w w' := by
  have e0 := Lib.hid fbase11
  have hw : which = 0 ∨ which = 1 ∨ which = 2 ∨ which = 3 ∨ which = 4 := by omega
  clear h0 h4
  rcases hw with rfl | rfl | rfl | rfl | rfl
  · go_enter Try.func9, Try.ntmps9
    go_wp2_with fail
    refine (alive24 _).mono ?_; rintro e w1 ⟨rfl, hb1⟩
    go_wp2_with fail
    refine (right_any _ ⟨11, ⟨#[97]⟩, ⟨#[]⟩, ⟨#[]⟩, 0, 0⟩).mono ?_; rintro e w2 ⟨rfl, hb2⟩
    rw [e0.out]
    have hlt := hb1.size
    have hlt2 : w1.heap.size + 1 ≤ w2.heap.size := by have := hb2.size; simpa using this
    have hw2 := (Whole.new w1 38 #[.int .i64 11, .string ⟨#[97]⟩, .string ⟨#[]⟩, .string ⟨#[]⟩, .int .i64 0, .int .i64 0]).below hb2
    have hlt3 := hw2.lt
    have b0 := hw2.cell 0
    have f0 := hw2.frozen 0
    have b1 := hw2.cell 1
    have f1 := hw2.frozen 1
    have b2 := hw2.cell 2
    have f2 := hw2.frozen 2
    have b3 := hw2.cell 3
    have f3 := hw2.frozen 3
    have b4 := hw2.cell 4
    have f4 := hw2.frozen 4
    have b5 := hw2.cell 5
    have f5 := hw2.frozen 5
    go_wp2_with fail
    refine (num24 _ _).mono ?_; rintro e w3 ⟨rfl, rfl⟩
    go_wp2_with fail
    go_ret
    have hB : Below w.heap.size w w2 := below_then hb1 (below_then ((Below.refl w1.heap.size w1).alloc (Nat.le_refl _) _) hb2)
    exact ⟨rfl, hB.alloc (by omega) _⟩
  · go_enter Try.func9, Try.ntmps9
    go_wp2_with fail
    refine (alive24 _).mono ?_; rintro e w1 ⟨rfl, hb1⟩
    go_wp2_with fail
    refine (right_any _ ⟨11, ⟨#[97]⟩, ⟨#[]⟩, ⟨#[]⟩, 0, 0⟩).mono ?_; rintro e w2 ⟨rfl, hb2⟩
    rw [e0.out]
    have hlt := hb1.size
    have hlt2 : w1.heap.size + 1 ≤ w2.heap.size := by have := hb2.size; simpa using this
    have hw2 := (Whole.new w1 38 #[.int .i64 11, .string ⟨#[97]⟩, .string ⟨#[]⟩, .string ⟨#[]⟩, .int .i64 0, .int .i64 0]).below hb2
    have hlt3 := hw2.lt
    have b0 := hw2.cell 0
    have f0 := hw2.frozen 0
    have b1 := hw2.cell 1
    have f1 := hw2.frozen 1
    have b2 := hw2.cell 2
    have f2 := hw2.frozen 2
    have b3 := hw2.cell 3
    have f3 := hw2.frozen 3
    have b4 := hw2.cell 4
    have f4 := hw2.frozen 4
    have b5 := hw2.cell 5
    have f5 := hw2.frozen 5
    go_wp2_with fail
    refine (num24 _ _).mono ?_; rintro e w3 ⟨rfl, rfl⟩
    go_wp2_with fail
    go_ret
    have hB : Below w.heap.size w w2 := below_then hb1 (below_then ((Below.refl w1.heap.size w1).alloc (Nat.le_refl _) _) hb2)
    exact ⟨rfl, hB.alloc (by omega) _⟩
  · go_enter Try.func9, Try.ntmps9
    go_wp2_with fail
    refine (alive24 _).mono ?_; rintro e w1 ⟨rfl, hb1⟩
    go_wp2_with fail
    refine (right_any _ ⟨11, ⟨#[97]⟩, ⟨#[]⟩, ⟨#[]⟩, 0, 0⟩).mono ?_; rintro e w2 ⟨rfl, hb2⟩
    rw [e0.out]
    have hlt := hb1.size
    have hlt2 : w1.heap.size + 1 ≤ w2.heap.size := by have := hb2.size; simpa using this
    have hw2 := (Whole.new w1 38 #[.int .i64 11, .string ⟨#[97]⟩, .string ⟨#[]⟩, .string ⟨#[]⟩, .int .i64 0, .int .i64 0]).below hb2
    have hlt3 := hw2.lt
    have b0 := hw2.cell 0
    have f0 := hw2.frozen 0
    have b1 := hw2.cell 1
    have f1 := hw2.frozen 1
    have b2 := hw2.cell 2
    have f2 := hw2.frozen 2
    have b3 := hw2.cell 3
    have f3 := hw2.frozen 3
    have b4 := hw2.cell 4
    have f4 := hw2.frozen 4
    have b5 := hw2.cell 5
    have f5 := hw2.frozen 5
    go_wp2_with fail
    refine (num24 _ _).mono ?_; rintro e w3 ⟨rfl, rfl⟩
    go_wp2_with fail
    go_ret
    have hB : Below w.heap.size w w2 := below_then hb1 (below_then ((Below.refl w1.heap.size w1).alloc (Nat.le_refl _) _) hb2)
    exact ⟨rfl, hB.alloc (by omega) _⟩
  · have e1 := Lib.hid fmod11_3
    go_enter Try.func9, Try.ntmps9
    go_wp2_with fail
    refine (alive24 _).mono ?_; rintro e w1 ⟨rfl, hb1⟩
    go_wp2_with fail
    refine (right_any _ ⟨11, ⟨#[97]⟩, ⟨#[]⟩, ⟨#[]⟩, 0, 0⟩).mono ?_; rintro e w2 ⟨rfl, hb2⟩
    rw [e0.out]
    have hlt := hb1.size
    have hlt2 : w1.heap.size + 1 ≤ w2.heap.size := by have := hb2.size; simpa using this
    have hw2 := (Whole.new w1 38 #[.int .i64 11, .string ⟨#[97]⟩, .string ⟨#[]⟩, .string ⟨#[]⟩, .int .i64 0, .int .i64 0]).below hb2
    have hlt3 := hw2.lt
    have b0 := hw2.cell 0
    have f0 := hw2.frozen 0
    have b1 := hw2.cell 1
    have f1 := hw2.frozen 1
    have b2 := hw2.cell 2
    have f2 := hw2.frozen 2
    have b3 := hw2.cell 3
    have f3 := hw2.frozen 3
    have b4 := hw2.cell 4
    have f4 := hw2.frozen 4
    have b5 := hw2.cell 5
    have f5 := hw2.frozen 5
    go_wp2_with fail
    refine (num24 _ _).mono ?_; rintro e w3 ⟨rfl, rfl⟩
    go_wp2_with fail
    refine (right_any _ ⟨11, ⟨#[97]⟩, ⟨#[]⟩, ⟨#[]⟩, 1, 0⟩).mono ?_; rintro e w4 ⟨rfl, hb4⟩
    rw [e1.out]
    go_wp2_with fail
    refine (num24 _ _).mono ?_; rintro e w5 ⟨rfl, rfl⟩
    go_wp2
    go_ret
    have hB : Below w.heap.size w w2 := below_then hb1 (below_then ((Below.refl w1.heap.size w1).alloc (Nat.le_refl _) _) hb2)
    exact ⟨rfl, ((hB.setCell hlt _).alloc (by simp [World.setCell]; omega) _).trans (hb4.mono (by simp [World.setCell]; omega))⟩
  · go_enter Try.func9, Try.ntmps9
    go_wp2_with fail
    refine (alive24 _).mono ?_; rintro e w1 ⟨rfl, hb1⟩
    go_wp2_with fail
    refine (right_any _ ⟨11, ⟨#[97]⟩, ⟨#[]⟩, ⟨#[]⟩, 0, 0⟩).mono ?_; rintro e w2 ⟨rfl, hb2⟩
    rw [e0.out]
    have hlt := hb1.size
    have hlt2 : w1.heap.size + 1 ≤ w2.heap.size := by have := hb2.size; simpa using this
    have hw2 := (Whole.new w1 38 #[.int .i64 11, .string ⟨#[97]⟩, .string ⟨#[]⟩, .string ⟨#[]⟩, .int .i64 0, .int .i64 0]).below hb2
    have hlt3 := hw2.lt
    have b0 := hw2.cell 0
    have f0 := hw2.frozen 0
    have b1 := hw2.cell 1
    have f1 := hw2.frozen 1
    have b2 := hw2.cell 2
    have f2 := hw2.frozen 2
    have b3 := hw2.cell 3
    have f3 := hw2.frozen 3
    have b4 := hw2.cell 4
    have f4 := hw2.frozen 4
    have b5 := hw2.cell 5
    have f5 := hw2.frozen 5
    go_wp2_with fail
    refine (num24 _ _).mono ?_; rintro e w3 ⟨rfl, rfl⟩
    go_wp2_with fail
    go_ret
    have hB : Below w.heap.size w w2 := below_then hb1 (below_then ((Below.refl w1.heap.size w1).alloc (Nat.le_refl _) _) hb2)
    exact ⟨rfl, hB.alloc (by omega) _⟩
theorem fbase12 : rightR ⟨12, ⟨#[97]⟩, ⟨#[]⟩, ⟨#[]⟩, 0, 0⟩ = 0 := by
  rw [rightR_in (by decide) (by decide) (by simp [namedR, E0])]
  decide
theorem fmod12_1 : rightR ⟨12, ⟨#[97]⟩, ⟨#[98]⟩, ⟨#[]⟩, 0, 0⟩ = 1 := rightR_bad (.inr (.inl (by simp [namedR, E0])))
theorem fmod12_2 : rightR ⟨12, ⟨#[97]⟩, ⟨#[]⟩, ⟨#[98]⟩, 0, 0⟩ = 1 := rightR_bad (.inr (.inr (.inl (by simp [namedR, E0]))))
theorem fmod12_3 : rightR ⟨12, ⟨#[97]⟩, ⟨#[]⟩, ⟨#[]⟩, 1, 0⟩ = 1 := rightR_bad (.inr (.inr (.inr (.inl (by simp [namedR])))))
theorem fmod12_4 : rightR ⟨12, ⟨#[97]⟩, ⟨#[]⟩, ⟨#[]⟩, 0, 1⟩ = 1 := rightR_bad (.inr (.inr (.inr (.inr (by simp [namedR])))))
set_option maxRecDepth 100000 in
set_option maxHeartbeats 8000000 in
theorem fields12 (w : World) (which : Int) (h0 : 0 ≤ which) (h4 : which ≤ 4) : Calls Try.prog 9 #[.int .i64 12, .int .i64 which] w fun e w' => e = .returned (.bool true) ∧ Below w.heap.size w w' := by
  have e0 := Lib.hid fbase12
  have hw : which = 0 ∨ which = 1 ∨ which = 2 ∨ which = 3 ∨ which = 4 := by omega
  clear h0 h4
  rcases hw with rfl | rfl | rfl | rfl | rfl
  · go_enter Try.func9, Try.ntmps9
    go_wp2_with fail
    refine (alive24 _).mono ?_; rintro e w1 ⟨rfl, hb1⟩
    go_wp2_with fail
    refine (right_any _ ⟨12, ⟨#[97]⟩, ⟨#[]⟩, ⟨#[]⟩, 0, 0⟩).mono ?_; rintro e w2 ⟨rfl, hb2⟩
    rw [e0.out]
    have hlt := hb1.size
    have hlt2 : w1.heap.size + 1 ≤ w2.heap.size := by have := hb2.size; simpa using this
    have hw2 := (Whole.new w1 38 #[.int .i64 12, .string ⟨#[97]⟩, .string ⟨#[]⟩, .string ⟨#[]⟩, .int .i64 0, .int .i64 0]).below hb2
    have hlt3 := hw2.lt
    have b0 := hw2.cell 0
    have f0 := hw2.frozen 0
    have b1 := hw2.cell 1
    have f1 := hw2.frozen 1
    have b2 := hw2.cell 2
    have f2 := hw2.frozen 2
    have b3 := hw2.cell 3
    have f3 := hw2.frozen 3
    have b4 := hw2.cell 4
    have f4 := hw2.frozen 4
    have b5 := hw2.cell 5
    have f5 := hw2.frozen 5
    go_wp2_with fail
    refine (num24 _ _).mono ?_; rintro e w3 ⟨rfl, rfl⟩
    go_wp2_with fail
    go_ret
    have hB : Below w.heap.size w w2 := below_then hb1 (below_then ((Below.refl w1.heap.size w1).alloc (Nat.le_refl _) _) hb2)
    exact ⟨rfl, hB.alloc (by omega) _⟩
  · have e1 := Lib.hid fmod12_1
    go_enter Try.func9, Try.ntmps9
    go_wp2_with fail
    refine (alive24 _).mono ?_; rintro e w1 ⟨rfl, hb1⟩
    go_wp2_with fail
    refine (right_any _ ⟨12, ⟨#[97]⟩, ⟨#[]⟩, ⟨#[]⟩, 0, 0⟩).mono ?_; rintro e w2 ⟨rfl, hb2⟩
    rw [e0.out]
    have hlt := hb1.size
    have hlt2 : w1.heap.size + 1 ≤ w2.heap.size := by have := hb2.size; simpa using this
    have hw2 := (Whole.new w1 38 #[.int .i64 12, .string ⟨#[97]⟩, .string ⟨#[]⟩, .string ⟨#[]⟩, .int .i64 0, .int .i64 0]).below hb2
    have hlt3 := hw2.lt
    have b0 := hw2.cell 0
    have f0 := hw2.frozen 0
    have b1 := hw2.cell 1
    have f1 := hw2.frozen 1
    have b2 := hw2.cell 2
    have f2 := hw2.frozen 2
    have b3 := hw2.cell 3
    have f3 := hw2.frozen 3
    have b4 := hw2.cell 4
    have f4 := hw2.frozen 4
    have b5 := hw2.cell 5
    have f5 := hw2.frozen 5
    go_wp2_with fail
    refine (num24 _ _).mono ?_; rintro e w3 ⟨rfl, rfl⟩
    go_wp2_with fail
    refine (right_any _ ⟨12, ⟨#[97]⟩, ⟨#[98]⟩, ⟨#[]⟩, 0, 0⟩).mono ?_; rintro e w4 ⟨rfl, hb4⟩
    rw [e1.out]
    go_wp2_with fail
    refine (num24 _ _).mono ?_; rintro e w5 ⟨rfl, rfl⟩
    go_wp2
    go_ret
    have hB : Below w.heap.size w w2 := below_then hb1 (below_then ((Below.refl w1.heap.size w1).alloc (Nat.le_refl _) _) hb2)
    exact ⟨rfl, ((hB.setCell hlt _).alloc (by simp [World.setCell]; omega) _).trans (hb4.mono (by simp [World.setCell]; omega))⟩
  · have e1 := Lib.hid fmod12_2
    go_enter Try.func9, Try.ntmps9
    go_wp2_with fail
    refine (alive24 _).mono ?_; rintro e w1 ⟨rfl, hb1⟩
    go_wp2_with fail
    refine (right_any _ ⟨12, ⟨#[97]⟩, ⟨#[]⟩, ⟨#[]⟩, 0, 0⟩).mono ?_; rintro e w2 ⟨rfl, hb2⟩
    rw [e0.out]
    have hlt := hb1.size
    have hlt2 : w1.heap.size + 1 ≤ w2.heap.size := by have := hb2.size; simpa using this
    have hw2 := (Whole.new w1 38 #[.int .i64 12, .string ⟨#[97]⟩, .string ⟨#[]⟩, .string ⟨#[]⟩, .int .i64 0, .int .i64 0]).below hb2
    have hlt3 := hw2.lt
    have b0 := hw2.cell 0
    have f0 := hw2.frozen 0
    have b1 := hw2.cell 1
    have f1 := hw2.frozen 1
    have b2 := hw2.cell 2
    have f2 := hw2.frozen 2
    have b3 := hw2.cell 3
    have f3 := hw2.frozen 3
    have b4 := hw2.cell 4
    have f4 := hw2.frozen 4
    have b5 := hw2.cell 5
    have f5 := hw2.frozen 5
    go_wp2_with fail
    refine (num24 _ _).mono ?_; rintro e w3 ⟨rfl, rfl⟩
    go_wp2_with fail
    refine (right_any _ ⟨12, ⟨#[97]⟩, ⟨#[]⟩, ⟨#[98]⟩, 0, 0⟩).mono ?_; rintro e w4 ⟨rfl, hb4⟩
    rw [e1.out]
    go_wp2_with fail
    refine (num24 _ _).mono ?_; rintro e w5 ⟨rfl, rfl⟩
    go_wp2
    go_ret
    have hB : Below w.heap.size w w2 := below_then hb1 (below_then ((Below.refl w1.heap.size w1).alloc (Nat.le_refl _) _) hb2)
    exact ⟨rfl, ((hB.setCell hlt _).alloc (by simp [World.setCell]; omega) _).trans (hb4.mono (by simp [World.setCell]; omega))⟩
  · have e1 := Lib.hid fmod12_3
    go_enter Try.func9, Try.ntmps9
    go_wp2_with fail
    refine (alive24 _).mono ?_; rintro e w1 ⟨rfl, hb1⟩
    go_wp2_with fail
    refine (right_any _ ⟨12, ⟨#[97]⟩, ⟨#[]⟩, ⟨#[]⟩, 0, 0⟩).mono ?_; rintro e w2 ⟨rfl, hb2⟩
    rw [e0.out]
    have hlt := hb1.size
    have hlt2 : w1.heap.size + 1 ≤ w2.heap.size := by have := hb2.size; simpa using this
    have hw2 := (Whole.new w1 38 #[.int .i64 12, .string ⟨#[97]⟩, .string ⟨#[]⟩, .string ⟨#[]⟩, .int .i64 0, .int .i64 0]).below hb2
    have hlt3 := hw2.lt
    have b0 := hw2.cell 0
    have f0 := hw2.frozen 0
    have b1 := hw2.cell 1
    have f1 := hw2.frozen 1
    have b2 := hw2.cell 2
    have f2 := hw2.frozen 2
    have b3 := hw2.cell 3
    have f3 := hw2.frozen 3
    have b4 := hw2.cell 4
    have f4 := hw2.frozen 4
    have b5 := hw2.cell 5
    have f5 := hw2.frozen 5
    go_wp2_with fail
    refine (num24 _ _).mono ?_; rintro e w3 ⟨rfl, rfl⟩
    go_wp2_with fail
    refine (right_any _ ⟨12, ⟨#[97]⟩, ⟨#[]⟩, ⟨#[]⟩, 1, 0⟩).mono ?_; rintro e w4 ⟨rfl, hb4⟩
    rw [e1.out]
    go_wp2_with fail
    refine (num24 _ _).mono ?_; rintro e w5 ⟨rfl, rfl⟩
    go_wp2
    go_ret
    have hB : Below w.heap.size w w2 := below_then hb1 (below_then ((Below.refl w1.heap.size w1).alloc (Nat.le_refl _) _) hb2)
    exact ⟨rfl, ((hB.setCell hlt _).alloc (by simp [World.setCell]; omega) _).trans (hb4.mono (by simp [World.setCell]; omega))⟩
  · have e1 := Lib.hid fmod12_4
    go_enter Try.func9, Try.ntmps9
    go_wp2_with fail
    refine (alive24 _).mono ?_; rintro e w1 ⟨rfl, hb1⟩
    go_wp2_with fail
    refine (right_any _ ⟨12, ⟨#[97]⟩, ⟨#[]⟩, ⟨#[]⟩, 0, 0⟩).mono ?_; rintro e w2 ⟨rfl, hb2⟩
    rw [e0.out]
    have hlt := hb1.size
    have hlt2 : w1.heap.size + 1 ≤ w2.heap.size := by have := hb2.size; simpa using this
    have hw2 := (Whole.new w1 38 #[.int .i64 12, .string ⟨#[97]⟩, .string ⟨#[]⟩, .string ⟨#[]⟩, .int .i64 0, .int .i64 0]).below hb2
    have hlt3 := hw2.lt
    have b0 := hw2.cell 0
    have f0 := hw2.frozen 0
    have b1 := hw2.cell 1
    have f1 := hw2.frozen 1
    have b2 := hw2.cell 2
    have f2 := hw2.frozen 2
    have b3 := hw2.cell 3
    have f3 := hw2.frozen 3
    have b4 := hw2.cell 4
    have f4 := hw2.frozen 4
    have b5 := hw2.cell 5
    have f5 := hw2.frozen 5
    go_wp2_with fail
    refine (num24 _ _).mono ?_; rintro e w3 ⟨rfl, rfl⟩
    go_wp2_with fail
    refine (right_any _ ⟨12, ⟨#[97]⟩, ⟨#[]⟩, ⟨#[]⟩, 0, 1⟩).mono ?_; rintro e w4 ⟨rfl, hb4⟩
    rw [e1.out]
    go_wp2_with fail
    refine (num24 _ _).mono ?_; rintro e w5 ⟨rfl, rfl⟩
    go_wp2
    go_ret
    have hB : Below w.heap.size w w2 := below_then hb1 (below_then ((Below.refl w1.heap.size w1).alloc (Nat.le_refl _) _) hb2)
    exact ⟨rfl, ((hB.setCell hlt _).alloc (by simp [World.setCell]; omega) _).trans (hb4.mono (by simp [World.setCell]; omega))⟩
theorem fbase13 : rightR ⟨13, ⟨#[97]⟩, ⟨#[]⟩, ⟨#[]⟩, 0, 0⟩ = 0 := by
  rw [rightR_in (by decide) (by decide) (by simp [namedR, E0])]
  decide
theorem fmod13_2 : rightR ⟨13, ⟨#[97]⟩, ⟨#[]⟩, ⟨#[98]⟩, 0, 0⟩ = 1 := rightR_bad (.inr (.inr (.inl (by simp [namedR, E0]))))
theorem fmod13_3 : rightR ⟨13, ⟨#[97]⟩, ⟨#[]⟩, ⟨#[]⟩, 1, 0⟩ = 1 := rightR_bad (.inr (.inr (.inr (.inl (by simp [namedR])))))
theorem fmod13_4 : rightR ⟨13, ⟨#[97]⟩, ⟨#[]⟩, ⟨#[]⟩, 0, 1⟩ = 1 := rightR_bad (.inr (.inr (.inr (.inr (by simp [namedR])))))
set_option maxRecDepth 100000 in
set_option maxHeartbeats 8000000 in
theorem fields13 (w : World) (which : Int) (h0 : 0 ≤ which) (h4 : which ≤ 4) : Calls Try.prog 9 #[.int .i64 13, .int .i64 which] w fun e w' => e = .returned (.bool true) ∧ Below w.heap.size w w' := by
  have e0 := Lib.hid fbase13
  have hw : which = 0 ∨ which = 1 ∨ which = 2 ∨ which = 3 ∨ which = 4 := by omega
  clear h0 h4
  rcases hw with rfl | rfl | rfl | rfl | rfl
  · go_enter Try.func9, Try.ntmps9
    go_wp2_with fail
    refine (alive24 _).mono ?_; rintro e w1 ⟨rfl, hb1⟩
    go_wp2_with fail
    refine (right_any _ ⟨13, ⟨#[97]⟩, ⟨#[]⟩, ⟨#[]⟩, 0, 0⟩).mono ?_; rintro e w2 ⟨rfl, hb2⟩
    rw [e0.out]
    have hlt := hb1.size
    have hlt2 : w1.heap.size + 1 ≤ w2.heap.size := by have := hb2.size; simpa using this
    have hw2 := (Whole.new w1 38 #[.int .i64 13, .string ⟨#[97]⟩, .string ⟨#[]⟩, .string ⟨#[]⟩, .int .i64 0, .int .i64 0]).below hb2
    have hlt3 := hw2.lt
    have b0 := hw2.cell 0
    have f0 := hw2.frozen 0
    have b1 := hw2.cell 1
    have f1 := hw2.frozen 1
    have b2 := hw2.cell 2
    have f2 := hw2.frozen 2
    have b3 := hw2.cell 3
    have f3 := hw2.frozen 3
    have b4 := hw2.cell 4
    have f4 := hw2.frozen 4
    have b5 := hw2.cell 5
    have f5 := hw2.frozen 5
    go_wp2_with fail
    refine (num24 _ _).mono ?_; rintro e w3 ⟨rfl, rfl⟩
    go_wp2_with fail
    go_ret
    have hB : Below w.heap.size w w2 := below_then hb1 (below_then ((Below.refl w1.heap.size w1).alloc (Nat.le_refl _) _) hb2)
    exact ⟨rfl, hB.alloc (by omega) _⟩
  · go_enter Try.func9, Try.ntmps9
    go_wp2_with fail
    refine (alive24 _).mono ?_; rintro e w1 ⟨rfl, hb1⟩
    go_wp2_with fail
    refine (right_any _ ⟨13, ⟨#[97]⟩, ⟨#[]⟩, ⟨#[]⟩, 0, 0⟩).mono ?_; rintro e w2 ⟨rfl, hb2⟩
    rw [e0.out]
    have hlt := hb1.size
    have hlt2 : w1.heap.size + 1 ≤ w2.heap.size := by have := hb2.size; simpa using this
    have hw2 := (Whole.new w1 38 #[.int .i64 13, .string ⟨#[97]⟩, .string ⟨#[]⟩, .string ⟨#[]⟩, .int .i64 0, .int .i64 0]).below hb2
    have hlt3 := hw2.lt
    have b0 := hw2.cell 0
    have f0 := hw2.frozen 0
    have b1 := hw2.cell 1
    have f1 := hw2.frozen 1
    have b2 := hw2.cell 2
    have f2 := hw2.frozen 2
    have b3 := hw2.cell 3
    have f3 := hw2.frozen 3
    have b4 := hw2.cell 4
    have f4 := hw2.frozen 4
    have b5 := hw2.cell 5
    have f5 := hw2.frozen 5
    go_wp2_with fail
    refine (num24 _ _).mono ?_; rintro e w3 ⟨rfl, rfl⟩
    go_wp2_with fail
    go_ret
    have hB : Below w.heap.size w w2 := below_then hb1 (below_then ((Below.refl w1.heap.size w1).alloc (Nat.le_refl _) _) hb2)
    exact ⟨rfl, hB.alloc (by omega) _⟩
  · have e1 := Lib.hid fmod13_2
    go_enter Try.func9, Try.ntmps9
    go_wp2_with fail
    refine (alive24 _).mono ?_; rintro e w1 ⟨rfl, hb1⟩
    go_wp2_with fail
    refine (right_any _ ⟨13, ⟨#[97]⟩, ⟨#[]⟩, ⟨#[]⟩, 0, 0⟩).mono ?_; rintro e w2 ⟨rfl, hb2⟩
    rw [e0.out]
    have hlt := hb1.size
    have hlt2 : w1.heap.size + 1 ≤ w2.heap.size := by have := hb2.size; simpa using this
    have hw2 := (Whole.new w1 38 #[.int .i64 13, .string ⟨#[97]⟩, .string ⟨#[]⟩, .string ⟨#[]⟩, .int .i64 0, .int .i64 0]).below hb2
    have hlt3 := hw2.lt
    have b0 := hw2.cell 0
    have f0 := hw2.frozen 0
    have b1 := hw2.cell 1
    have f1 := hw2.frozen 1
    have b2 := hw2.cell 2
    have f2 := hw2.frozen 2
    have b3 := hw2.cell 3
    have f3 := hw2.frozen 3
    have b4 := hw2.cell 4
    have f4 := hw2.frozen 4
    have b5 := hw2.cell 5
    have f5 := hw2.frozen 5
    go_wp2_with fail
    refine (num24 _ _).mono ?_; rintro e w3 ⟨rfl, rfl⟩
    go_wp2_with fail
    refine (right_any _ ⟨13, ⟨#[97]⟩, ⟨#[]⟩, ⟨#[98]⟩, 0, 0⟩).mono ?_; rintro e w4 ⟨rfl, hb4⟩
    rw [e1.out]
    go_wp2_with fail
    refine (num24 _ _).mono ?_; rintro e w5 ⟨rfl, rfl⟩
    go_wp2
    go_ret
    have hB : Below w.heap.size w w2 := below_then hb1 (below_then ((Below.refl w1.heap.size w1).alloc (Nat.le_refl _) _) hb2)
    exact ⟨rfl, ((hB.setCell hlt _).alloc (by simp [World.setCell]; omega) _).trans (hb4.mono (by simp [World.setCell]; omega))⟩
  · have e1 := Lib.hid fmod13_3
    go_enter Try.func9, Try.ntmps9
    go_wp2_with fail
    refine (alive24 _).mono ?_; rintro e w1 ⟨rfl, hb1⟩
    go_wp2_with fail
    refine (right_any _ ⟨13, ⟨#[97]⟩, ⟨#[]⟩, ⟨#[]⟩, 0, 0⟩).mono ?_; rintro e w2 ⟨rfl, hb2⟩
    rw [e0.out]
    have hlt := hb1.size
    have hlt2 : w1.heap.size + 1 ≤ w2.heap.size := by have := hb2.size; simpa using this
    have hw2 := (Whole.new w1 38 #[.int .i64 13, .string ⟨#[97]⟩, .string ⟨#[]⟩, .string ⟨#[]⟩, .int .i64 0, .int .i64 0]).below hb2
    have hlt3 := hw2.lt
    have b0 := hw2.cell 0
    have f0 := hw2.frozen 0
    have b1 := hw2.cell 1
    have f1 := hw2.frozen 1
    have b2 := hw2.cell 2
    have f2 := hw2.frozen 2
    have b3 := hw2.cell 3
    have f3 := hw2.frozen 3
    have b4 := hw2.cell 4
    have f4 := hw2.frozen 4
    have b5 := hw2.cell 5
    have f5 := hw2.frozen 5
    go_wp2_with fail
    refine (num24 _ _).mono ?_; rintro e w3 ⟨rfl, rfl⟩
    go_wp2_with fail
    refine (right_any _ ⟨13, ⟨#[97]⟩, ⟨#[]⟩, ⟨#[]⟩, 1, 0⟩).mono ?_; rintro e w4 ⟨rfl, hb4⟩
    rw [e1.out]
    go_wp2_with fail
    refine (num24 _ _).mono ?_; rintro e w5 ⟨rfl, rfl⟩
    go_wp2
    go_ret
    have hB : Below w.heap.size w w2 := below_then hb1 (below_then ((Below.refl w1.heap.size w1).alloc (Nat.le_refl _) _) hb2)
    exact ⟨rfl, ((hB.setCell hlt _).alloc (by simp [World.setCell]; omega) _).trans (hb4.mono (by simp [World.setCell]; omega))⟩
  · have e1 := Lib.hid fmod13_4
    go_enter Try.func9, Try.ntmps9
    go_wp2_with fail
    refine (alive24 _).mono ?_; rintro e w1 ⟨rfl, hb1⟩
    go_wp2_with fail
    refine (right_any _ ⟨13, ⟨#[97]⟩, ⟨#[]⟩, ⟨#[]⟩, 0, 0⟩).mono ?_; rintro e w2 ⟨rfl, hb2⟩
    rw [e0.out]
    have hlt := hb1.size
    have hlt2 : w1.heap.size + 1 ≤ w2.heap.size := by have := hb2.size; simpa using this
    have hw2 := (Whole.new w1 38 #[.int .i64 13, .string ⟨#[97]⟩, .string ⟨#[]⟩, .string ⟨#[]⟩, .int .i64 0, .int .i64 0]).below hb2
    have hlt3 := hw2.lt
    have b0 := hw2.cell 0
    have f0 := hw2.frozen 0
    have b1 := hw2.cell 1
    have f1 := hw2.frozen 1
    have b2 := hw2.cell 2
    have f2 := hw2.frozen 2
    have b3 := hw2.cell 3
    have f3 := hw2.frozen 3
    have b4 := hw2.cell 4
    have f4 := hw2.frozen 4
    have b5 := hw2.cell 5
    have f5 := hw2.frozen 5
    go_wp2_with fail
    refine (num24 _ _).mono ?_; rintro e w3 ⟨rfl, rfl⟩
    go_wp2_with fail
    refine (right_any _ ⟨13, ⟨#[97]⟩, ⟨#[]⟩, ⟨#[]⟩, 0, 1⟩).mono ?_; rintro e w4 ⟨rfl, hb4⟩
    rw [e1.out]
    go_wp2_with fail
    refine (num24 _ _).mono ?_; rintro e w5 ⟨rfl, rfl⟩
    go_wp2
    go_ret
    have hB : Below w.heap.size w w2 := below_then hb1 (below_then ((Below.refl w1.heap.size w1).alloc (Nat.le_refl _) _) hb2)
    exact ⟨rfl, ((hB.setCell hlt _).alloc (by simp [World.setCell]; omega) _).trans (hb4.mono (by simp [World.setCell]; omega))⟩
theorem fbase14 : rightR ⟨14, ⟨#[97]⟩, ⟨#[]⟩, ⟨#[]⟩, 0, 0⟩ = 0 := by
  rw [rightR_in (by decide) (by decide) (by simp [namedR, E0])]
  decide
theorem fmod14_1 : rightR ⟨14, ⟨#[97]⟩, ⟨#[98]⟩, ⟨#[]⟩, 0, 0⟩ = 1 := rightR_bad (.inr (.inl (by simp [namedR, E0])))
theorem fmod14_2 : rightR ⟨14, ⟨#[97]⟩, ⟨#[]⟩, ⟨#[98]⟩, 0, 0⟩ = 1 := rightR_bad (.inr (.inr (.inl (by simp [namedR, E0]))))
theorem fmod14_3 : rightR ⟨14, ⟨#[97]⟩, ⟨#[]⟩, ⟨#[]⟩, 1, 0⟩ = 1 := rightR_bad (.inr (.inr (.inr (.inl (by simp [namedR])))))
theorem fmod14_4 : rightR ⟨14, ⟨#[97]⟩, ⟨#[]⟩, ⟨#[]⟩, 0, 1⟩ = 1 := rightR_bad (.inr (.inr (.inr (.inr (by simp [namedR])))))
set_option maxRecDepth 100000 in
set_option maxHeartbeats 8000000 in
theorem fields14 (w : World) (which : Int) (h0 : 0 ≤ which) (h4 : which ≤ 4) : Calls Try.prog 9 #[.int .i64 14, .int .i64 which] w fun e w' => e = .returned (.bool true) ∧ Below w.heap.size w w' := by
  have e0 := Lib.hid fbase14
  have hw : which = 0 ∨ which = 1 ∨ which = 2 ∨ which = 3 ∨ which = 4 := by omega
  clear h0 h4
  rcases hw with rfl | rfl | rfl | rfl | rfl
  · go_enter Try.func9, Try.ntmps9
    go_wp2_with fail
    refine (alive24 _).mono ?_; rintro e w1 ⟨rfl, hb1⟩
    go_wp2_with fail
    refine (right_any _ ⟨14, ⟨#[97]⟩, ⟨#[]⟩, ⟨#[]⟩, 0, 0⟩).mono ?_; rintro e w2 ⟨rfl, hb2⟩
    rw [e0.out]
    have hlt := hb1.size
    have hlt2 : w1.heap.size + 1 ≤ w2.heap.size := by have := hb2.size; simpa using this
    have hw2 := (Whole.new w1 38 #[.int .i64 14, .string ⟨#[97]⟩, .string ⟨#[]⟩, .string ⟨#[]⟩, .int .i64 0, .int .i64 0]).below hb2
    have hlt3 := hw2.lt
    have b0 := hw2.cell 0
    have f0 := hw2.frozen 0
    have b1 := hw2.cell 1
    have f1 := hw2.frozen 1
    have b2 := hw2.cell 2
    have f2 := hw2.frozen 2
    have b3 := hw2.cell 3
    have f3 := hw2.frozen 3
    have b4 := hw2.cell 4
    have f4 := hw2.frozen 4
    have b5 := hw2.cell 5
    have f5 := hw2.frozen 5
    go_wp2_with fail
    refine (num24 _ _).mono ?_; rintro e w3 ⟨rfl, rfl⟩
    go_wp2_with fail
    go_ret
    have hB : Below w.heap.size w w2 := below_then hb1 (below_then ((Below.refl w1.heap.size w1).alloc (Nat.le_refl _) _) hb2)
    exact ⟨rfl, hB.alloc (by omega) _⟩
  · have e1 := Lib.hid fmod14_1
    go_enter Try.func9, Try.ntmps9
    go_wp2_with fail
    refine (alive24 _).mono ?_; rintro e w1 ⟨rfl, hb1⟩
    go_wp2_with fail
    refine (right_any _ ⟨14, ⟨#[97]⟩, ⟨#[]⟩, ⟨#[]⟩, 0, 0⟩).mono ?_; rintro e w2 ⟨rfl, hb2⟩
    rw [e0.out]
    have hlt := hb1.size
    have hlt2 : w1.heap.size + 1 ≤ w2.heap.size := by have := hb2.size; simpa using this
    have hw2 := (Whole.new w1 38 #[.int .i64 14, .string ⟨#[97]⟩, .string ⟨#[]⟩, .string ⟨#[]⟩, .int .i64 0, .int .i64 0]).below hb2
    have hlt3 := hw2.lt
    have b0 := hw2.cell 0
    have f0 := hw2.frozen 0
    have b1 := hw2.cell 1
    have f1 := hw2.frozen 1
    have b2 := hw2.cell 2
    have f2 := hw2.frozen 2
    have b3 := hw2.cell 3
    have f3 := hw2.frozen 3
    have b4 := hw2.cell 4
    have f4 := hw2.frozen 4
    have b5 := hw2.cell 5
    have f5 := hw2.frozen 5
    go_wp2_with fail
    refine (num24 _ _).mono ?_; rintro e w3 ⟨rfl, rfl⟩
    go_wp2_with fail
    refine (right_any _ ⟨14, ⟨#[97]⟩, ⟨#[98]⟩, ⟨#[]⟩, 0, 0⟩).mono ?_; rintro e w4 ⟨rfl, hb4⟩
    rw [e1.out]
    go_wp2_with fail
    refine (num24 _ _).mono ?_; rintro e w5 ⟨rfl, rfl⟩
    go_wp2
    go_ret
    have hB : Below w.heap.size w w2 := below_then hb1 (below_then ((Below.refl w1.heap.size w1).alloc (Nat.le_refl _) _) hb2)
    exact ⟨rfl, ((hB.setCell hlt _).alloc (by simp [World.setCell]; omega) _).trans (hb4.mono (by simp [World.setCell]; omega))⟩
  · have e1 := Lib.hid fmod14_2
    go_enter Try.func9, Try.ntmps9
    go_wp2_with fail
    refine (alive24 _).mono ?_; rintro e w1 ⟨rfl, hb1⟩
    go_wp2_with fail
    refine (right_any _ ⟨14, ⟨#[97]⟩, ⟨#[]⟩, ⟨#[]⟩, 0, 0⟩).mono ?_; rintro e w2 ⟨rfl, hb2⟩
    rw [e0.out]
    have hlt := hb1.size
    have hlt2 : w1.heap.size + 1 ≤ w2.heap.size := by have := hb2.size; simpa using this
    have hw2 := (Whole.new w1 38 #[.int .i64 14, .string ⟨#[97]⟩, .string ⟨#[]⟩, .string ⟨#[]⟩, .int .i64 0, .int .i64 0]).below hb2
    have hlt3 := hw2.lt
    have b0 := hw2.cell 0
    have f0 := hw2.frozen 0
    have b1 := hw2.cell 1
    have f1 := hw2.frozen 1
    have b2 := hw2.cell 2
    have f2 := hw2.frozen 2
    have b3 := hw2.cell 3
    have f3 := hw2.frozen 3
    have b4 := hw2.cell 4
    have f4 := hw2.frozen 4
    have b5 := hw2.cell 5
    have f5 := hw2.frozen 5
    go_wp2_with fail
    refine (num24 _ _).mono ?_; rintro e w3 ⟨rfl, rfl⟩
    go_wp2_with fail
    refine (right_any _ ⟨14, ⟨#[97]⟩, ⟨#[]⟩, ⟨#[98]⟩, 0, 0⟩).mono ?_; rintro e w4 ⟨rfl, hb4⟩
    rw [e1.out]
    go_wp2_with fail
    refine (num24 _ _).mono ?_; rintro e w5 ⟨rfl, rfl⟩
    go_wp2
    go_ret
    have hB : Below w.heap.size w w2 := below_then hb1 (below_then ((Below.refl w1.heap.size w1).alloc (Nat.le_refl _) _) hb2)
    exact ⟨rfl, ((hB.setCell hlt _).alloc (by simp [World.setCell]; omega) _).trans (hb4.mono (by simp [World.setCell]; omega))⟩
  · have e1 := Lib.hid fmod14_3
    go_enter Try.func9, Try.ntmps9
    go_wp2_with fail
    refine (alive24 _).mono ?_; rintro e w1 ⟨rfl, hb1⟩
    go_wp2_with fail
    refine (right_any _ ⟨14, ⟨#[97]⟩, ⟨#[]⟩, ⟨#[]⟩, 0, 0⟩).mono ?_; rintro e w2 ⟨rfl, hb2⟩
    rw [e0.out]
    have hlt := hb1.size
    have hlt2 : w1.heap.size + 1 ≤ w2.heap.size := by have := hb2.size; simpa using this
    have hw2 := (Whole.new w1 38 #[.int .i64 14, .string ⟨#[97]⟩, .string ⟨#[]⟩, .string ⟨#[]⟩, .int .i64 0, .int .i64 0]).below hb2
    have hlt3 := hw2.lt
    have b0 := hw2.cell 0
    have f0 := hw2.frozen 0
    have b1 := hw2.cell 1
    have f1 := hw2.frozen 1
    have b2 := hw2.cell 2
    have f2 := hw2.frozen 2
    have b3 := hw2.cell 3
    have f3 := hw2.frozen 3
    have b4 := hw2.cell 4
    have f4 := hw2.frozen 4
    have b5 := hw2.cell 5
    have f5 := hw2.frozen 5
    go_wp2_with fail
    refine (num24 _ _).mono ?_; rintro e w3 ⟨rfl, rfl⟩
    go_wp2_with fail
    refine (right_any _ ⟨14, ⟨#[97]⟩, ⟨#[]⟩, ⟨#[]⟩, 1, 0⟩).mono ?_; rintro e w4 ⟨rfl, hb4⟩
    rw [e1.out]
    go_wp2_with fail
    refine (num24 _ _).mono ?_; rintro e w5 ⟨rfl, rfl⟩
    go_wp2
    go_ret
    have hB : Below w.heap.size w w2 := below_then hb1 (below_then ((Below.refl w1.heap.size w1).alloc (Nat.le_refl _) _) hb2)
    exact ⟨rfl, ((hB.setCell hlt _).alloc (by simp [World.setCell]; omega) _).trans (hb4.mono (by simp [World.setCell]; omega))⟩
  · have e1 := Lib.hid fmod14_4
    go_enter Try.func9, Try.ntmps9
    go_wp2_with fail
    refine (alive24 _).mono ?_; rintro e w1 ⟨rfl, hb1⟩
    go_wp2_with fail
    refine (right_any _ ⟨14, ⟨#[97]⟩, ⟨#[]⟩, ⟨#[]⟩, 0, 0⟩).mono ?_; rintro e w2 ⟨rfl, hb2⟩
    rw [e0.out]
    have hlt := hb1.size
    have hlt2 : w1.heap.size + 1 ≤ w2.heap.size := by have := hb2.size; simpa using this
    have hw2 := (Whole.new w1 38 #[.int .i64 14, .string ⟨#[97]⟩, .string ⟨#[]⟩, .string ⟨#[]⟩, .int .i64 0, .int .i64 0]).below hb2
    have hlt3 := hw2.lt
    have b0 := hw2.cell 0
    have f0 := hw2.frozen 0
    have b1 := hw2.cell 1
    have f1 := hw2.frozen 1
    have b2 := hw2.cell 2
    have f2 := hw2.frozen 2
    have b3 := hw2.cell 3
    have f3 := hw2.frozen 3
    have b4 := hw2.cell 4
    have f4 := hw2.frozen 4
    have b5 := hw2.cell 5
    have f5 := hw2.frozen 5
    go_wp2_with fail
    refine (num24 _ _).mono ?_; rintro e w3 ⟨rfl, rfl⟩
    go_wp2_with fail
    refine (right_any _ ⟨14, ⟨#[97]⟩, ⟨#[]⟩, ⟨#[]⟩, 0, 1⟩).mono ?_; rintro e w4 ⟨rfl, hb4⟩
    rw [e1.out]
    go_wp2_with fail
    refine (num24 _ _).mono ?_; rintro e w5 ⟨rfl, rfl⟩
    go_wp2
    go_ret
    have hB : Below w.heap.size w w2 := below_then hb1 (below_then ((Below.refl w1.heap.size w1).alloc (Nat.le_refl _) _) hb2)
    exact ⟨rfl, ((hB.setCell hlt _).alloc (by simp [World.setCell]; omega) _).trans (hb4.mono (by simp [World.setCell]; omega))⟩

theorem fields_core (w : World) (kind which : Int) : Calls Try.prog 9 #[.int .i64 kind, .int .i64 which] w fun e w' => e = .returned (.bool true) ∧ Below w.heap.size w w' := by
  by_cases h : 1 ≤ kind ∧ kind ≤ 14 ∧ 0 ≤ which ∧ which ≤ 4
  · obtain ⟨h1, h2, h3, h4⟩ := h
    rcases kinds14 kind h1 h2 with rfl | rfl | rfl | rfl | rfl | rfl | rfl | rfl | rfl | rfl | rfl | rfl | rfl | rfl
    · exact fields1 w which h3 h4
    · exact fields2 w which h3 h4
    · exact fields3 w which h3 h4
    · exact fields4 w which h3 h4
    · exact fields5 w which h3 h4
    · exact fields6 w which h3 h4
    · exact fields7 w which h3 h4
    · exact fields8 w which h3 h4
    · exact fields9 w which h3 h4
    · exact fields10 w which h3 h4
    · exact fields11 w which h3 h4
    · exact fields12 w which h3 h4
    · exact fields13 w which h3 h4
    · exact fields14 w which h3 h4
  · have hc : kind < 1 ∨ (¬ kind < 1 ∧ 14 < kind) ∨ (¬ kind < 1 ∧ ¬ 14 < kind ∧ which < 0) ∨ (¬ kind < 1 ∧ ¬ 14 < kind ∧ ¬ which < 0 ∧ 4 < which) := by omega
    clear h
    rcases hc with h | ⟨h, h2⟩ | ⟨h, h2, h3⟩ | ⟨h, h2, h3, h4⟩
    all_goals
      go_enter Try.func9, Try.ntmps9
      go_wp2_with fail
      refine (alive24 _).mono ?_; rintro e w1 ⟨rfl, hb1⟩
      go_wp2
      go_ret
      exact ⟨rfl, hb1⟩
theorem sessionFields_walk (W : World) (kind : Int) (_ : (Lit.int .i64 kind).wf = true) (which : Int) (_ : (Lit.int .i64 which).wf = true) :
    Calls Try.prog 9 #[.int .i64 kind, .int .i64 which] W fun e w' => e = .returned (.bool true) ∧ Below W.heap.size W w' := fields_core W kind which
end Go.Proofs.Ytbckobclicogiaa
