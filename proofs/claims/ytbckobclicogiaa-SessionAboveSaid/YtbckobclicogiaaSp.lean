/-
  SessionAbove: each lock that is wanted stands below one that allows for it.
-/
import Derived.Test.YtbckobclicogiaaSo
set_option linter.unusedVariables false
set_option linter.unusedSimpArgs false
namespace Go.Proofs.Ytbckobclicogiaa
open Go.RowKit Go.Proofs.PosteMem Go.Proofs.PosteOpen

def coversB (a b : Int) : Bool := decide (a = 2) || decide (a = 4) || decide (a = 5) || ((decide (b = 1) || decide (b = 3)) && (decide (a = 1) || decide (a = 3)))
set_option maxHeartbeats 4000000 in
theorem covers_any (w : World) (a b : Int) (h : coversB a b = true) : Calls Try.prog 26 #[.int .i64 a, .int .i64 b] w fun e w' => e = .returned (.bool true) ∧ w = w' := by
  unfold coversB at h
  simp only [Bool.or_eq_true, Bool.and_eq_true, decide_eq_true_eq] at h
  have hb : b = 1 ∨ b = 3 ∨ (b ≠ 1 ∧ b ≠ 3) := by omega
  have ha : a = 2 ∨ a = 4 ∨ a = 5 ∨ a = 1 ∨ a = 3 := by omega
  rcases hb with rfl | rfl | ⟨h1, h2⟩
  · rcases ha with rfl | rfl | rfl | rfl | rfl
    all_goals
      clear h
      go_enter Try.func26, Try.ntmps26
      go_wp2
      go_ret
      exact ⟨rfl, rfl⟩
  · rcases ha with rfl | rfl | rfl | rfl | rfl
    all_goals
      clear h
      go_enter Try.func26, Try.ntmps26
      go_wp2
      go_ret
      exact ⟨rfl, rfl⟩
  · have ha : a = 2 ∨ a = 4 ∨ a = 5 := by omega
    rcases ha with rfl | rfl | rfl
    all_goals
      clear h
      go_enter Try.func26, Try.ntmps26
      go_wp2
      go_ret
      exact ⟨rfl, rfl⟩

/-- What the law asks of a list of locks. -/
structure Above (name : ByteArray) (L : List Want) : Prop where
  deep : ∀ k (h : k < L.length), L[k].deep = k
  low : ∀ k (h : k < L.length), 1 ≤ L[k].mode
  high : ∀ k (h : k < L.length), L[k].mode ≤ 5
  obj : ∀ k (h : k < L.length), 0 < k → L[k].obj = name
  cov : ∀ k (h : k + 1 < L.length), coversB L[k].mode L[k + 1].mode = true
  len : L.length = 0 ∨ 2 ≤ L.length
theorem above_wants (q : Req) : Above q.name (wantsR q) := by
  unfold wantsR
  split
  · have hm : ∃ ms, modesOf q.kind = ms ∧ (ms = [] ∨ ms = [1, 1, 3] ∨ ms = [2, 2, 5] ∨ ms = [1, 3] ∨ ms = [2, 2] ∨ ms = [1, 1]) := by
      refine ⟨_, rfl, ?_⟩
      unfold modesOf
      repeat (first | (split; · simp) | split)
      all_goals simp
    obtain ⟨ms, e, hm⟩ := hm
    rw [e]
    rcases hm with rfl | rfl | rfl | rfl | rfl | rfl
    · exact ⟨fun k h => by simp [wantsOf] at h, fun k h => by simp [wantsOf] at h, fun k h => by simp [wantsOf] at h, fun k h => by simp [wantsOf] at h, fun k h => by simp [wantsOf] at h, .inl rfl⟩
    all_goals
      refine ⟨fun k h => ?_, fun k h => ?_, fun k h => ?_, fun k h h0 => ?_, fun k h => ?_, .inr (by rw [wantsOf_len]; decide)⟩
      all_goals
        rw [wantsOf_len] at h
        simp only [List.length_cons, List.length_nil] at h
        rcases k with _ | _ | _ | k
        all_goals first | omega | rfl | (simp [wantsOf, nm]; done) | (simp [wantsOf, nm]; decide)
  · exact ⟨fun k h => by simp at h, fun k h => by simp at h, fun k h => by simp at h, fun k h => by simp at h, fun k h => by simp at h, .inl rfl⟩

set_option maxRecDepth 100000 in
set_option maxHeartbeats 8000000 in
theorem above_core (w : World) (q : Req) : Calls Try.prog 7 #[q.val] w fun e w' => e = .returned (.bool true) ∧ Below w.heap.size w w' := by
  have hW := Lib.hid (fun w => swants_any w q)
  have hbx := Whole.new w 38 #[.int .i64 q.kind, .string q.name, .string q.key, .string q.value, .int .i64 q.n, .int .i64 q.pri]
  have hlen := Lib.hid (wantsR_len q)
  have hab := Lib.hid (above_wants q)
  generalize wantsR q = L at *
  obtain ⟨kind, name, key, value, n, pri⟩ := q
  simp only at hbx hab
  unfold Req.val at *
  by_cases h1 : 100 < name.size
  · have g1 : (100 : Int) < (name.size : Int) := by omega
    go_enter Try.func7, Try.ntmps7
    go_wp2_with fail
    refine (alive24 _).mono ?_; rintro e w1 ⟨rfl, hb1⟩
    have hw1 := hbx.below hb1
    have b1 := hw1.cell 1
    go_wp2
    go_ret
    exact ⟨rfl, below_then ((Below.refl w.heap.size w).alloc (Nat.le_refl _) _) hb1⟩
  have g1 : ¬ (100 : Int) < (name.size : Int) := by omega
  by_cases h2 : 200 < key.size
  · have g2 : (200 : Int) < (key.size : Int) := by omega
    go_enter Try.func7, Try.ntmps7
    go_wp2_with fail
    refine (alive24 _).mono ?_; rintro e w1 ⟨rfl, hb1⟩
    have hw1 := hbx.below hb1
    have b1 := hw1.cell 1
    have b2 := hw1.cell 2
    go_wp2
    go_ret
    exact ⟨rfl, below_then ((Below.refl w.heap.size w).alloc (Nat.le_refl _) _) hb1⟩
  have g2 : ¬ (200 : Int) < (key.size : Int) := by omega
  by_cases h3 : 300 < value.size
  · have g3 : (300 : Int) < (value.size : Int) := by omega
    go_enter Try.func7, Try.ntmps7
    go_wp2_with fail
    refine (alive24 _).mono ?_; rintro e w1 ⟨rfl, hb1⟩
    have hw1 := hbx.below hb1
    have b1 := hw1.cell 1
    have b2 := hw1.cell 2
    have b3 := hw1.cell 3
    go_wp2
    go_ret
    exact ⟨rfl, below_then ((Below.refl w.heap.size w).alloc (Nat.le_refl _) _) hb1⟩
  have g3 : ¬ (300 : Int) < (value.size : Int) := by omega
  go_enter Try.func7, Try.ntmps7
  go_wp2_with fail
  refine (alive24 _).mono ?_; rintro e w1 ⟨rfl, hb1⟩
  have hw1 := hbx.below hb1
  have hb0 := below_then ((Below.refl w.heap.size w).alloc (Nat.le_refl _) _) hb1
  have hlt := hw1.lt
  have b0 := hw1.cell 0
  have b1 := hw1.cell 1
  have b2 := hw1.cell 2
  have b3 := hw1.cell 3
  have b4 := hw1.cell 4
  have b5 := hw1.cell 5
  go_wp2_with fail
  refine (hW.out _).mono ?_; rintro e w2 ⟨v2, rfl, ho, hb2⟩
  replace hb0 := below_then hb0 hb2
  have hw2 := hw1.below hb2
  clear b0 b1 b2 b3 b4 b5 hb1 hbx hw1 hlt hb2
  have b1 : w2.cell? ⟨w.heap.size, 1, none⟩ = some (.string name) := hw2.cell 1
  by_cases h0 : L.length = 0
  · unfold OWants at ho
    obtain ⟨A2, c2, rfl, _, _, _⟩ := own_shape ho
    rw [h0]
    go_wp2_with fail
    go_rounds 1
    go_ret
    exact ⟨rfl, hb0⟩
  obtain ⟨b, off, cap, rfl, hc1, hc2, hbl, hcc⟩ := View.elems Want.cells Want.len (View.of_own ho) (by decide) (by omega)
  replace hcc := Lib.hid hcc
  clear ho
  have hl2 : 2 ≤ L.length := by rcases hab.out.len with h | h <;> omega
  have hl3 := hlen.out
  go_wp2_with fail
  go_loopw [5] (fun i wr => ∃ k : Nat, k ≤ L.length ∧ i = .int .i64 k ∧ Same w2 wr) (fun i _ => L.length - (intOf i).toNat)
  case atStart => exact ⟨0, by omega, rfl, 0, rfl⟩
  case round =>
    obtain ⟨k, hk, rfl, m, rfl⟩ := hrel
    by_cases hlt : k < L.length
    · have q1 : (k : Int) < (L.length : Int) := by omega
      have p0 := hcc.out k hlt 0 _ rfl
      have p1 := hcc.out k hlt 1 _ rfl
      have p3 := hcc.out k hlt 3 _ rfl
      rw [Nat.add_zero, hab.out.deep k hlt] at p0
      rw [← Nat.add_assoc] at p1 p3
      have m1 := hab.out.low k hlt
      have m5 := hab.out.high k hlt
      have m2 : decide (L[k].mode < 1) = false := decide_eq_false (by omega)
      have m3 : decide (5 < L[k].mode) = false := decide_eq_false (by omega)
      by_cases hk0 : k = 0
      · have q3 : decide (0 < k) = false := decide_eq_false (by omega)
        replace hk0 := Lib.hid hk0
        generalize L[k] = x at *
        go_wp2_with fail
        go_quiet (fail)
        go_wp2_with fail
        go_quiet (fail)
        go_wp2_with fail
        go_roundw
        case rel => exact ⟨k + 1, by omega, by go_num, _, rfl⟩
        case measure => simp [intOf]; omega
      · obtain ⟨j, hj⟩ : ∃ j, k = j + 1 := ⟨k - 1, by omega⟩
        have hjl : j < L.length := by omega
        have r3 := hcc.out j hjl 3 _ rfl
        rw [← Nat.add_assoc] at r3
        rw [hab.out.obj k hlt (by omega)] at p1
        have hcv : coversB L[j].mode L[k].mode = true := by
          subst hj
          exact hab.out.cov j hlt
        replace hcv := Lib.hid hcv
        have q3 : decide (0 < k) = true := decide_eq_true (by omega)
        have ew : IntKind.i64.wrap ((k : Int) - 1) = (j : Int) := by rw [IntWalk.i64_in _ (by omega)]; omega
        have q2 : (j : Int) < (L.length : Int) := by omega
        generalize L[k] = x at *
        generalize L[j] = y at *
        replace hj := Lib.hid hj
        go_wp2_with fail
        go_quiet (fail)
        go_wp2_with fail
        go_quiet ((go_at_call 26; exact quiet_at (covers_any _ _ _ hcv.out) ⟨_, rfl⟩))
        go_wp2_with fail
        go_roundw
        case rel => exact ⟨k + 1, by omega, by go_num, _, rfl⟩
        case measure => simp [intOf]; omega
    · have hkl : k = L.length := by omega
      have q1 : ¬ (k : Int) < (L.length : Int) := by omega
      go_wp2_with fail
      go_ret
      refine ⟨?_, below_dn _ hb0⟩
      first | rfl | (refine ret_bool ?_; simp; omega)

theorem sessionAbove_walk (W : World) (cs : Array Value) (x : KReq.T) (z : Rd Try.prog W KReq (Value.agg cs).cells.toList x) :
    Calls Try.prog 7 #[.agg cs] W fun e w' => e = .returned (.bool true) ∧ Below W.heap.size W w' := by
  obtain ⟨q, e⟩ := req_of_rd z
  rw [e]
  exact above_core W q
end Go.Proofs.Ytbckobclicogiaa
