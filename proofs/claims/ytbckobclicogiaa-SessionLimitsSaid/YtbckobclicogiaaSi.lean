/-
  Requests: session.Wants by its contract.
-/
import Derived.Test.YtbckobclicogiaaSh
namespace Go.Proofs.Ytbckobclicogiaa
open Go.RowKit Go.Proofs.PosteMem

def modesOf (k : Int) : List Int := if k = 7 then [1, 1, 3] else if k = 8 ∨ k = 9 then [2, 2, 5] else if k = 10 then [1, 3] else if k = 11 ∨ k = 12 ∨ k = 13 then [2, 2] else if k = 14 then [1, 1] else []
noncomputable def wantsR (q : Req) : List Want := if rightR q = 0 then wantsOf q (modesOf q.kind) else []
theorem view_ints (w : World) (ms : List Int) (b : Nat) (hb : b = w.heap.size) (hl : ms.length ≤ 1000) : View (w.alloc (.cells (ms.map fun m => Value.int .i64 m).toArray 3)) 1 (.slice (some ⟨b, 0, none⟩) ms.length ms.length) ms.length (ms.map fun m => Value.int .i64 m) := by
  subst hb
  refine ⟨by simp, _, _, rfl, Nat.le_refl _, by unfold maxLen; omega, (fun h => by cases h), fun a ha j u hu => ?_⟩
  cases ha
  have e : (⟨w.heap.size, 0, none⟩ : Addr).add j = ⟨w.heap.size, j, none⟩ := by unfold Addr.add; split <;> simp_all
  rw [e, cell_new]
  simpa using hu

set_option maxRecDepth 100000 in
set_option maxHeartbeats 8000000 in
theorem swants_any (w : World) (q : Req) : Calls Try.prog 24 #[q.val] w fun e w' => ∃ v', e = .returned v' ∧ OWants w' w.heap.size v' (wantsR q) ∧ Below w.heap.size w w' := by
  have hR := Lib.hid (fun w => right_any w q)
  unfold wantsR
  generalize hr : rightR q = r at hR ⊢
  have hW := Lib.hid (fun w b off c ms => wants_any w q b off c ms)
  have hbx := Whole.new w 38 #[.int .i64 q.kind, .string q.name, .string q.key, .string q.value, .int .i64 q.n, .int .i64 q.pri]
  obtain ⟨kind, name, key, value, n, pri⟩ := q
  simp only at hbx hR hW ⊢
  unfold Req.val at hR hW ⊢
  by_cases h0 : r = 0
  case neg =>
    rw [if_neg h0]
    go_enter Try.func24, Try.ntmps24
    go_wp2_with fail
    refine (hR.out _).mono ?_; rintro e w1 ⟨rfl, hb1⟩
    go_wp2
    go_ret
    exact ⟨_, rfl, World.ownsRow_nil _ _ _ _, below_then ((Below.refl w.heap.size w).alloc (Nat.le_refl _) _) hb1⟩
  subst h0
  have hk : kind = 7 ∨ kind = 8 ∨ kind = 9 ∨ kind = 10 ∨ kind = 11 ∨ kind = 12 ∨ kind = 13 ∨ kind = 14 ∨ (kind ≠ 7 ∧ kind ≠ 8 ∧ kind ≠ 9 ∧ kind ≠ 10 ∧ kind ≠ 11 ∧ kind ≠ 12 ∧ kind ≠ 13 ∧ kind ≠ 14) := by omega
  rcases hk with rfl | rfl | rfl | rfl | rfl | rfl | rfl | rfl | ⟨k1, k2, k3, k4, k5, k6, k7, k8⟩
  · have e9 : modesOf 7 = [1, 1, 3] := by decide
    rw [if_pos rfl, e9]
    go_enter Try.func24, Try.ntmps24
    go_wp2_with fail
    refine (hR.out _).mono ?_; rintro e w1 ⟨rfl, hb1⟩
    have hw1 := hbx.below hb1
    have hb0 := below_then ((Below.refl w.heap.size w).alloc (Nat.le_refl _) _) hb1
    have b0 := hw1.cell 0
    have b1 := hw1.cell 1
    have b2 := hw1.cell 2
    have b3 := hw1.cell 3
    have b4 := hw1.cell 4
    have b5 := hw1.cell 5
    go_wp2_with fail
    refine (hW.out _ _ _ _ [1, 1, 3] (by decide) (view_ints w1 [1, 1, 3] w1.heap.size rfl (by decide))).mono ?_; rintro e w2 ⟨v2, rfl, ho2, hb2⟩
    have hb3 := below_then hb0 (below_then ((Below.refl w1.heap.size w1).alloc (Nat.le_refl _) _) hb2)
    have ho3 := own_mono ho2 (base' := w.heap.size) (by have := hb0.size; simp; omega)
    go_wp2
    go_ret
    exact ⟨_, rfl, ho3, hb3⟩
  · have e9 : modesOf 8 = [2, 2, 5] := by decide
    rw [if_pos rfl, e9]
    go_enter Try.func24, Try.ntmps24
    go_wp2_with fail
    refine (hR.out _).mono ?_; rintro e w1 ⟨rfl, hb1⟩
    have hw1 := hbx.below hb1
    have hb0 := below_then ((Below.refl w.heap.size w).alloc (Nat.le_refl _) _) hb1
    have b0 := hw1.cell 0
    have b1 := hw1.cell 1
    have b2 := hw1.cell 2
    have b3 := hw1.cell 3
    have b4 := hw1.cell 4
    have b5 := hw1.cell 5
    go_wp2_with fail
    refine (hW.out _ _ _ _ [2, 2, 5] (by decide) (view_ints w1 [2, 2, 5] w1.heap.size rfl (by decide))).mono ?_; rintro e w2 ⟨v2, rfl, ho2, hb2⟩
    have hb3 := below_then hb0 (below_then ((Below.refl w1.heap.size w1).alloc (Nat.le_refl _) _) hb2)
    have ho3 := own_mono ho2 (base' := w.heap.size) (by have := hb0.size; simp; omega)
    go_wp2
    go_ret
    exact ⟨_, rfl, ho3, hb3⟩
  · have e9 : modesOf 9 = [2, 2, 5] := by decide
    rw [if_pos rfl, e9]
    go_enter Try.func24, Try.ntmps24
    go_wp2_with fail
    refine (hR.out _).mono ?_; rintro e w1 ⟨rfl, hb1⟩
    have hw1 := hbx.below hb1
    have hb0 := below_then ((Below.refl w.heap.size w).alloc (Nat.le_refl _) _) hb1
    have b0 := hw1.cell 0
    have b1 := hw1.cell 1
    have b2 := hw1.cell 2
    have b3 := hw1.cell 3
    have b4 := hw1.cell 4
    have b5 := hw1.cell 5
    go_wp2_with fail
    refine (hW.out _ _ _ _ [2, 2, 5] (by decide) (view_ints w1 [2, 2, 5] w1.heap.size rfl (by decide))).mono ?_; rintro e w2 ⟨v2, rfl, ho2, hb2⟩
    have hb3 := below_then hb0 (below_then ((Below.refl w1.heap.size w1).alloc (Nat.le_refl _) _) hb2)
    have ho3 := own_mono ho2 (base' := w.heap.size) (by have := hb0.size; simp; omega)
    go_wp2
    go_ret
    exact ⟨_, rfl, ho3, hb3⟩
  · have e9 : modesOf 10 = [1, 3] := by decide
    rw [if_pos rfl, e9]
    go_enter Try.func24, Try.ntmps24
    go_wp2_with fail
    refine (hR.out _).mono ?_; rintro e w1 ⟨rfl, hb1⟩
    have hw1 := hbx.below hb1
    have hb0 := below_then ((Below.refl w.heap.size w).alloc (Nat.le_refl _) _) hb1
    have b0 := hw1.cell 0
    have b1 := hw1.cell 1
    have b2 := hw1.cell 2
    have b3 := hw1.cell 3
    have b4 := hw1.cell 4
    have b5 := hw1.cell 5
    go_wp2_with fail
    refine (hW.out _ _ _ _ [1, 3] (by decide) (view_ints w1 [1, 3] w1.heap.size rfl (by decide))).mono ?_; rintro e w2 ⟨v2, rfl, ho2, hb2⟩
    have hb3 := below_then hb0 (below_then ((Below.refl w1.heap.size w1).alloc (Nat.le_refl _) _) hb2)
    have ho3 := own_mono ho2 (base' := w.heap.size) (by have := hb0.size; simp; omega)
    go_wp2
    go_ret
    exact ⟨_, rfl, ho3, hb3⟩
  · have e9 : modesOf 11 = [2, 2] := by decide
    rw [if_pos rfl, e9]
    go_enter Try.func24, Try.ntmps24
    go_wp2_with fail
    refine (hR.out _).mono ?_; rintro e w1 ⟨rfl, hb1⟩
    have hw1 := hbx.below hb1
    have hb0 := below_then ((Below.refl w.heap.size w).alloc (Nat.le_refl _) _) hb1
    have b0 := hw1.cell 0
    have b1 := hw1.cell 1
    have b2 := hw1.cell 2
    have b3 := hw1.cell 3
    have b4 := hw1.cell 4
    have b5 := hw1.cell 5
    go_wp2_with fail
    refine (hW.out _ _ _ _ [2, 2] (by decide) (view_ints w1 [2, 2] w1.heap.size rfl (by decide))).mono ?_; rintro e w2 ⟨v2, rfl, ho2, hb2⟩
    have hb3 := below_then hb0 (below_then ((Below.refl w1.heap.size w1).alloc (Nat.le_refl _) _) hb2)
    have ho3 := own_mono ho2 (base' := w.heap.size) (by have := hb0.size; simp; omega)
    go_wp2
    go_ret
    exact ⟨_, rfl, ho3, hb3⟩
  · have e9 : modesOf 12 = [2, 2] := by decide
    rw [if_pos rfl, e9]
    go_enter Try.func24, Try.ntmps24
    go_wp2_with fail
    refine (hR.out _).mono ?_; rintro e w1 ⟨rfl, hb1⟩
    have hw1 := hbx.below hb1
    have hb0 := below_then ((Below.refl w.heap.size w).alloc (Nat.le_refl _) _) hb1
    have b0 := hw1.cell 0
    have b1 := hw1.cell 1
    have b2 := hw1.cell 2
    have b3 := hw1.cell 3
    have b4 := hw1.cell 4
    have b5 := hw1.cell 5
    go_wp2_with fail
    refine (hW.out _ _ _ _ [2, 2] (by decide) (view_ints w1 [2, 2] w1.heap.size rfl (by decide))).mono ?_; rintro e w2 ⟨v2, rfl, ho2, hb2⟩
    have hb3 := below_then hb0 (below_then ((Below.refl w1.heap.size w1).alloc (Nat.le_refl _) _) hb2)
    have ho3 := own_mono ho2 (base' := w.heap.size) (by have := hb0.size; simp; omega)
    go_wp2
    go_ret
    exact ⟨_, rfl, ho3, hb3⟩
  · have e9 : modesOf 13 = [2, 2] := by decide
    rw [if_pos rfl, e9]
    go_enter Try.func24, Try.ntmps24
    go_wp2_with fail
    refine (hR.out _).mono ?_; rintro e w1 ⟨rfl, hb1⟩
    have hw1 := hbx.below hb1
    have hb0 := below_then ((Below.refl w.heap.size w).alloc (Nat.le_refl _) _) hb1
    have b0 := hw1.cell 0
    have b1 := hw1.cell 1
    have b2 := hw1.cell 2
    have b3 := hw1.cell 3
    have b4 := hw1.cell 4
    have b5 := hw1.cell 5
    go_wp2_with fail
    refine (hW.out _ _ _ _ [2, 2] (by decide) (view_ints w1 [2, 2] w1.heap.size rfl (by decide))).mono ?_; rintro e w2 ⟨v2, rfl, ho2, hb2⟩
    have hb3 := below_then hb0 (below_then ((Below.refl w1.heap.size w1).alloc (Nat.le_refl _) _) hb2)
    have ho3 := own_mono ho2 (base' := w.heap.size) (by have := hb0.size; simp; omega)
    go_wp2
    go_ret
    exact ⟨_, rfl, ho3, hb3⟩
  · have e9 : modesOf 14 = [1, 1] := by decide
    rw [if_pos rfl, e9]
    go_enter Try.func24, Try.ntmps24
    go_wp2_with fail
    refine (hR.out _).mono ?_; rintro e w1 ⟨rfl, hb1⟩
    have hw1 := hbx.below hb1
    have hb0 := below_then ((Below.refl w.heap.size w).alloc (Nat.le_refl _) _) hb1
    have b0 := hw1.cell 0
    have b1 := hw1.cell 1
    have b2 := hw1.cell 2
    have b3 := hw1.cell 3
    have b4 := hw1.cell 4
    have b5 := hw1.cell 5
    go_wp2_with fail
    refine (hW.out _ _ _ _ [1, 1] (by decide) (view_ints w1 [1, 1] w1.heap.size rfl (by decide))).mono ?_; rintro e w2 ⟨v2, rfl, ho2, hb2⟩
    have hb3 := below_then hb0 (below_then ((Below.refl w1.heap.size w1).alloc (Nat.le_refl _) _) hb2)
    have ho3 := own_mono ho2 (base' := w.heap.size) (by have := hb0.size; simp; omega)
    go_wp2
    go_ret
    exact ⟨_, rfl, ho3, hb3⟩
  · have e9 : modesOf kind = [] := by simp [modesOf, k1, k2, k3, k4, k5, k6, k7, k8]
    rw [if_pos rfl, e9]
    go_enter Try.func24, Try.ntmps24
    go_wp2_with fail
    refine (hR.out _).mono ?_; rintro e w1 ⟨rfl, hb1⟩
    have hw1 := hbx.below hb1
    have hb0 := below_then ((Below.refl w.heap.size w).alloc (Nat.le_refl _) _) hb1
    have b0 := hw1.cell 0
    have b1 := hw1.cell 1
    have b2 := hw1.cell 2
    have b3 := hw1.cell 3
    have b4 := hw1.cell 4
    have b5 := hw1.cell 5
    go_wp2
    go_ret
    exact ⟨_, rfl, World.ownsRow_nil _ _ _ _, hb0⟩
end Go.Proofs.Ytbckobclicogiaa
