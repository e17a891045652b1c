/-
  SessionChecks: the program's answers are the reference's.
-/
import Derived.Test.YtbckobclicogiaaSn
set_option linter.unusedVariables false
set_option linter.unusedSimpArgs false
namespace Go.Proofs.Ytbckobclicogiaa
open Go.RowKit Go.Proofs.PosteMem Go.Proofs.PosteOpen

@[reducible] def KReq : Kd := .cons 3 (.int .i64) (.cons 9 .str (.cons 9 .str (.cons 9 .str (.cons 3 (.int .i64) (.cons 3 (.int .i64) .nil)))))
theorem req_of_rd {W : World} {cs : Array Value} {x : KReq.T} (z : Rd Try.prog W KReq (Value.agg cs).cells.toList x) : ∃ q : Req, Value.agg cs = q.val := by
  have h := rd_enc KReq _ x rfl z
  refine ⟨⟨x.1, x.2.1, x.2.2.1, x.2.2.2.1, x.2.2.2.2.1, x.2.2.2.2.2.1⟩, ?_⟩
  have e : cs.toList = (#[.int .i64 x.1, .string x.2.1, .string x.2.2.1, .string x.2.2.2.1, .int .i64 x.2.2.2.2.1, .int .i64 x.2.2.2.2.2.1] : Array Value).toList := h
  unfold Req.val
  rw [Array.toList_inj.1 e]

set_option maxRecDepth 100000 in
set_option maxHeartbeats 8000000 in
theorem checks_core (w : World) (q : Req) : Calls Try.prog 6 #[q.val] w fun e w' => e = .returned (.bool true) ∧ Below w.heap.size w w' := by
  have hR := Lib.hid (fun w => right_any w q)
  have hR2 := Lib.hid (fun w => refRight_any w q)
  have hW := Lib.hid (fun w => swants_any w q)
  have hW2 := Lib.hid (fun w => refWants_any w q)
  have hbx := Whole.new w 38 #[.int .i64 q.kind, .string q.name, .string q.key, .string q.value, .int .i64 q.n, .int .i64 q.pri]
  have hlen := Lib.hid (wantsR_len q)
  generalize rightR q = r at *
  generalize wantsR q = L at *
  obtain ⟨kind, name, key, value, n, pri⟩ := q
  simp only at hbx
  unfold Req.val at *
  by_cases h1 : 100 < name.size
  · have g1 : (100 : Int) < (name.size : Int) := by omega
    go_enter Try.func6, Try.ntmps6
    go_wp2_with fail
    refine (alive24 _).mono ?_; rintro e w1 ⟨rfl, hb1⟩
    have hw1 := hbx.below hb1
    have b1 := hw1.cell 1
    go_wp2
    go_ret
    exact ⟨rfl, below_then ((Below.refl w.heap.size w).alloc (Nat.le_refl _) _) hb1⟩
  have g1 : ¬ (100 : Int) < (name.size : Int) := by omega
  by_cases h2 : 200 < key.size
  · have g2 : (200 : Int) < (key.size : Int) := by omega
    go_enter Try.func6, Try.ntmps6
    go_wp2_with fail
    refine (alive24 _).mono ?_; rintro e w1 ⟨rfl, hb1⟩
    have hw1 := hbx.below hb1
    have b1 := hw1.cell 1
    have b2 := hw1.cell 2
    go_wp2
    go_ret
    exact ⟨rfl, below_then ((Below.refl w.heap.size w).alloc (Nat.le_refl _) _) hb1⟩
  have g2 : ¬ (200 : Int) < (key.size : Int) := by omega
  by_cases h3 : 300 < value.size
  · have g3 : (300 : Int) < (value.size : Int) := by omega
    go_enter Try.func6, Try.ntmps6
    go_wp2_with fail
    refine (alive24 _).mono ?_; rintro e w1 ⟨rfl, hb1⟩
    have hw1 := hbx.below hb1
    have b1 := hw1.cell 1
    have b2 := hw1.cell 2
    have b3 := hw1.cell 3
    go_wp2
    go_ret
    exact ⟨rfl, below_then ((Below.refl w.heap.size w).alloc (Nat.le_refl _) _) hb1⟩
  have g3 : ¬ (300 : Int) < (value.size : Int) := by omega
  go_enter Try.func6, Try.ntmps6
  go_wp2_with fail
  refine (alive24 _).mono ?_; rintro e w1 ⟨rfl, hb1⟩
  have hw1 := hbx.below hb1
  have hb0 := below_then ((Below.refl w.heap.size w).alloc (Nat.le_refl _) _) hb1
  have hlt := hw1.lt
  have b1 := hw1.cell 1
  have b2 := hw1.cell 2
  have b3 := hw1.cell 3
  go_wp2_with fail
  clear b1 b2 b3 hb1 hbx
  have hacc : Below w1.heap.size w1 w1 := Below.refl _ _
  have t1 : True := trivial
  go_region_held3 (fun (w' : World) => ∀ i, w'.cell? ⟨w.heap.size, i, none⟩ = (#[Value.int .i64 kind, .string name, .string key, .string value, .int .i64 n, .int .i64 pri] : Array Value)[i]?)
    (first | assumption | exact fun i => hw1.cell i | exact fun i => (hacc.cell (p := ⟨w.heap.size, i, none⟩) hlt).trans (hw1.cell i))
    (first
      | (go_at_call 21; refine (hR.out _).mono ?_; rintro e wR ⟨rfl, hbR⟩; first | replace hacc := below_then hacc hbR | replace hacc := below_then (below_dn _ hacc) hbR)
      | (go_at_call 20; refine (num24 _ _).mono ?_; rintro e wN ⟨rfl, rfl⟩)
      | (go_at_call 22; refine (hR2.out _).mono ?_; rintro e wQ ⟨rfl, hbQ⟩; first | replace hacc := below_then hacc hbQ | replace hacc := below_then (below_dn _ hacc) hbQ)
      | (go_at_call 24; refine (hW.out _).mono ?_; rintro e wW ⟨vW, rfl, hoW, hbW⟩; replace hacc := below_then hacc hbW; try replace hoX := own_below hoX hbW)
      | (go_at_call 25; refine (hW2.out _).mono ?_; rintro e wX ⟨vX, rfl, hoX, hbX⟩; replace hacc := below_then hacc hbX; try replace hoW := own_below hoW hbX)
      | (go_at_call 23; refine (same_wants _ _ _ L (View.of_own hoW) (View.of_own hoX) hlen.out).mono ?_; rintro e wZ ⟨rfl, mZ, rfl⟩))
  all_goals
    go_wp2
    go_ret
    exact ⟨rfl, below_dn _ (below_then hb0 hacc)⟩

theorem sessionChecks_walk (W : World) (cs : Array Value) (x : KReq.T) (z : Rd Try.prog W KReq (Value.agg cs).cells.toList x) :
    Calls Try.prog 6 #[.agg cs] W fun e w' => e = .returned (.bool true) ∧ Below W.heap.size W w' := by
  obtain ⟨q, e⟩ := req_of_rd z
  rw [e]
  exact checks_core W q
end Go.Proofs.Ytbckobclicogiaa
