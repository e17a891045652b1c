/-
  Requests: posteref14.RightReq whatever the kind, posteref14.Wants, posteref14.SameWants, postelaw24.alive, each by its contract.
-/
import Derived.Test.YtbckobclicogiaaSj
namespace Go.Proofs.Ytbckobclicogiaa
open Go.RowKit Go.Proofs.PosteMem

set_option maxRecDepth 100000 in
set_option maxHeartbeats 8000000 in
theorem refRight_any (w : World) (q : Req) : Calls Try.prog 22 #[q.val] w fun e w' => e = .returned (.int .i64 (rightR q)) ∧ Below w.heap.size w w' := by
  by_cases h1 : 1 ≤ q.kind
  · by_cases h2 : q.kind ≤ 14
    · exact refRight_mid w q h1 h2
    · obtain ⟨kind, name, key, value, n, pri⟩ := q
      simp only at h1 h2
      have e9 : rightR ⟨kind, name, key, value, n, pri⟩ = 1 := by
        unfold rightR
        rw [if_pos (.inr (.inl (by simp only; omega)))]
      replace e9 := Lib.hid e9
      have h3 : ¬ kind < 1 := by omega
      have h4 : 14 < kind := by omega
      unfold Req.val
      go_enter Try.func22, Try.ntmps22
      go_wp2
      go_ret
      exact ⟨ret_int e9.out.symm, by (refine upd_to_below ?_; repeat (first | exact Upd.refl _ _ | refine Upd.setCell ?_ (Or.inl (by simp)) _ | refine Upd.alloc ?_ _ | refine Upd.drewN ?_ _ | refine Upd.drew ?_))⟩
  · obtain ⟨kind, name, key, value, n, pri⟩ := q
    simp only at h1
    have e9 : rightR ⟨kind, name, key, value, n, pri⟩ = 1 := by
      unfold rightR
      rw [if_pos (.inl (by simp only; omega))]
    replace e9 := Lib.hid e9
    have h3 : kind < 1 := by omega
    unfold Req.val
    go_enter Try.func22, Try.ntmps22
    go_wp2
    go_ret
    exact ⟨ret_int e9.out.symm, by (refine upd_to_below ?_; repeat (first | exact Upd.refl _ _ | refine Upd.setCell ?_ (Or.inl (by simp)) _ | refine Upd.alloc ?_ _ | refine Upd.drewN ?_ _ | refine Upd.drew ?_))⟩

def VWants (w : World) (v : Value) (L : List Want) : Prop := View w 4 v L.length (L.flatMap Want.cells)
set_option maxHeartbeats 4000000 in
theorem same_wants (w : World) (v1 v2 : Value) (L : List Want) (h1 : VWants w v1 L) (h2 : VWants w v2 L) (hm : L.length ≤ 1000000) :
    Calls Try.prog 23 #[v1, v2] w fun e w' => e = .returned (.bool true) ∧ Same w w' := by
  by_cases h0 : L.length = 0
  · obtain ⟨A1, c1, rfl, _, _⟩ := h1.cells
    obtain ⟨A2, c2, rfl, _, _⟩ := h2.cells
    rw [h0]
    go_enter Try.func23, Try.ntmps23
    go_wp2_with fail
    go_rounds 1
    go_ret
    exact ⟨rfl, Same.refl _⟩
  · obtain ⟨b1, o1, c1, rfl, l1, m1, _, f1⟩ := View.elems Want.cells Want.len h1 (by decide) (by omega)
    obtain ⟨b2, o2, c2, rfl, l2, m2, _, f2⟩ := View.elems Want.cells Want.len h2 (by decide) (by omega)
    clear h1 h2
    replace f1 := Lib.hid f1
    replace f2 := Lib.hid f2
    go_enter Try.func23, Try.ntmps23
    go_wp2_with fail
    go_loopw [5] (fun i wr => ∃ k : Nat, k ≤ L.length ∧ i = .int .i64 k ∧ Same w wr) (fun i _ => L.length - (intOf i).toNat)
    case atStart => exact ⟨0, by omega, rfl, 0, rfl⟩
    case round =>
      obtain ⟨k, hk, rfl, m, rfl⟩ := hrel
      by_cases hlt : k < L.length
      · have q1 : (k : Int) < (L.length : Int) := by omega
        have p0 := f1.out k hlt 0 _ rfl
        have p1 := f1.out k hlt 1 _ rfl
        have p2 := f1.out k hlt 2 _ rfl
        have p3 := f1.out k hlt 3 _ rfl
        have r0 := f2.out k hlt 0 _ rfl
        have r1 := f2.out k hlt 1 _ rfl
        have r2 := f2.out k hlt 2 _ rfl
        have r3 := f2.out k hlt 3 _ rfl
        rw [Nat.add_zero] at p0 r0
        rw [← Nat.add_assoc] at p1 p2 p3 r1 r2 r3
        generalize L[k] = x at p0 p1 p2 p3 r0 r1 r2 r3
        go_wp2_with fail
        go_quiet (fail)
        go_wp2_with fail
        go_roundw
        case rel => exact ⟨k + 1, by omega, by go_num, _, rfl⟩
        case measure => simp [intOf]; omega
      · go_wp2_with fail
        go_ret
        exact ⟨rfl, m, rfl⟩

theorem num24 (w : World) (x : Int) : Calls Try.prog 20 #[.int .i64 x] w fun e w' => e = .returned (.int .i64 x) ∧ w = w' := by
  go_enter Try.func20, Try.ntmps20
  go_wp2
  go_ret
  exact ⟨rfl, rfl⟩
end Go.Proofs.Ytbckobclicogiaa
