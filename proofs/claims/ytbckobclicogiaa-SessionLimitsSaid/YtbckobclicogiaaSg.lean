/-
  Requests: session.Right by its contract.
-/
import Derived.Test.YtbckobclicogiaaSf
namespace Go.Proofs.Ytbckobclicogiaa
open Go.RowKit Go.Proofs.PosteMem

open Classical in
noncomputable def rightR (q : Req) : Int := if q.kind < 1 ∨ 14 < q.kind ∨ q ≠ namedR q then 1 else if longR q = true then 6 else if numsR q = true then 0 else 1

theorem neq_req (w : World) (a b : Req) : (binOp .neq 38 a.val b.val).run Try.prog w = .ok (.bool (!(decide (a.kind = b.kind) && (a.name.toList == b.name.toList) && (a.key.toList == b.key.toList) && (a.value.toList == b.value.toList) && decide (a.n = b.n) && decide (a.pri = b.pri)))) w := by
  unfold Req.val
  rw [run_neq_struct]
  go_simp
  by_cases h1 : a.kind = b.kind <;> by_cases h2 : a.name.toList = b.name.toList <;> by_cases h3 : a.key.toList = b.key.toList <;> by_cases h4 : a.value.toList = b.value.toList <;> by_cases h5 : a.n = b.n <;> by_cases h6 : a.pri = b.pri <;> simp [*]
theorem toList_inj {a b : ByteArray} (h : a.toList = b.toList) : a = b := by
  rw [ByteArray.toList_eq, ByteArray.toList_eq] at h
  cases a; cases b; simp_all
theorem neq_req' (w : World) (a b : Req) (r : Bool) (h : r = true ↔ a ≠ b) : (binOp .neq 38 a.val b.val).run Try.prog w = .ok (.bool r) w := by
  rw [neq_req]
  congr 2
  rw [Bool.eq_iff_iff, h]
  obtain ⟨a1, a2, a3, a4, a5, a6⟩ := a
  obtain ⟨b1, b2, b3, b4, b5, b6⟩ := b
  simp only [Req.mk.injEq, ne_eq, Bool.not_eq_true', Bool.and_eq_false_iff, beq_eq_false_iff_ne, decide_eq_false_iff_not]
  constructor
  · rintro h ⟨rfl, rfl, rfl, rfl, rfl, rfl⟩
    simp at h
  · intro h
    by_cases e1 : a1 = b1 <;> by_cases e2 : a2.toList = b2.toList <;> by_cases e3 : a3.toList = b3.toList <;> by_cases e4 : a4.toList = b4.toList <;> by_cases e5 : a5 = b5 <;> by_cases e6 : a6 = b6 <;> simp_all
    exact absurd (toList_inj e4) (h (toList_inj e2) (toList_inj e3))

set_option maxRecDepth 100000 in
set_option maxHeartbeats 8000000 in
theorem right_mid (w : World) (q : Req) (h1 : 1 ≤ q.kind) (h2 : q.kind ≤ 14) : Calls Try.prog 21 #[q.val] w fun e w' => e = .returned (.int .i64 (rightR q)) ∧ Below w.heap.size w w' := by
  have hn := Lib.hid (fun w => named_any w q)
  have hbx := Whole.new w 38 #[.int .i64 q.kind, .string q.name, .string q.key, .string q.value, .int .i64 q.n, .int .i64 q.pri]
  obtain ⟨kind, name, key, value, n, pri⟩ := q
  generalize hq' : namedR ⟨kind, name, key, value, n, pri⟩ = q' at hn
  obtain ⟨kind', name', key', value', n', pri'⟩ := q'
  obtain ⟨r, hr⟩ : ∃ r : Bool, r = true ↔ (⟨kind, name, key, value, n, pri⟩ : Req) ≠ ⟨kind', name', key', value', n', pri'⟩ := ⟨@decide _ (Classical.propDecidable _), @decide_eq_true_iff _ (Classical.propDecidable _)⟩
  have hneq := fun w => neq_req' w _ _ _ hr
  replace hr := Lib.hid hr
  replace hq' := Lib.hid hq'
  unfold Req.val at hn hneq ⊢
  replace h1 : ¬ kind < 1 := by simp only at h1; omega
  replace h2 : ¬ 14 < kind := by simp only at h2; omega
  simp only at hbx
  have hd1 : decide (kind < 1) = false := decide_eq_false h1
  have hd2 : decide (14 < kind) = false := decide_eq_false h2
  go_enter Try.func21, Try.ntmps21
  go_wp2_with fail
  go_region_held3 (fun (w' : World) => ∀ i, w'.cell? ⟨w.heap.size, i, none⟩ = (#[Value.int .i64 kind, .string name, .string key, .string value, .int .i64 n, .int .i64 pri] : Array Value)[i]?) (first | assumption | exact fun i => hbx.cell i | exact fun i => (hb4.cell (p := ⟨w.heap.size, i, none⟩) (by simp)).trans (hbx.cell i)) (first | (go_at_call 45; refine (hn.out _).mono ?_; rintro e w4 ⟨rfl, hb4⟩))
  have hbw : Below w.heap.size w w4 := (below_dn _ ((Below.refl _ _).alloc (Nat.le_refl _) _)).trans (hb4.mono (by show w.heap.size ≤ (Array.push _ _).size; simp))
  have hw4 : Whole w4 w.heap.size 38 #[.int .i64 kind, .string name, .string key, .string value, .int .i64 n, .int .i64 pri] := Whole.below (hbx.drewN _) hb4
  cases r with
  | true =>
    have e9 : rightR ⟨kind, name, key, value, n, pri⟩ = 1 := by
      unfold rightR
      rw [if_pos (.inr (.inr (by rw [hq'.out]; exact hr.out.1 rfl)))]
    replace e9 := Lib.hid e9
    go_wp2
    go_ret
    first | exact ⟨ret_int e9.out.symm, hbw⟩ | exact ⟨ret_int e9.out.symm, below_dn _ hbw⟩
  | false =>
    have e8 : (⟨kind, name, key, value, n, pri⟩ : Req) = ⟨kind', name', key', value', n', pri'⟩ := Classical.byContradiction fun h => by cases hr.out.2 h
    have e9 : rightR ⟨kind, name, key, value, n, pri⟩ = if longR ⟨kind, name, key, value, n, pri⟩ = true then 6 else if numsR ⟨kind, name, key, value, n, pri⟩ = true then 0 else 1 := by
      unfold rightR
      rw [if_neg (by
        rintro (h | h | h)
        · simp only at h; omega
        · simp only at h; omega
        · exact h (by rw [hq'.out]; exact e8))]
    replace e8 := Lib.hid e8
    have hlong := Lib.hid (fun w => long_any w ⟨kind, name, key, value, n, pri⟩)
    have hnum := Lib.hid (fun w => numbers_any w ⟨kind, name, key, value, n, pri⟩)
    have b0 := hw4.cell 0
    have b1 := hw4.cell 1
    have b2 := hw4.cell 2
    have b3 := hw4.cell 3
    have b4 := hw4.cell 4
    have b5 := hw4.cell 5
    generalize longR ⟨kind, name, key, value, n, pri⟩ = l at e9 hlong
    generalize numsR ⟨kind, name, key, value, n, pri⟩ = m at e9 hnum
    unfold Req.val at hlong hnum
    replace e9 := Lib.hid e9
    go_wp2_with fail
    refine (hlong.out _).mono ?_; rintro e w5 ⟨rfl, hb5⟩
    have hbw5 := below_then hbw hb5
    cases l with
    | true =>
      go_wp2
      go_ret
      exact ⟨ret_int e9.out.symm, hbw5⟩
    | false =>
      have hw5 := hw4.below hb5
      clear b0 b1 b2 b3 b4 b5
      have b0 := hw5.cell 0
      have b1 := hw5.cell 1
      have b2 := hw5.cell 2
      have b3 := hw5.cell 3
      have b4 := hw5.cell 4
      have b5 := hw5.cell 5
      go_wp2_with fail
      refine (hnum.out _).mono ?_; rintro e w6 ⟨rfl, hb6⟩
      have hbw6 := below_then hbw5 hb6
      cases m with
      | true =>
        go_wp2
        go_ret
        exact ⟨ret_int e9.out.symm, hbw6⟩
      | false =>
        go_wp2
        go_ret
        exact ⟨ret_int e9.out.symm, hbw6⟩

set_option maxHeartbeats 8000000 in
theorem right_any (w : World) (q : Req) : Calls Try.prog 21 #[q.val] w fun e w' => e = .returned (.int .i64 (rightR q)) ∧ Below w.heap.size w w' := by
  by_cases h1 : 1 ≤ q.kind
  · by_cases h2 : q.kind ≤ 14
    · exact right_mid w q h1 h2
    · obtain ⟨kind, name, key, value, n, pri⟩ := q
      simp only at h1 h2
      have e9 : rightR ⟨kind, name, key, value, n, pri⟩ = 1 := by
        unfold rightR
        rw [if_pos (.inr (.inl (by simp only; omega)))]
      replace e9 := Lib.hid e9
      have hd1 : decide (kind < 1) = false := decide_eq_false (by omega)
      have hd2 : decide (14 < kind) = true := decide_eq_true (by omega)
      have hbx := Whole.new w 38 #[.int .i64 kind, .string name, .string key, .string value, .int .i64 n, .int .i64 pri]
      unfold Req.val
      go_enter Try.func21, Try.ntmps21
      go_wp2_with fail
      go_quiet (fail)
      go_wp2
      go_ret
      exact ⟨ret_int e9.out.symm, by (refine upd_to_below ?_; repeat (first | exact Upd.refl _ _ | refine Upd.setCell ?_ (Or.inl (by simp)) _ | refine Upd.alloc ?_ _ | refine Upd.drewN ?_ _ | refine Upd.drew ?_))⟩
  · obtain ⟨kind, name, key, value, n, pri⟩ := q
    simp only at h1
    have e9 : rightR ⟨kind, name, key, value, n, pri⟩ = 1 := by
      unfold rightR
      rw [if_pos (.inl (by simp only; omega))]
    replace e9 := Lib.hid e9
    have hd1 : decide (kind < 1) = true := decide_eq_true (by omega)
    unfold Req.val
    go_enter Try.func21, Try.ntmps21
    go_wp2_with fail
    go_quiet (fail)
    go_wp2
    go_ret
    exact ⟨ret_int e9.out.symm, by (refine upd_to_below ?_; repeat (first | exact Upd.refl _ _ | refine Upd.setCell ?_ (Or.inl (by simp)) _ | refine Upd.alloc ?_ _ | refine Upd.drewN ?_ _ | refine Upd.drew ?_))⟩
end Go.Proofs.Ytbckobclicogiaa
