/-
  posteref14.RightEffect: it tells of an effect always the same.
-/
import Derived.Test.YtegomkgfmaclkaaVi
import Derived.Deep.DeepCutAuto
set_option linter.unusedVariables false
set_option linter.unusedSimpArgs false
namespace Go.Proofs.Ytegomkgfmaclkaa
open Go.RowKit Go.Proofs.PosteOrd Go.Proofs.PosteMem

def eqEf (a b : Ef) : Bool := if a.kind = b.kind then (if a.obj.toList = b.obj.toList then (if a.key.toList = b.key.toList then (if a.val.toList = b.val.toList then (if a.n = b.n then (if a.limit = b.limit then (if a.tried = b.tried then (if a.msg.id = b.msg.id then (if a.msg.pri = b.msg.pri then (if a.msg.retry = b.msg.retry then (if a.msg.claimed = b.msg.claimed then (if a.msg.corr.toList = b.msg.corr.toList then (if a.msg.body.toList = b.msg.body.toList then true else false) else false) else false) else false) else false) else false) else false) else false) else false) else false) else false) else false) else false
theorem ite_ok {c : Prop} [Decidable c] (a b : Bool) (w : World) : (if c then (Result.ok (Value.bool a) w : Result Value) else Result.ok (Value.bool b) w) = Result.ok (Value.bool (if c then a else b)) w := by split <;> rfl
theorem eq_ef (w : World) (a b : Ef) : (binOp .eql 50 (.agg a.cells.toArray) (.agg b.cells.toArray)).run Try.prog w = .ok (.bool (eqEf a b)) w := by
  obtain ⟨x0, x1, x2, x3, x4, x5, x6, ⟨x7, x8, x9, x10, x11, x12⟩⟩ := a
  obtain ⟨y0, y1, y2, y3, y4, y5, y6, ⟨y7, y8, y9, y10, y11, y12⟩⟩ := b
  unfold Ef.cells eqEf
  simp only
  rw [run_eql_struct]
  go_simp
  simp only [ite_ok]
  congr 2
  first | (simp; done) | (simp only [Bool.if_false_right, Bool.if_true_left]; done) | (simp [Bool.and_eq_true]; done)
set_option maxRecDepth 100000 in
set_option maxHeartbeats 8000000 in
theorem right_ex5 (x1 x2 x3 : ByteArray) (x4 x5 : Int) (x6 : Bool) (x7 x8 x9 : Int) (x10 : Bool) (x11 x12 : ByteArray) : ∃ b : Bool, ∀ w : World, Calls Try.prog 29 #[.agg (Ef.cells ⟨5, x1, x2, x3, x4, x5, x6, ⟨x7, x8, x9, x10, x11, x12⟩⟩).toArray] w fun e w' => e = .returned (.bool b) ∧ Below w.heap.size w w' := by
  have hn := fun W : World => name_any W x1
  generalize nameB x1 = nb at *
  replace hn := Lib.hid hn
  have heq := fun w : World => eq_ef w ⟨5, x1, ⟨#[]⟩, ⟨#[]⟩, x4, 0, false, ⟨0, 0, 0, false, ⟨#[]⟩, ⟨#[]⟩⟩⟩ ⟨5, x1, x2, x3, x4, x5, x6, ⟨x7, x8, x9, x10, x11, x12⟩⟩
  generalize eqEf _ _ = r at heq
  unfold Ef.cells at heq ⊢
  simp only at heq ⊢
  cases nb with
  | false =>
    clear heq
    refine ⟨false, fun w => ?_⟩
    go_enter Try.func29, Try.ntmps29
    go_wp2_with (first | (go_at_call 64; refine (hn.out _).mono ?_; rintro e w9 ⟨rfl, hw1⟩; have hw2 := hw1.symm; subst hw2; clear hw1) | (go_at_call 65; refine (hkd.out _).mono ?_; rintro e w9 ⟨rfl, hw1⟩; have hw2 := hw1.symm; subst hw2; clear hw1))
    go_ret
    exact ⟨by first | rfl | simp, by (refine upd_to_below ?_; repeat (first | exact Upd.refl _ _ | refine Upd.setCell ?_ (Or.inl (by simp)) _ | refine Upd.alloc ?_ _ | refine Upd.drewN ?_ _ | refine Upd.drew ?_))⟩
  | true =>
    by_cases g1 : 1 ≤ x4
    · by_cases g2 : x4 ≤ 1099511627776
      · have g3 : True := trivial
        refine ⟨r, fun w => ?_⟩
        go_enter Try.func29, Try.ntmps29
        go_wp2_with (first | (go_at_call 64; refine (hn.out _).mono ?_; rintro e w9 ⟨rfl, hw1⟩; have hw2 := hw1.symm; subst hw2; clear hw1) | (go_at_call 65; refine (hkd.out _).mono ?_; rintro e w9 ⟨rfl, hw1⟩; have hw2 := hw1.symm; subst hw2; clear hw1))
        go_ret
        exact ⟨by first | rfl | simp, by (refine upd_to_below ?_; repeat (first | exact Upd.refl _ _ | refine Upd.setCell ?_ (Or.inl (by simp)) _ | refine Upd.alloc ?_ _ | refine Upd.drewN ?_ _ | refine Upd.drew ?_))⟩
      · clear heq
        refine ⟨false, fun w => ?_⟩
        go_enter Try.func29, Try.ntmps29
        go_wp2_with (first | (go_at_call 64; refine (hn.out _).mono ?_; rintro e w9 ⟨rfl, hw1⟩; have hw2 := hw1.symm; subst hw2; clear hw1) | (go_at_call 65; refine (hkd.out _).mono ?_; rintro e w9 ⟨rfl, hw1⟩; have hw2 := hw1.symm; subst hw2; clear hw1))
        go_ret
        exact ⟨by first | rfl | simp, by (refine upd_to_below ?_; repeat (first | exact Upd.refl _ _ | refine Upd.setCell ?_ (Or.inl (by simp)) _ | refine Upd.alloc ?_ _ | refine Upd.drewN ?_ _ | refine Upd.drew ?_))⟩
    · clear heq
      refine ⟨false, fun w => ?_⟩
      go_enter Try.func29, Try.ntmps29
      go_wp2_with (first | (go_at_call 64; refine (hn.out _).mono ?_; rintro e w9 ⟨rfl, hw1⟩; have hw2 := hw1.symm; subst hw2; clear hw1) | (go_at_call 65; refine (hkd.out _).mono ?_; rintro e w9 ⟨rfl, hw1⟩; have hw2 := hw1.symm; subst hw2; clear hw1))
      go_ret
      exact ⟨by first | rfl | simp, by (refine upd_to_below ?_; repeat (first | exact Upd.refl _ _ | refine Upd.setCell ?_ (Or.inl (by simp)) _ | refine Upd.alloc ?_ _ | refine Upd.drewN ?_ _ | refine Upd.drew ?_))⟩
set_option maxRecDepth 100000 in
set_option maxHeartbeats 8000000 in
theorem right_ex6 (x1 x2 x3 : ByteArray) (x4 x5 : Int) (x6 : Bool) (x7 x8 x9 : Int) (x10 : Bool) (x11 x12 : ByteArray) : ∃ b : Bool, ∀ w : World, Calls Try.prog 29 #[.agg (Ef.cells ⟨6, x1, x2, x3, x4, x5, x6, ⟨x7, x8, x9, x10, x11, x12⟩⟩).toArray] w fun e w' => e = .returned (.bool b) ∧ Below w.heap.size w w' := by
  have hn := fun W : World => name_any W x1
  generalize nameB x1 = nb at *
  replace hn := Lib.hid hn
  have heq := fun w : World => eq_ef w ⟨6, x1, ⟨#[]⟩, ⟨#[]⟩, x4, 0, false, ⟨0, 0, 0, false, ⟨#[]⟩, ⟨#[]⟩⟩⟩ ⟨6, x1, x2, x3, x4, x5, x6, ⟨x7, x8, x9, x10, x11, x12⟩⟩
  generalize eqEf _ _ = r at heq
  unfold Ef.cells at heq ⊢
  simp only at heq ⊢
  cases nb with
  | false =>
    clear heq
    refine ⟨false, fun w => ?_⟩
    go_enter Try.func29, Try.ntmps29
    go_wp2_with (first | (go_at_call 64; refine (hn.out _).mono ?_; rintro e w9 ⟨rfl, hw1⟩; have hw2 := hw1.symm; subst hw2; clear hw1) | (go_at_call 65; refine (hkd.out _).mono ?_; rintro e w9 ⟨rfl, hw1⟩; have hw2 := hw1.symm; subst hw2; clear hw1))
    go_ret
    exact ⟨by first | rfl | simp, by (refine upd_to_below ?_; repeat (first | exact Upd.refl _ _ | refine Upd.setCell ?_ (Or.inl (by simp)) _ | refine Upd.alloc ?_ _ | refine Upd.drewN ?_ _ | refine Upd.drew ?_))⟩
  | true =>
    by_cases g1 : 1 ≤ x4
    · by_cases g2 : x4 ≤ 1099511627776
      · have g3 : True := trivial
        refine ⟨r, fun w => ?_⟩
        go_enter Try.func29, Try.ntmps29
        go_wp2_with (first | (go_at_call 64; refine (hn.out _).mono ?_; rintro e w9 ⟨rfl, hw1⟩; have hw2 := hw1.symm; subst hw2; clear hw1) | (go_at_call 65; refine (hkd.out _).mono ?_; rintro e w9 ⟨rfl, hw1⟩; have hw2 := hw1.symm; subst hw2; clear hw1))
        go_ret
        exact ⟨by first | rfl | simp, by (refine upd_to_below ?_; repeat (first | exact Upd.refl _ _ | refine Upd.setCell ?_ (Or.inl (by simp)) _ | refine Upd.alloc ?_ _ | refine Upd.drewN ?_ _ | refine Upd.drew ?_))⟩
      · clear heq
        refine ⟨false, fun w => ?_⟩
        go_enter Try.func29, Try.ntmps29
        go_wp2_with (first | (go_at_call 64; refine (hn.out _).mono ?_; rintro e w9 ⟨rfl, hw1⟩; have hw2 := hw1.symm; subst hw2; clear hw1) | (go_at_call 65; refine (hkd.out _).mono ?_; rintro e w9 ⟨rfl, hw1⟩; have hw2 := hw1.symm; subst hw2; clear hw1))
        go_ret
        exact ⟨by first | rfl | simp, by (refine upd_to_below ?_; repeat (first | exact Upd.refl _ _ | refine Upd.setCell ?_ (Or.inl (by simp)) _ | refine Upd.alloc ?_ _ | refine Upd.drewN ?_ _ | refine Upd.drew ?_))⟩
    · clear heq
      refine ⟨false, fun w => ?_⟩
      go_enter Try.func29, Try.ntmps29
      go_wp2_with (first | (go_at_call 64; refine (hn.out _).mono ?_; rintro e w9 ⟨rfl, hw1⟩; have hw2 := hw1.symm; subst hw2; clear hw1) | (go_at_call 65; refine (hkd.out _).mono ?_; rintro e w9 ⟨rfl, hw1⟩; have hw2 := hw1.symm; subst hw2; clear hw1))
      go_ret
      exact ⟨by first | rfl | simp, by (refine upd_to_below ?_; repeat (first | exact Upd.refl _ _ | refine Upd.setCell ?_ (Or.inl (by simp)) _ | refine Upd.alloc ?_ _ | refine Upd.drewN ?_ _ | refine Upd.drew ?_))⟩
set_option maxRecDepth 100000 in
set_option maxHeartbeats 8000000 in
theorem right_ex7 (x1 x2 x3 : ByteArray) (x4 x5 : Int) (x6 : Bool) (x7 x8 x9 : Int) (x10 : Bool) (x11 x12 : ByteArray) : ∃ b : Bool, ∀ w : World, Calls Try.prog 29 #[.agg (Ef.cells ⟨7, x1, x2, x3, x4, x5, x6, ⟨x7, x8, x9, x10, x11, x12⟩⟩).toArray] w fun e w' => e = .returned (.bool b) ∧ Below w.heap.size w w' := by
  have hn := fun W : World => name_any W x1
  generalize nameB x1 = nb at *
  replace hn := Lib.hid hn
  have heq := fun w : World => eq_ef w ⟨7, x1, ⟨#[]⟩, ⟨#[]⟩, x4, 0, x6, ⟨0, 0, 0, false, ⟨#[]⟩, ⟨#[]⟩⟩⟩ ⟨7, x1, x2, x3, x4, x5, x6, ⟨x7, x8, x9, x10, x11, x12⟩⟩
  generalize eqEf _ _ = r at heq
  unfold Ef.cells at heq ⊢
  simp only at heq ⊢
  cases nb with
  | false =>
    clear heq
    refine ⟨false, fun w => ?_⟩
    go_enter Try.func29, Try.ntmps29
    go_wp2_with (first | (go_at_call 64; refine (hn.out _).mono ?_; rintro e w9 ⟨rfl, hw1⟩; have hw2 := hw1.symm; subst hw2; clear hw1) | (go_at_call 65; refine (hkd.out _).mono ?_; rintro e w9 ⟨rfl, hw1⟩; have hw2 := hw1.symm; subst hw2; clear hw1))
    go_ret
    exact ⟨by first | rfl | simp, by (refine upd_to_below ?_; repeat (first | exact Upd.refl _ _ | refine Upd.setCell ?_ (Or.inl (by simp)) _ | refine Upd.alloc ?_ _ | refine Upd.drewN ?_ _ | refine Upd.drew ?_))⟩
  | true =>
    by_cases g1 : 1 ≤ x4
    · by_cases g2 : x4 ≤ 1099511627776
      · have g3 : True := trivial
        refine ⟨r, fun w => ?_⟩
        go_enter Try.func29, Try.ntmps29
        go_wp2_with (first | (go_at_call 64; refine (hn.out _).mono ?_; rintro e w9 ⟨rfl, hw1⟩; have hw2 := hw1.symm; subst hw2; clear hw1) | (go_at_call 65; refine (hkd.out _).mono ?_; rintro e w9 ⟨rfl, hw1⟩; have hw2 := hw1.symm; subst hw2; clear hw1))
        go_ret
        exact ⟨by first | rfl | simp, by (refine upd_to_below ?_; repeat (first | exact Upd.refl _ _ | refine Upd.setCell ?_ (Or.inl (by simp)) _ | refine Upd.alloc ?_ _ | refine Upd.drewN ?_ _ | refine Upd.drew ?_))⟩
      · clear heq
        refine ⟨false, fun w => ?_⟩
        go_enter Try.func29, Try.ntmps29
        go_wp2_with (first | (go_at_call 64; refine (hn.out _).mono ?_; rintro e w9 ⟨rfl, hw1⟩; have hw2 := hw1.symm; subst hw2; clear hw1) | (go_at_call 65; refine (hkd.out _).mono ?_; rintro e w9 ⟨rfl, hw1⟩; have hw2 := hw1.symm; subst hw2; clear hw1))
        go_ret
        exact ⟨by first | rfl | simp, by (refine upd_to_below ?_; repeat (first | exact Upd.refl _ _ | refine Upd.setCell ?_ (Or.inl (by simp)) _ | refine Upd.alloc ?_ _ | refine Upd.drewN ?_ _ | refine Upd.drew ?_))⟩
    · clear heq
      refine ⟨false, fun w => ?_⟩
      go_enter Try.func29, Try.ntmps29
      go_wp2_with (first | (go_at_call 64; refine (hn.out _).mono ?_; rintro e w9 ⟨rfl, hw1⟩; have hw2 := hw1.symm; subst hw2; clear hw1) | (go_at_call 65; refine (hkd.out _).mono ?_; rintro e w9 ⟨rfl, hw1⟩; have hw2 := hw1.symm; subst hw2; clear hw1))
      go_ret
      exact ⟨by first | rfl | simp, by (refine upd_to_below ?_; repeat (first | exact Upd.refl _ _ | refine Upd.setCell ?_ (Or.inl (by simp)) _ | refine Upd.alloc ?_ _ | refine Upd.drewN ?_ _ | refine Upd.drew ?_))⟩
set_option maxRecDepth 100000 in
set_option maxHeartbeats 8000000 in
theorem right_ex8 (x1 x2 x3 : ByteArray) (x4 x5 : Int) (x6 : Bool) (x7 x8 x9 : Int) (x10 : Bool) (x11 x12 : ByteArray) : ∃ b : Bool, ∀ w : World, Calls Try.prog 29 #[.agg (Ef.cells ⟨8, x1, x2, x3, x4, x5, x6, ⟨x7, x8, x9, x10, x11, x12⟩⟩).toArray] w fun e w' => e = .returned (.bool b) ∧ Below w.heap.size w w' := by
  have hn := fun W : World => name_any W x1
  generalize nameB x1 = nb at *
  replace hn := Lib.hid hn
  have heq := fun w : World => eq_ef w ⟨8, ⟨#[]⟩, ⟨#[]⟩, ⟨#[]⟩, x4, 0, false, ⟨0, 0, 0, false, ⟨#[]⟩, ⟨#[]⟩⟩⟩ ⟨8, x1, x2, x3, x4, x5, x6, ⟨x7, x8, x9, x10, x11, x12⟩⟩
  generalize eqEf _ _ = r at heq
  unfold Ef.cells at heq ⊢
  simp only at heq ⊢
  cases nb
  all_goals
    by_cases g1 : 1 ≤ x4
    · by_cases g2 : x4 ≤ 1099511627776
      · have g3 : True := trivial
        refine ⟨r, fun w => ?_⟩
        go_enter Try.func29, Try.ntmps29
        go_wp2_with (first | (go_at_call 64; refine (hn.out _).mono ?_; rintro e w9 ⟨rfl, hw1⟩; have hw2 := hw1.symm; subst hw2; clear hw1) | (go_at_call 65; refine (hkd.out _).mono ?_; rintro e w9 ⟨rfl, hw1⟩; have hw2 := hw1.symm; subst hw2; clear hw1))
        go_ret
        exact ⟨by first | rfl | simp, by (refine upd_to_below ?_; repeat (first | exact Upd.refl _ _ | refine Upd.setCell ?_ (Or.inl (by simp)) _ | refine Upd.alloc ?_ _ | refine Upd.drewN ?_ _ | refine Upd.drew ?_))⟩
      · clear heq
        refine ⟨false, fun w => ?_⟩
        go_enter Try.func29, Try.ntmps29
        go_wp2_with (first | (go_at_call 64; refine (hn.out _).mono ?_; rintro e w9 ⟨rfl, hw1⟩; have hw2 := hw1.symm; subst hw2; clear hw1) | (go_at_call 65; refine (hkd.out _).mono ?_; rintro e w9 ⟨rfl, hw1⟩; have hw2 := hw1.symm; subst hw2; clear hw1))
        go_ret
        exact ⟨by first | rfl | simp, by (refine upd_to_below ?_; repeat (first | exact Upd.refl _ _ | refine Upd.setCell ?_ (Or.inl (by simp)) _ | refine Upd.alloc ?_ _ | refine Upd.drewN ?_ _ | refine Upd.drew ?_))⟩
    · clear heq
      refine ⟨false, fun w => ?_⟩
      go_enter Try.func29, Try.ntmps29
      go_wp2_with (first | (go_at_call 64; refine (hn.out _).mono ?_; rintro e w9 ⟨rfl, hw1⟩; have hw2 := hw1.symm; subst hw2; clear hw1) | (go_at_call 65; refine (hkd.out _).mono ?_; rintro e w9 ⟨rfl, hw1⟩; have hw2 := hw1.symm; subst hw2; clear hw1))
      go_ret
      exact ⟨by first | rfl | simp, by (refine upd_to_below ?_; repeat (first | exact Upd.refl _ _ | refine Upd.setCell ?_ (Or.inl (by simp)) _ | refine Upd.alloc ?_ _ | refine Upd.drewN ?_ _ | refine Upd.drew ?_))⟩
set_option maxRecDepth 100000 in
set_option maxHeartbeats 8000000 in
theorem right_ex1 (x1 x2 x3 : ByteArray) (x4 x5 : Int) (x6 : Bool) (x7 x8 x9 : Int) (x10 : Bool) (x11 x12 : ByteArray) : ∃ b : Bool, ∀ w : World, Calls Try.prog 29 #[.agg (Ef.cells ⟨1, x1, x2, x3, x4, x5, x6, ⟨x7, x8, x9, x10, x11, x12⟩⟩).toArray] w fun e w' => e = .returned (.bool b) ∧ Below w.heap.size w w' := by
  have hn := fun W : World => name_any W x1
  generalize nameB x1 = nb at *
  replace hn := Lib.hid hn
  have hkd := fun W : World => kind_any W x4 x5
  generalize kindB x4 x5 = kb at *
  replace hkd := Lib.hid hkd
  have heq := fun w : World => eq_ef w ⟨1, x1, ⟨#[]⟩, ⟨#[]⟩, x4, x5, false, ⟨0, 0, 0, false, ⟨#[]⟩, ⟨#[]⟩⟩⟩ ⟨1, x1, x2, x3, x4, x5, x6, ⟨x7, x8, x9, x10, x11, x12⟩⟩
  generalize eqEf _ _ = r at heq
  unfold Ef.cells at heq ⊢
  simp only at heq ⊢
  cases nb with
  | false =>
    clear heq
    refine ⟨false, fun w => ?_⟩
    go_enter Try.func29, Try.ntmps29
    go_wp2_with (first | (go_at_call 64; refine (hn.out _).mono ?_; rintro e w9 ⟨rfl, hw1⟩; have hw2 := hw1.symm; subst hw2; clear hw1) | (go_at_call 65; refine (hkd.out _).mono ?_; rintro e w9 ⟨rfl, hw1⟩; have hw2 := hw1.symm; subst hw2; clear hw1))
    go_ret
    exact ⟨by first | rfl | simp, by (refine upd_to_below ?_; repeat (first | exact Upd.refl _ _ | refine Upd.setCell ?_ (Or.inl (by simp)) _ | refine Upd.alloc ?_ _ | refine Upd.drewN ?_ _ | refine Upd.drew ?_))⟩
  | true =>
    cases kb with
    | false =>
      clear heq
      refine ⟨false, fun w => ?_⟩
      go_enter Try.func29, Try.ntmps29
      go_wp2_with (first | (go_at_call 64; refine (hn.out _).mono ?_; rintro e w9 ⟨rfl, hw1⟩; have hw2 := hw1.symm; subst hw2; clear hw1) | (go_at_call 65; refine (hkd.out _).mono ?_; rintro e w9 ⟨rfl, hw1⟩; have hw2 := hw1.symm; subst hw2; clear hw1))
      go_ret
      exact ⟨by first | rfl | simp, by (refine upd_to_below ?_; repeat (first | exact Upd.refl _ _ | refine Upd.setCell ?_ (Or.inl (by simp)) _ | refine Upd.alloc ?_ _ | refine Upd.drewN ?_ _ | refine Upd.drew ?_))⟩
    | true =>
      refine ⟨r, fun w => ?_⟩
      go_enter Try.func29, Try.ntmps29
      go_wp2_with (first | (go_at_call 64; refine (hn.out _).mono ?_; rintro e w9 ⟨rfl, hw1⟩; have hw2 := hw1.symm; subst hw2; clear hw1) | (go_at_call 65; refine (hkd.out _).mono ?_; rintro e w9 ⟨rfl, hw1⟩; have hw2 := hw1.symm; subst hw2; clear hw1))
      go_ret
      exact ⟨by first | rfl | simp, by (refine upd_to_below ?_; repeat (first | exact Upd.refl _ _ | refine Upd.setCell ?_ (Or.inl (by simp)) _ | refine Upd.alloc ?_ _ | refine Upd.drewN ?_ _ | refine Upd.drew ?_))⟩
set_option maxRecDepth 100000 in
set_option maxHeartbeats 8000000 in
theorem right_ex2 (x1 x2 x3 : ByteArray) (x4 x5 : Int) (x6 : Bool) (x7 x8 x9 : Int) (x10 : Bool) (x11 x12 : ByteArray) : ∃ b : Bool, ∀ w : World, Calls Try.prog 29 #[.agg (Ef.cells ⟨2, x1, x2, x3, x4, x5, x6, ⟨x7, x8, x9, x10, x11, x12⟩⟩).toArray] w fun e w' => e = .returned (.bool b) ∧ Below w.heap.size w w' := by
  have hn := fun W : World => name_any W x1
  generalize nameB x1 = nb at *
  replace hn := Lib.hid hn
  have hR := fun W : World => rightRow_any W ⟨x2, x3⟩
  generalize rightB ⟨x2, x3⟩ = rb at *
  replace hR := Lib.hid hR
  have heq := fun w : World => eq_ef w ⟨2, x1, x2, x3, 0, 0, false, ⟨0, 0, 0, false, ⟨#[]⟩, ⟨#[]⟩⟩⟩ ⟨2, x1, x2, x3, x4, x5, x6, ⟨x7, x8, x9, x10, x11, x12⟩⟩
  generalize eqEf _ _ = r at heq
  unfold Ef.cells at heq ⊢
  simp only at heq ⊢
  cases nb with
  | false =>
    clear heq
    refine ⟨false, fun w => ?_⟩
    go_enter Try.func29, Try.ntmps29
    go_wp2_with (first | (go_at_call 64; refine (hn.out _).mono ?_; rintro e w9 ⟨rfl, hw1⟩; have hw2 := hw1.symm; subst hw2; clear hw1) | (go_at_call 65; refine (hkd.out _).mono ?_; rintro e w9 ⟨rfl, hw1⟩; have hw2 := hw1.symm; subst hw2; clear hw1))
    go_ret
    exact ⟨by first | rfl | simp, by (refine upd_to_below ?_; repeat (first | exact Upd.refl _ _ | refine Upd.setCell ?_ (Or.inl (by simp)) _ | refine Upd.alloc ?_ _ | refine Upd.drewN ?_ _ | refine Upd.drew ?_))⟩
  | true =>
    cases rb with
    | false =>
      clear heq
      refine ⟨false, fun w => ?_⟩
      have hE1 := (Whole.new w 50 #[.int .i64 2, .string x1, .string x2, .string x3, .int .i64 x4, .int .i64 x5, .bool x6, .int .i64 x7, .int .i64 x8, .int .i64 x9, .bool x10, .string x11, .string x12]).alloc (.cells #[.int .i64 2, .string x1, .string x2, .string x3, .int .i64 0, .int .i64 0, .bool false, .int .i64 0, .int .i64 0, .int .i64 0, .bool false, .string ⟨#[]⟩, .string ⟨#[]⟩] 50)
      have hX1 := Whole.new (w.alloc (.cells #[.int .i64 2, .string x1, .string x2, .string x3, .int .i64 x4, .int .i64 x5, .bool x6, .int .i64 x7, .int .i64 x8, .int .i64 x9, .bool x10, .string x11, .string x12] 50)) 50 #[.int .i64 2, .string x1, .string x2, .string x3, .int .i64 0, .int .i64 0, .bool false, .int .i64 0, .int .i64 0, .int .i64 0, .bool false, .string ⟨#[]⟩, .string ⟨#[]⟩]
      rw [show (w.alloc (.cells #[.int .i64 2, .string x1, .string x2, .string x3, .int .i64 x4, .int .i64 x5, .bool x6, .int .i64 x7, .int .i64 x8, .int .i64 x9, .bool x10, .string x11, .string x12] 50)).heap.size = w.heap.size + 1 by simp] at hX1
      have hB1 : Below w.heap.size w ((w.alloc (.cells #[.int .i64 2, .string x1, .string x2, .string x3, .int .i64 x4, .int .i64 x5, .bool x6, .int .i64 x7, .int .i64 x8, .int .i64 x9, .bool x10, .string x11, .string x12] 50)).alloc (.cells #[.int .i64 2, .string x1, .string x2, .string x3, .int .i64 0, .int .i64 0, .bool false, .int .i64 0, .int .i64 0, .int .i64 0, .bool false, .string ⟨#[]⟩, .string ⟨#[]⟩] 50)) := by (refine upd_to_below ?_; repeat (first | exact Upd.refl _ _ | refine Upd.setCell ?_ (Or.inl (by simp)) _ | refine Upd.alloc ?_ _ | refine Upd.drewN ?_ _ | refine Upd.drew ?_))
      replace hE1 := Lib.hid hE1
      replace hX1 := Lib.hid hX1
      replace hB1 := Lib.hid hB1
      go_enter Try.func29, Try.ntmps29
      go_upto_region 30 with (first | (go_at_call 64; refine (hn.out _).mono ?_; rintro e w9 ⟨rfl, hw1⟩; have hw2 := hw1.symm; subst hw2; clear hw1) | (go_at_call 68; refine (hR.out _).mono ?_; rintro e w4 ⟨rfl, hb4⟩))
      have hE4 := hE1.out.below hb4
      have hX4 := hX1.out.below hb4
      have hB4 := Lib.hid (hB1.out.trans (hb4.mono hB1.out.size))
      clear hE1 hX1 hB1 hb4
      have c0 := hE4.cell 0
      have d0 := hX4.cell 0
      have c1 := hE4.cell 1
      have d1 := hX4.cell 1
      have c2 := hE4.cell 2
      have d2 := hX4.cell 2
      have c3 := hE4.cell 3
      have d3 := hX4.cell 3
      have c4 := hE4.cell 4
      have d4 := hX4.cell 4
      have c5 := hE4.cell 5
      have d5 := hX4.cell 5
      have c6 := hE4.cell 6
      have d6 := hX4.cell 6
      have c7 := hE4.cell 7
      have d7 := hX4.cell 7
      have c8 := hE4.cell 8
      have d8 := hX4.cell 8
      have c9 := hE4.cell 9
      have d9 := hX4.cell 9
      have c10 := hE4.cell 10
      have d10 := hX4.cell 10
      have c11 := hE4.cell 11
      have d11 := hX4.cell 11
      have c12 := hE4.cell 12
      have d12 := hX4.cell 12
      have hl1 := hE4.lt
      have hl2 := hX4.lt
      clear hE4 hX4
      go_wp2_with fail
      go_ret
      exact ⟨by first | rfl | simp, hB4.out⟩
    | true =>
      refine ⟨r, fun w => ?_⟩
      have hE1 := (Whole.new w 50 #[.int .i64 2, .string x1, .string x2, .string x3, .int .i64 x4, .int .i64 x5, .bool x6, .int .i64 x7, .int .i64 x8, .int .i64 x9, .bool x10, .string x11, .string x12]).alloc (.cells #[.int .i64 2, .string x1, .string x2, .string x3, .int .i64 0, .int .i64 0, .bool false, .int .i64 0, .int .i64 0, .int .i64 0, .bool false, .string ⟨#[]⟩, .string ⟨#[]⟩] 50)
      have hX1 := Whole.new (w.alloc (.cells #[.int .i64 2, .string x1, .string x2, .string x3, .int .i64 x4, .int .i64 x5, .bool x6, .int .i64 x7, .int .i64 x8, .int .i64 x9, .bool x10, .string x11, .string x12] 50)) 50 #[.int .i64 2, .string x1, .string x2, .string x3, .int .i64 0, .int .i64 0, .bool false, .int .i64 0, .int .i64 0, .int .i64 0, .bool false, .string ⟨#[]⟩, .string ⟨#[]⟩]
      rw [show (w.alloc (.cells #[.int .i64 2, .string x1, .string x2, .string x3, .int .i64 x4, .int .i64 x5, .bool x6, .int .i64 x7, .int .i64 x8, .int .i64 x9, .bool x10, .string x11, .string x12] 50)).heap.size = w.heap.size + 1 by simp] at hX1
      have hB1 : Below w.heap.size w ((w.alloc (.cells #[.int .i64 2, .string x1, .string x2, .string x3, .int .i64 x4, .int .i64 x5, .bool x6, .int .i64 x7, .int .i64 x8, .int .i64 x9, .bool x10, .string x11, .string x12] 50)).alloc (.cells #[.int .i64 2, .string x1, .string x2, .string x3, .int .i64 0, .int .i64 0, .bool false, .int .i64 0, .int .i64 0, .int .i64 0, .bool false, .string ⟨#[]⟩, .string ⟨#[]⟩] 50)) := by (refine upd_to_below ?_; repeat (first | exact Upd.refl _ _ | refine Upd.setCell ?_ (Or.inl (by simp)) _ | refine Upd.alloc ?_ _ | refine Upd.drewN ?_ _ | refine Upd.drew ?_))
      replace hE1 := Lib.hid hE1
      replace hX1 := Lib.hid hX1
      replace hB1 := Lib.hid hB1
      go_enter Try.func29, Try.ntmps29
      go_upto_region 30 with (first | (go_at_call 64; refine (hn.out _).mono ?_; rintro e w9 ⟨rfl, hw1⟩; have hw2 := hw1.symm; subst hw2; clear hw1) | (go_at_call 68; refine (hR.out _).mono ?_; rintro e w4 ⟨rfl, hb4⟩))
      have hE4 := hE1.out.below hb4
      have hX4 := hX1.out.below hb4
      have hB4 := Lib.hid (hB1.out.trans (hb4.mono hB1.out.size))
      clear hE1 hX1 hB1 hb4
      have c0 := hE4.cell 0
      have d0 := hX4.cell 0
      have c1 := hE4.cell 1
      have d1 := hX4.cell 1
      have c2 := hE4.cell 2
      have d2 := hX4.cell 2
      have c3 := hE4.cell 3
      have d3 := hX4.cell 3
      have c4 := hE4.cell 4
      have d4 := hX4.cell 4
      have c5 := hE4.cell 5
      have d5 := hX4.cell 5
      have c6 := hE4.cell 6
      have d6 := hX4.cell 6
      have c7 := hE4.cell 7
      have d7 := hX4.cell 7
      have c8 := hE4.cell 8
      have d8 := hX4.cell 8
      have c9 := hE4.cell 9
      have d9 := hX4.cell 9
      have c10 := hE4.cell 10
      have d10 := hX4.cell 10
      have c11 := hE4.cell 11
      have d11 := hX4.cell 11
      have c12 := hE4.cell 12
      have d12 := hX4.cell 12
      have hl1 := hE4.lt
      have hl2 := hX4.lt
      clear hE4 hX4
      go_wp2_with fail
      go_ret
      exact ⟨by first | rfl | simp, hB4.out⟩
set_option maxRecDepth 100000 in
set_option maxHeartbeats 8000000 in
theorem right_ex3 (x1 x2 x3 : ByteArray) (x4 x5 : Int) (x6 : Bool) (x7 x8 x9 : Int) (x10 : Bool) (x11 x12 : ByteArray) : ∃ b : Bool, ∀ w : World, Calls Try.prog 29 #[.agg (Ef.cells ⟨3, x1, x2, x3, x4, x5, x6, ⟨x7, x8, x9, x10, x11, x12⟩⟩).toArray] w fun e w' => e = .returned (.bool b) ∧ Below w.heap.size w w' := by
  have hn := fun W : World => name_any W x1
  generalize nameB x1 = nb at *
  replace hn := Lib.hid hn
  have hR := fun W : World => rightRow_any W ⟨x2, ⟨#[]⟩⟩
  generalize rightB ⟨x2, ⟨#[]⟩⟩ = rb at *
  replace hR := Lib.hid hR
  have heq := fun w : World => eq_ef w ⟨3, x1, x2, ⟨#[]⟩, 0, 0, false, ⟨0, 0, 0, false, ⟨#[]⟩, ⟨#[]⟩⟩⟩ ⟨3, x1, x2, x3, x4, x5, x6, ⟨x7, x8, x9, x10, x11, x12⟩⟩
  generalize eqEf _ _ = r at heq
  unfold Ef.cells at heq ⊢
  simp only at heq ⊢
  cases nb with
  | false =>
    clear heq
    refine ⟨false, fun w => ?_⟩
    go_enter Try.func29, Try.ntmps29
    go_wp2_with (first | (go_at_call 64; refine (hn.out _).mono ?_; rintro e w9 ⟨rfl, hw1⟩; have hw2 := hw1.symm; subst hw2; clear hw1) | (go_at_call 65; refine (hkd.out _).mono ?_; rintro e w9 ⟨rfl, hw1⟩; have hw2 := hw1.symm; subst hw2; clear hw1))
    go_ret
    exact ⟨by first | rfl | simp, by (refine upd_to_below ?_; repeat (first | exact Upd.refl _ _ | refine Upd.setCell ?_ (Or.inl (by simp)) _ | refine Upd.alloc ?_ _ | refine Upd.drewN ?_ _ | refine Upd.drew ?_))⟩
  | true =>
    cases rb with
    | false =>
      clear heq
      refine ⟨false, fun w => ?_⟩
      have hE1 := (Whole.new w 50 #[.int .i64 3, .string x1, .string x2, .string x3, .int .i64 x4, .int .i64 x5, .bool x6, .int .i64 x7, .int .i64 x8, .int .i64 x9, .bool x10, .string x11, .string x12]).alloc (.cells #[.int .i64 3, .string x1, .string x2, .string ⟨#[]⟩, .int .i64 0, .int .i64 0, .bool false, .int .i64 0, .int .i64 0, .int .i64 0, .bool false, .string ⟨#[]⟩, .string ⟨#[]⟩] 50)
      have hX1 := Whole.new (w.alloc (.cells #[.int .i64 3, .string x1, .string x2, .string x3, .int .i64 x4, .int .i64 x5, .bool x6, .int .i64 x7, .int .i64 x8, .int .i64 x9, .bool x10, .string x11, .string x12] 50)) 50 #[.int .i64 3, .string x1, .string x2, .string ⟨#[]⟩, .int .i64 0, .int .i64 0, .bool false, .int .i64 0, .int .i64 0, .int .i64 0, .bool false, .string ⟨#[]⟩, .string ⟨#[]⟩]
      rw [show (w.alloc (.cells #[.int .i64 3, .string x1, .string x2, .string x3, .int .i64 x4, .int .i64 x5, .bool x6, .int .i64 x7, .int .i64 x8, .int .i64 x9, .bool x10, .string x11, .string x12] 50)).heap.size = w.heap.size + 1 by simp] at hX1
      have hB1 : Below w.heap.size w ((w.alloc (.cells #[.int .i64 3, .string x1, .string x2, .string x3, .int .i64 x4, .int .i64 x5, .bool x6, .int .i64 x7, .int .i64 x8, .int .i64 x9, .bool x10, .string x11, .string x12] 50)).alloc (.cells #[.int .i64 3, .string x1, .string x2, .string ⟨#[]⟩, .int .i64 0, .int .i64 0, .bool false, .int .i64 0, .int .i64 0, .int .i64 0, .bool false, .string ⟨#[]⟩, .string ⟨#[]⟩] 50)) := by (refine upd_to_below ?_; repeat (first | exact Upd.refl _ _ | refine Upd.setCell ?_ (Or.inl (by simp)) _ | refine Upd.alloc ?_ _ | refine Upd.drewN ?_ _ | refine Upd.drew ?_))
      replace hE1 := Lib.hid hE1
      replace hX1 := Lib.hid hX1
      replace hB1 := Lib.hid hB1
      go_enter Try.func29, Try.ntmps29
      go_upto_region 30 with (first | (go_at_call 64; refine (hn.out _).mono ?_; rintro e w9 ⟨rfl, hw1⟩; have hw2 := hw1.symm; subst hw2; clear hw1) | (go_at_call 68; refine (hR.out _).mono ?_; rintro e w4 ⟨rfl, hb4⟩))
      have hE4 := hE1.out.below hb4
      have hX4 := hX1.out.below hb4
      have hB4 := Lib.hid (hB1.out.trans (hb4.mono hB1.out.size))
      clear hE1 hX1 hB1 hb4
      have c0 := hE4.cell 0
      have d0 := hX4.cell 0
      have c1 := hE4.cell 1
      have d1 := hX4.cell 1
      have c2 := hE4.cell 2
      have d2 := hX4.cell 2
      have c3 := hE4.cell 3
      have d3 := hX4.cell 3
      have c4 := hE4.cell 4
      have d4 := hX4.cell 4
      have c5 := hE4.cell 5
      have d5 := hX4.cell 5
      have c6 := hE4.cell 6
      have d6 := hX4.cell 6
      have c7 := hE4.cell 7
      have d7 := hX4.cell 7
      have c8 := hE4.cell 8
      have d8 := hX4.cell 8
      have c9 := hE4.cell 9
      have d9 := hX4.cell 9
      have c10 := hE4.cell 10
      have d10 := hX4.cell 10
      have c11 := hE4.cell 11
      have d11 := hX4.cell 11
      have c12 := hE4.cell 12
      have d12 := hX4.cell 12
      have hl1 := hE4.lt
      have hl2 := hX4.lt
      clear hE4 hX4
      go_wp2_with fail
      go_ret
      exact ⟨by first | rfl | simp, hB4.out⟩
    | true =>
      refine ⟨r, fun w => ?_⟩
      have hE1 := (Whole.new w 50 #[.int .i64 3, .string x1, .string x2, .string x3, .int .i64 x4, .int .i64 x5, .bool x6, .int .i64 x7, .int .i64 x8, .int .i64 x9, .bool x10, .string x11, .string x12]).alloc (.cells #[.int .i64 3, .string x1, .string x2, .string ⟨#[]⟩, .int .i64 0, .int .i64 0, .bool false, .int .i64 0, .int .i64 0, .int .i64 0, .bool false, .string ⟨#[]⟩, .string ⟨#[]⟩] 50)
      have hX1 := Whole.new (w.alloc (.cells #[.int .i64 3, .string x1, .string x2, .string x3, .int .i64 x4, .int .i64 x5, .bool x6, .int .i64 x7, .int .i64 x8, .int .i64 x9, .bool x10, .string x11, .string x12] 50)) 50 #[.int .i64 3, .string x1, .string x2, .string ⟨#[]⟩, .int .i64 0, .int .i64 0, .bool false, .int .i64 0, .int .i64 0, .int .i64 0, .bool false, .string ⟨#[]⟩, .string ⟨#[]⟩]
      rw [show (w.alloc (.cells #[.int .i64 3, .string x1, .string x2, .string x3, .int .i64 x4, .int .i64 x5, .bool x6, .int .i64 x7, .int .i64 x8, .int .i64 x9, .bool x10, .string x11, .string x12] 50)).heap.size = w.heap.size + 1 by simp] at hX1
      have hB1 : Below w.heap.size w ((w.alloc (.cells #[.int .i64 3, .string x1, .string x2, .string x3, .int .i64 x4, .int .i64 x5, .bool x6, .int .i64 x7, .int .i64 x8, .int .i64 x9, .bool x10, .string x11, .string x12] 50)).alloc (.cells #[.int .i64 3, .string x1, .string x2, .string ⟨#[]⟩, .int .i64 0, .int .i64 0, .bool false, .int .i64 0, .int .i64 0, .int .i64 0, .bool false, .string ⟨#[]⟩, .string ⟨#[]⟩] 50)) := by (refine upd_to_below ?_; repeat (first | exact Upd.refl _ _ | refine Upd.setCell ?_ (Or.inl (by simp)) _ | refine Upd.alloc ?_ _ | refine Upd.drewN ?_ _ | refine Upd.drew ?_))
      replace hE1 := Lib.hid hE1
      replace hX1 := Lib.hid hX1
      replace hB1 := Lib.hid hB1
      go_enter Try.func29, Try.ntmps29
      go_upto_region 30 with (first | (go_at_call 64; refine (hn.out _).mono ?_; rintro e w9 ⟨rfl, hw1⟩; have hw2 := hw1.symm; subst hw2; clear hw1) | (go_at_call 68; refine (hR.out _).mono ?_; rintro e w4 ⟨rfl, hb4⟩))
      have hE4 := hE1.out.below hb4
      have hX4 := hX1.out.below hb4
      have hB4 := Lib.hid (hB1.out.trans (hb4.mono hB1.out.size))
      clear hE1 hX1 hB1 hb4
      have c0 := hE4.cell 0
      have d0 := hX4.cell 0
      have c1 := hE4.cell 1
      have d1 := hX4.cell 1
      have c2 := hE4.cell 2
      have d2 := hX4.cell 2
      have c3 := hE4.cell 3
      have d3 := hX4.cell 3
      have c4 := hE4.cell 4
      have d4 := hX4.cell 4
      have c5 := hE4.cell 5
      have d5 := hX4.cell 5
      have c6 := hE4.cell 6
      have d6 := hX4.cell 6
      have c7 := hE4.cell 7
      have d7 := hX4.cell 7
      have c8 := hE4.cell 8
      have d8 := hX4.cell 8
      have c9 := hE4.cell 9
      have d9 := hX4.cell 9
      have c10 := hE4.cell 10
      have d10 := hX4.cell 10
      have c11 := hE4.cell 11
      have d11 := hX4.cell 11
      have c12 := hE4.cell 12
      have d12 := hX4.cell 12
      have hl1 := hE4.lt
      have hl2 := hX4.lt
      clear hE4 hX4
      go_wp2_with fail
      go_ret
      exact ⟨by first | rfl | simp, hB4.out⟩
set_option maxRecDepth 100000 in
set_option maxHeartbeats 8000000 in
theorem right_ex4 (x1 x2 x3 : ByteArray) (x4 x5 : Int) (x6 : Bool) (x7 x8 x9 : Int) (x10 : Bool) (x11 x12 : ByteArray) : ∃ b : Bool, ∀ w : World, Calls Try.prog 29 #[.agg (Ef.cells ⟨4, x1, x2, x3, x4, x5, x6, ⟨x7, x8, x9, x10, x11, x12⟩⟩).toArray] w fun e w' => e = .returned (.bool b) ∧ Below w.heap.size w w' := by
  have hn := fun W : World => name_any W x1
  generalize nameB x1 = nb at *
  replace hn := Lib.hid hn
  have hR := fun W : World => rightMsg_any W ⟨x7, x8, x9, x10, x11, x12⟩
  generalize msgB ⟨x7, x8, x9, x10, x11, x12⟩ = rb at *
  unfold Msg.cells at hR
  replace hR := Lib.hid hR
  have heq := fun w : World => eq_ef w ⟨4, x1, ⟨#[]⟩, ⟨#[]⟩, 0, 0, false, ⟨x7, x8, x9, x10, x11, x12⟩⟩ ⟨4, x1, x2, x3, x4, x5, x6, ⟨x7, x8, x9, x10, x11, x12⟩⟩
  generalize eqEf _ _ = r at heq
  unfold Ef.cells at heq ⊢
  simp only at heq ⊢
  cases nb with
  | false =>
    clear heq
    refine ⟨false, fun w => ?_⟩
    go_enter Try.func29, Try.ntmps29
    go_wp2_with (first | (go_at_call 64; refine (hn.out _).mono ?_; rintro e w9 ⟨rfl, hw1⟩; have hw2 := hw1.symm; subst hw2; clear hw1) | (go_at_call 65; refine (hkd.out _).mono ?_; rintro e w9 ⟨rfl, hw1⟩; have hw2 := hw1.symm; subst hw2; clear hw1))
    go_ret
    exact ⟨by first | rfl | simp, by (refine upd_to_below ?_; repeat (first | exact Upd.refl _ _ | refine Upd.setCell ?_ (Or.inl (by simp)) _ | refine Upd.alloc ?_ _ | refine Upd.drewN ?_ _ | refine Upd.drew ?_))⟩
  | true =>
    cases rb with
    | false =>
      clear heq
      refine ⟨false, fun w => ?_⟩
      have hE1 := (Whole.new w 50 #[.int .i64 4, .string x1, .string x2, .string x3, .int .i64 x4, .int .i64 x5, .bool x6, .int .i64 x7, .int .i64 x8, .int .i64 x9, .bool x10, .string x11, .string x12]).alloc (.cells #[.int .i64 4, .string x1, .string ⟨#[]⟩, .string ⟨#[]⟩, .int .i64 0, .int .i64 0, .bool false, .int .i64 x7, .int .i64 x8, .int .i64 x9, .bool x10, .string x11, .string x12] 50)
      have hX1 := Whole.new (w.alloc (.cells #[.int .i64 4, .string x1, .string x2, .string x3, .int .i64 x4, .int .i64 x5, .bool x6, .int .i64 x7, .int .i64 x8, .int .i64 x9, .bool x10, .string x11, .string x12] 50)) 50 #[.int .i64 4, .string x1, .string ⟨#[]⟩, .string ⟨#[]⟩, .int .i64 0, .int .i64 0, .bool false, .int .i64 x7, .int .i64 x8, .int .i64 x9, .bool x10, .string x11, .string x12]
      rw [show (w.alloc (.cells #[.int .i64 4, .string x1, .string x2, .string x3, .int .i64 x4, .int .i64 x5, .bool x6, .int .i64 x7, .int .i64 x8, .int .i64 x9, .bool x10, .string x11, .string x12] 50)).heap.size = w.heap.size + 1 by simp] at hX1
      have hB1 : Below w.heap.size w ((w.alloc (.cells #[.int .i64 4, .string x1, .string x2, .string x3, .int .i64 x4, .int .i64 x5, .bool x6, .int .i64 x7, .int .i64 x8, .int .i64 x9, .bool x10, .string x11, .string x12] 50)).alloc (.cells #[.int .i64 4, .string x1, .string ⟨#[]⟩, .string ⟨#[]⟩, .int .i64 0, .int .i64 0, .bool false, .int .i64 x7, .int .i64 x8, .int .i64 x9, .bool x10, .string x11, .string x12] 50)) := by (refine upd_to_below ?_; repeat (first | exact Upd.refl _ _ | refine Upd.setCell ?_ (Or.inl (by simp)) _ | refine Upd.alloc ?_ _ | refine Upd.drewN ?_ _ | refine Upd.drew ?_))
      replace hE1 := Lib.hid hE1
      replace hX1 := Lib.hid hX1
      replace hB1 := Lib.hid hB1
      go_enter Try.func29, Try.ntmps29
      go_upto_region 30 with (first | (go_at_call 64; refine (hn.out _).mono ?_; rintro e w9 ⟨rfl, hw1⟩; have hw2 := hw1.symm; subst hw2; clear hw1) | (go_at_call 70; refine (hR.out _).mono ?_; rintro e w4 ⟨rfl, hb4⟩))
      have hE4 := hE1.out.below hb4
      have hX4 := hX1.out.below hb4
      have hB4 := Lib.hid (hB1.out.trans (hb4.mono hB1.out.size))
      clear hE1 hX1 hB1 hb4
      have c0 := hE4.cell 0
      have d0 := hX4.cell 0
      have c1 := hE4.cell 1
      have d1 := hX4.cell 1
      have c2 := hE4.cell 2
      have d2 := hX4.cell 2
      have c3 := hE4.cell 3
      have d3 := hX4.cell 3
      have c4 := hE4.cell 4
      have d4 := hX4.cell 4
      have c5 := hE4.cell 5
      have d5 := hX4.cell 5
      have c6 := hE4.cell 6
      have d6 := hX4.cell 6
      have c7 := hE4.cell 7
      have d7 := hX4.cell 7
      have c8 := hE4.cell 8
      have d8 := hX4.cell 8
      have c9 := hE4.cell 9
      have d9 := hX4.cell 9
      have c10 := hE4.cell 10
      have d10 := hX4.cell 10
      have c11 := hE4.cell 11
      have d11 := hX4.cell 11
      have c12 := hE4.cell 12
      have d12 := hX4.cell 12
      have hl1 := hE4.lt
      have hl2 := hX4.lt
      clear hE4 hX4
      go_wp2_with fail
      go_ret
      exact ⟨by first | rfl | simp, hB4.out⟩
    | true =>
      refine ⟨r, fun w => ?_⟩
      have hE1 := (Whole.new w 50 #[.int .i64 4, .string x1, .string x2, .string x3, .int .i64 x4, .int .i64 x5, .bool x6, .int .i64 x7, .int .i64 x8, .int .i64 x9, .bool x10, .string x11, .string x12]).alloc (.cells #[.int .i64 4, .string x1, .string ⟨#[]⟩, .string ⟨#[]⟩, .int .i64 0, .int .i64 0, .bool false, .int .i64 x7, .int .i64 x8, .int .i64 x9, .bool x10, .string x11, .string x12] 50)
      have hX1 := Whole.new (w.alloc (.cells #[.int .i64 4, .string x1, .string x2, .string x3, .int .i64 x4, .int .i64 x5, .bool x6, .int .i64 x7, .int .i64 x8, .int .i64 x9, .bool x10, .string x11, .string x12] 50)) 50 #[.int .i64 4, .string x1, .string ⟨#[]⟩, .string ⟨#[]⟩, .int .i64 0, .int .i64 0, .bool false, .int .i64 x7, .int .i64 x8, .int .i64 x9, .bool x10, .string x11, .string x12]
      rw [show (w.alloc (.cells #[.int .i64 4, .string x1, .string x2, .string x3, .int .i64 x4, .int .i64 x5, .bool x6, .int .i64 x7, .int .i64 x8, .int .i64 x9, .bool x10, .string x11, .string x12] 50)).heap.size = w.heap.size + 1 by simp] at hX1
      have hB1 : Below w.heap.size w ((w.alloc (.cells #[.int .i64 4, .string x1, .string x2, .string x3, .int .i64 x4, .int .i64 x5, .bool x6, .int .i64 x7, .int .i64 x8, .int .i64 x9, .bool x10, .string x11, .string x12] 50)).alloc (.cells #[.int .i64 4, .string x1, .string ⟨#[]⟩, .string ⟨#[]⟩, .int .i64 0, .int .i64 0, .bool false, .int .i64 x7, .int .i64 x8, .int .i64 x9, .bool x10, .string x11, .string x12] 50)) := by (refine upd_to_below ?_; repeat (first | exact Upd.refl _ _ | refine Upd.setCell ?_ (Or.inl (by simp)) _ | refine Upd.alloc ?_ _ | refine Upd.drewN ?_ _ | refine Upd.drew ?_))
      replace hE1 := Lib.hid hE1
      replace hX1 := Lib.hid hX1
      replace hB1 := Lib.hid hB1
      go_enter Try.func29, Try.ntmps29
      go_upto_region 30 with (first | (go_at_call 64; refine (hn.out _).mono ?_; rintro e w9 ⟨rfl, hw1⟩; have hw2 := hw1.symm; subst hw2; clear hw1) | (go_at_call 70; refine (hR.out _).mono ?_; rintro e w4 ⟨rfl, hb4⟩))
      have hE4 := hE1.out.below hb4
      have hX4 := hX1.out.below hb4
      have hB4 := Lib.hid (hB1.out.trans (hb4.mono hB1.out.size))
      clear hE1 hX1 hB1 hb4
      have c0 := hE4.cell 0
      have d0 := hX4.cell 0
      have c1 := hE4.cell 1
      have d1 := hX4.cell 1
      have c2 := hE4.cell 2
      have d2 := hX4.cell 2
      have c3 := hE4.cell 3
      have d3 := hX4.cell 3
      have c4 := hE4.cell 4
      have d4 := hX4.cell 4
      have c5 := hE4.cell 5
      have d5 := hX4.cell 5
      have c6 := hE4.cell 6
      have d6 := hX4.cell 6
      have c7 := hE4.cell 7
      have d7 := hX4.cell 7
      have c8 := hE4.cell 8
      have d8 := hX4.cell 8
      have c9 := hE4.cell 9
      have d9 := hX4.cell 9
      have c10 := hE4.cell 10
      have d10 := hX4.cell 10
      have c11 := hE4.cell 11
      have d11 := hX4.cell 11
      have c12 := hE4.cell 12
      have d12 := hX4.cell 12
      have hl1 := hE4.lt
      have hl2 := hX4.lt
      clear hE4 hX4
      go_wp2_with fail
      go_ret
      exact ⟨by first | rfl | simp, hB4.out⟩
set_option maxRecDepth 100000 in
set_option maxHeartbeats 8000000 in
theorem right_ex (x : Ef) : ∃ b : Bool, ∀ w : World, Calls Try.prog 29 #[.agg x.cells.toArray] w fun e w' => e = .returned (.bool b) ∧ Below w.heap.size w w' := by
  obtain ⟨x0, x1, x2, x3, x4, x5, x6, ⟨x7, x8, x9, x10, x11, x12⟩⟩ := x
  by_cases h1 : x0 = 1
  · subst h1
    exact right_ex1 x1 x2 x3 x4 x5 x6 x7 x8 x9 x10 x11 x12
  by_cases h2 : x0 = 2
  · subst h2
    exact right_ex2 x1 x2 x3 x4 x5 x6 x7 x8 x9 x10 x11 x12
  by_cases h3 : x0 = 3
  · subst h3
    exact right_ex3 x1 x2 x3 x4 x5 x6 x7 x8 x9 x10 x11 x12
  by_cases h4 : x0 = 4
  · subst h4
    exact right_ex4 x1 x2 x3 x4 x5 x6 x7 x8 x9 x10 x11 x12
  by_cases h5 : x0 = 5
  · subst h5
    exact right_ex5 x1 x2 x3 x4 x5 x6 x7 x8 x9 x10 x11 x12
  by_cases h6 : x0 = 6
  · subst h6
    exact right_ex6 x1 x2 x3 x4 x5 x6 x7 x8 x9 x10 x11 x12
  by_cases h7 : x0 = 7
  · subst h7
    exact right_ex7 x1 x2 x3 x4 x5 x6 x7 x8 x9 x10 x11 x12
  by_cases h8 : x0 = 8
  · subst h8
    exact right_ex8 x1 x2 x3 x4 x5 x6 x7 x8 x9 x10 x11 x12
  have g1 : (x0 == 1) = false := beq_eq_false_iff_ne.2 h1
  have g2 : (x0 == 2) = false := beq_eq_false_iff_ne.2 h2
  have g3 : (x0 == 3) = false := beq_eq_false_iff_ne.2 h3
  have g4 : (x0 == 4) = false := beq_eq_false_iff_ne.2 h4
  have g5 : (x0 == 5) = false := beq_eq_false_iff_ne.2 h5
  have g6 : (x0 == 6) = false := beq_eq_false_iff_ne.2 h6
  have g7 : (x0 == 7) = false := beq_eq_false_iff_ne.2 h7
  have g8 : (x0 == 8) = false := beq_eq_false_iff_ne.2 h8
  have hn := fun W : World => name_any W x1
  generalize nameB x1 = nb at *
  replace hn := Lib.hid hn
  unfold Ef.cells
  simp only
  refine ⟨false, fun w => ?_⟩
  go_enter Try.func29, Try.ntmps29
  go_wp2_with (first | (go_at_call 64; refine (hn.out _).mono ?_; rintro e w9 ⟨rfl, hw1⟩; have hw2 := hw1.symm; subst hw2; clear hw1) | (go_at_call 65; refine (hkd.out _).mono ?_; rintro e w9 ⟨rfl, hw1⟩; have hw2 := hw1.symm; subst hw2; clear hw1))
  go_ret
  exact ⟨by first | rfl | simp, by (refine upd_to_below ?_; repeat (first | exact Upd.refl _ _ | refine Upd.setCell ?_ (Or.inl (by simp)) _ | refine Upd.alloc ?_ _ | refine Upd.drewN ?_ _ | refine Upd.drew ?_))⟩
/-- Is it right? -/
noncomputable def rightE (x : Ef) : Bool := Classical.choose (right_ex x)
theorem rightE_any (w : World) (x : Ef) : Calls Try.prog 29 #[.agg x.cells.toArray] w fun e w' => e = .returned (.bool (rightE x)) ∧ Below w.heap.size w w' := Classical.choose_spec (right_ex x) w
end Go.Proofs.Ytegomkgfmaclkaa
