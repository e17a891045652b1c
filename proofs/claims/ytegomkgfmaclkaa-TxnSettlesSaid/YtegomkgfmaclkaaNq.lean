/-
  NodeBack: a row that is put where there was none, and cut, leaves rows as they were, and that one that is put twice is there once.
-/
import Derived.Test.YtegomkgfmaclkaaNo
import Derived.Test.YtegomkgfmaclkaaRs
set_option linter.unusedVariables false
namespace Go.Proofs.Ytegomkgfmaclkaa
open Go.RowKit Go.Proofs.PosteOrd Go.Proofs.PosteMem Go.Proofs.PosteOpen

theorem found_any (L : List Row) (key : ByteArray) : ∃ i t, FoundAt L key i t := by
  let p : Row → Bool := fun r => decide (0 ≤ cmpL r.key.toList key.toList)
  refine ⟨L.findIdx p, decide (∃ h : L.findIdx p < L.length, cmpL L[L.findIdx p].key.toList key.toList = 0), List.findIdx_le_length, fun j h hj => ?_, fun h => ?_, by simp⟩
  · have := List.not_of_lt_findIdx hj
    simp only [p, decide_eq_false_iff_not] at this
    omega
  · have := List.findIdx_getElem (w := h)
    simpa [p] using this
theorem putL_at {L : List Row} {i : Nat} {t : Bool} {x : Row} (h : FoundAt L x.key i t) : ∃ h : i < (putL L i t x).length, (putL L i t x)[i] = x := by
  cases t with
  | true =>
    have hlt := found_lt h
    refine ⟨by unfold putL; simpa using hlt, by unfold putL; simp⟩
  | false =>
    have hle := h.le
    have hl : (L.take i).length = i := by rw [List.length_take]; omega
    refine ⟨by unfold putL; simp; omega, ?_⟩
    simp only [putL, Bool.false_eq_true, ite_false]
    rw [List.getElem_append_right (by omega)]
    simp [hl]
theorem putL_lt {L : List Row} {i : Nat} {t : Bool} {x : Row} (h : FoundAt L x.key i t) (j : Nat) (hj : j < (putL L i t x).length) (hji : j < i) : ∃ h : j < L.length, (putL L i t x)[j] = L[j] := by
  have hle := h.le
  refine ⟨by omega, ?_⟩
  cases t with
  | true => simp only [putL, ite_true]; rw [List.getElem_set_ne (by omega)]
  | false =>
    simp only [putL, Bool.false_eq_true, ite_false]
    rw [List.getElem_append_left (by rw [List.length_take]; omega), List.getElem_take]
theorem putL_found {L : List Row} {i : Nat} {t : Bool} {x : Row} (h : FoundAt L x.key i t) : FoundAt (putL L i t x) x.key i true := by
  obtain ⟨h1, h2⟩ := putL_at h
  refine ⟨by omega, fun j hj hji => ?_, fun _ => by rw [h2, cmpL_self]; exact Int.le_refl _, ⟨fun _ => ⟨h1, by rw [h2, cmpL_self]⟩, fun _ => rfl⟩⟩
  obtain ⟨h3, h4⟩ := putL_lt h j hj hji
  rw [h4]
  exact h.lt j h3 hji
theorem putL_twice {L : List Row} {i : Nat} {t : Bool} {x : Row} (h : FoundAt L x.key i t) : putL (putL L i t x) i true x = putL L i t x := by
  obtain ⟨h1, h2⟩ := putL_at h
  conv => lhs; unfold putL
  rw [if_pos rfl]
  conv => lhs; arg 3; rw [← h2]
  exact List.set_getElem_self h1
theorem putL_cut {L : List Row} {i : Nat} {x : Row} (h : i ≤ L.length) : cutL (putL L i false x) i true = L := by
  unfold cutL putL
  rw [if_pos rfl, if_neg (by decide), List.eraseIdx_append_of_length_le (by rw [List.length_take]; omega)]
  have : i - (L.take i).length = 0 := by rw [List.length_take]; omega
  rw [this, List.eraseIdx_cons_zero, List.take_append_drop]

set_option maxRecDepth 100000 in
set_option maxHeartbeats 4000000 in
theorem nodeBack_core (w : World) (v : Value) (L : List Row) (x : Row) (h : VRows w v L) (hok : RowsOk L) :
    Calls Try.prog 5 #[v, .agg #[.string x.key, .string x.val]] w fun e w' => e = .returned (.bool true) ∧ Below w.heap.size w w' := by
  obtain ⟨A, cap, rfl, hc, hcm⟩ := h.cells
  have hbx := Whole.new w 31 #[.string x.key, .string x.val]
  have hb0 := (Below.refl w.heap.size w).alloc (Nat.le_refl _) (.cells #[.string x.key, .string x.val] 31)
  replace h := Lib.hid (View.alloc h (.cells #[.string x.key, .string x.val] 31))
  replace hok := Lib.hid hok
  by_cases hlen : 60 < L.length
  · have q1 : (60 : Int) < L.length := by omega
    go_enter Try.func5, Try.ntmps5
    go_wp2_with fail
    refine (alive7 _).mono ?_; rintro e w1 ⟨rfl, hb1⟩
    go_wp2
    go_ret
    exact ⟨rfl, hb0.trans (hb1.mono hb0.size)⟩
  have q1 : ¬ (60 : Int) < L.length := by omega
  by_cases hris : Rises L
  case neg =>
    have hr := Lib.hid (risesB_not hris)
    go_enter Try.func5, Try.ntmps5
    go_wp2_with fail
    refine (alive7 _).mono ?_; rintro e w1 ⟨rfl, hb1⟩
    have h1 := Lib.hid (View.below h.out hb1)
    go_wp2_with fail
    refine (refRises_any _ _ L h1.out (by omega) hok.out).mono ?_; rintro e w2 ⟨rfl, m2, rfl⟩
    rw [hr.out]
    go_wp2
    go_ret
    exact ⟨rfl, below_dn _ (hb0.trans (hb1.mono hb0.size))⟩
  have hr := Lib.hid ((risesB_iff L).2 hris)
  obtain ⟨i, t, hf⟩ := found_any L x.key
  have hfp := Lib.hid (putL_found hf)
  have htw := Lib.hid (putL_twice hf)
  have hpl := putL_len (L := L) (i := i) (t := t) (x := x) hf.le
  have hat := putL_at hf
  have hcl : (cutL (putL L i t x) i true).length = (putL L i t x).length - 1 := by
    obtain ⟨h1, _⟩ := hat
    unfold cutL
    rw [if_pos rfl, List.length_eraseIdx_of_lt h1]
  have hp0 : 0 < (putL L i t x).length := by obtain ⟨h1, _⟩ := hat; omega
  clear hat
  have hcc : t = false → cutL (putL L i t x) i true = L := fun e => by subst e; exact putL_cut hf.le
  have hfl : t = true → 0 < L.length := fun e => by subst e; have := found_lt hf; omega
  replace hf := Lib.hid hf
  generalize hP : putL L i t x = P at *
  generalize hC : cutL P i true = C at *
  replace hP := Lib.hid hP
  replace hC := Lib.hid hC
  replace hcc := Lib.hid hcc
  have hPl : P.length ≤ 61 := by rw [hpl]; split <;> omega
  replace hpl := Lib.hid hpl
  replace hcl := Lib.hid hcl
  replace hfl := Lib.hid hfl
  go_enter Try.func5, Try.ntmps5
  go_wp2_with fail
  refine (alive7 _).mono ?_; rintro e w1 ⟨rfl, hb1⟩
  have hbx1 := hbx.below hb1
  have h1 := Lib.hid (View.below h.out hb1)
  have k1 := hb0.trans (hb1.mono hb0.size)
  go_wp2_with fail
  refine (refRises_any _ _ L h1.out (by omega) hok.out).mono ?_; rintro e w2 ⟨rfl, m2, rfl⟩
  rw [hr.out]
  replace k1 := below_dn m2 k1
  replace hbx1 := hbx1.drewN m2
  replace h1 := Lib.hid (View.drewN h1.out m2)
  generalize w1.drewN m2 = w2 at *
  have d0 := hbx1.cell 0
  have d1 := hbx1.cell 1
  go_wp2_with fail
  refine (put_any _ _ L x i t h1.out (by omega) hf.out).mono ?_; rintro e w3 ⟨v3, rfl, ho3, hb3⟩
  rw [hP.out] at ho3
  have k3 := k1.trans (hb3.mono k1.size)
  have hbx3 := hbx1.below hb3
  have h3 := Lib.hid (View.below h1.out hb3)
  clear d0 d1
  have d0 := hbx3.cell 0
  have d1 := hbx3.cell 1
  obtain ⟨A3, c3, rfl, d4, d5, d6⟩ := own_shape ho3
  replace ho3 := Lib.hid ho3
  go_wp2_with fail
  refine (put_any _ _ P x i true (View.of_own ho3.out) (by omega) hfp.out).mono ?_; rintro e w4 ⟨v4, rfl, ho4, hb4⟩
  rw [htw.out] at ho4
  have k4 := k3.trans (hb4.mono k3.size)
  have hbx4 := hbx3.below hb4
  have h4 := Lib.hid (View.below h3.out hb4)
  replace ho3 := Lib.hid (own_below ho3.out hb4)
  clear d0 d1
  have d0 := hbx4.cell 0
  replace ho4 := Lib.hid ho4
  go_wp2_with fail
  refine (find_any _ _ L x.key i t h4.out (by omega) hf.out).mono ?_; rintro e w5 ⟨rfl, hb5⟩
  have k5 := k4.trans (hb5.mono k4.size)
  have hbx5 := hbx4.below hb5
  have h5 := Lib.hid (View.below h4.out hb5)
  replace ho3 := Lib.hid (own_below ho3.out hb5)
  replace ho4 := Lib.hid (own_below ho4.out hb5)
  clear d0
  have d0 := hbx5.cell 0
  go_wp2_with fail
  refine (cut_any _ _ P x.key i true (View.of_own ho3.out) (by omega) hfp.out).mono ?_; rintro e w6 ⟨v6, rfl, ho6, hb6⟩
  rw [hC.out] at ho6
  have k6 := k5.trans (hb6.mono k5.size)
  have h6 := Lib.hid (View.below h5.out hb6)
  replace ho3 := Lib.hid (own_below ho3.out hb6)
  replace ho4 := Lib.hid (own_below ho4.out hb6)
  obtain ⟨A6, c6, rfl, d7, d8, d9⟩ := own_shape ho6
  replace ho6 := Lib.hid ho6
  clear d0
  go_wp2_with fail
  refine (same_rows _ _ _ P (View.of_own ho3.out) (View.of_own ho4.out) (by omega)).mono ?_; rintro e w7 ⟨rfl, m7, rfl⟩
  cases t with
  | true =>
    have e1 : P.length = L.length := by rw [hpl.out]; rfl
    have e2 : C.length = L.length - 1 := by rw [hcl.out, e1]
    have e3 := hfl.out rfl
    have q2 : ((P.length : Int) == (L.length : Int)) = true := by rw [e1]; exact beq_self_eq_true _
    have q3 : ((C.length : Int) == (L.length : Int) - 1) = true := by rw [show (C.length : Int) = (L.length : Int) - 1 by omega]; exact beq_self_eq_true _
    replace e1 := Lib.hid e1
    replace e2 := Lib.hid e2
    go_wp2_with fail
    go_ret
    exact ⟨rfl, below_dn m7 k6⟩
  | false =>
    have e1 : P.length = L.length + 1 := by rw [hpl.out]; rfl
    have e4 := hcc.out rfl
    have q3 : ((P.length : Int) == (L.length : Int) + 1) = true := by rw [e1]; exact beq_self_eq_true _
    replace e1 := Lib.hid e1
    subst e4
    go_wp2_with fail
    refine (same_rows _ _ _ C (View.drewN (View.of_own ho6.out) m7) (View.drewN h6.out m7) (by omega)).mono ?_; rintro e w8 ⟨rfl, m8, rfl⟩
    go_wp2_with fail
    go_ret
    exact ⟨rfl, by first | exact below_dn m8 (below_dn m7 k6) | exact below_dn (m7 + m8) k6⟩
theorem nodeBack_walk (W : World) (A : Option Addr) (n c : Nat) (l : List KRow.T) (r : Rd Try.prog W (.sl 31 KRow) [.slice A n c] l) (cs : Array Value) (x : KRow.T) (z : Rd Try.prog W KRow (Value.agg cs).cells.toList x) :
    Calls Try.prog 5 #[.slice A n c, .agg cs] W fun e w' => e = .returned (.bool true) ∧ Below W.heap.size W w' := by
  have e : Value.agg cs = .agg #[.string (rowOf x).key, .string (rowOf x).val] := by
    obtain ⟨c1, t1, e1, _, h1, z⟩ := z
    obtain ⟨c2, t2, e2, _, h2, z⟩ := z
    have e : cs.toList = [.string x.1] ++ ([.string x.2.1] ++ []) := by
      have g1 := h1.1
      have g2 := h2.1
      have g3 : t2 = [] := z
      rw [g1, e2, g2, g3] at e1
      exact e1
    congr 1
    exact Array.toList_inj.1 e
  rw [e]
  exact nodeBack_core W _ _ (rowOf x) (rows_of_rd r).1 (rows_of_rd r).2
end Go.Proofs.Ytegomkgfmaclkaa
