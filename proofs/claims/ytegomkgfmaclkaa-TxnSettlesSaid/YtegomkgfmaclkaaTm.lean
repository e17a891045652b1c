/-
  tree.Tree: Len, Height, Ceil, Get and All by their contracts.
-/
import Derived.Test.YtegomkgfmaclkaaTk
set_option linter.unusedVariables false
set_option linter.unusedSimpArgs false
namespace Go.Proofs.Ytegomkgfmaclkaa
open Go.RowKit Go.Proofs.PosteOrd Go.Proofs.PosteMem

/-- A tree in box g, whose parts all lie elsewhere. -/
def TAt (W : World) (g h : Nat) (t : T h) : Prop := ∃ q, Whole W g 111 #[.pointer (pa h q), .pointer (pb h q), .int .i64 ((h : Int) + 1)] ∧ PAt W (fun b => b ≠ g) h q t ∧ Top h t
theorem Top.tall {h : Nat} {t : T h} (H : Top h t) : h ≤ (rowsT h t).length := by
  cases h with
  | zero => omega
  | succ g =>
    have h1 := wide_bound _ _ H.ok
    have h2 := H.two (by omega)
    have h3 : 2 * 3 ^ (g + 1) ≤ wideT (g + 1) t * 3 ^ (g + 1) := Nat.mul_le_mul_right _ h2
    have h4 : g + 1 < 3 ^ (g + 1) := Nat.lt_pow_self (by decide)
    omega
theorem TAt.below {W W' : World} {g h : Nat} {t : T h} (H : TAt W g h t) (k : Below W.heap.size W W') : TAt W' g h t := by
  obtain ⟨q, h1, h2, h3⟩ := H
  exact ⟨q, h1.below k, h2.below k, h3⟩
theorem beq_zero_of {n : Nat} : (((n : Int) + 1) == 0) = false := by
  rw [beq_eq_false_iff_ne]
  omega
set_option maxHeartbeats 4000000 in
theorem tlen_any {w : World} {g h : Nat} {t : T h} (H : TAt w g h t) : Calls Try.prog 48 #[ptr g] w fun e w' => e = .returned (.int .i64 (rowsT h t).length) ∧ Below w.heap.size w w' := by
  obtain ⟨q, hx, hP, hT⟩ := H
  have kS : Calls Try.prog 81 #[.agg #[.pointer (pa h q), .pointer (pb h q)]] w _ := size_any hP
  have c0 : w.cell? ⟨g, 0, none⟩ = some (.pointer (pa h q)) := hx.cell 0
  have c1 : w.cell? ⟨g, 1, none⟩ = some (.pointer (pb h q)) := hx.cell 1
  have c2 : w.cell? ⟨g, 2, none⟩ = some (.int .i64 ((h : Int) + 1)) := hx.cell 2
  have hg := hx.lt
  have q1 : ¬ ((h : Int) + 1) = 0 := by omega
  have q2 := beq_zero_of (n := h)
  generalize (h : Int) + 1 = hh at *
  generalize pa h q = a0 at *
  generalize pb h q = b0 at *
  replace kS := Lib.hid kS
  clear hx hP hT
  go_enter Try.func48, Try.ntmps48
  go_wp2_with fail
  refine kS.out.mono ?_; rintro e w1 ⟨rfl, hb1⟩
  go_wp2_with fail
  go_ret
  exact ⟨rfl, hb1⟩
theorem theight_any {w : World} {g h : Nat} {t : T h} (H : TAt w g h t) (hh : h ≤ 1000000) : Calls Try.prog 50 #[ptr g] w fun e w' => e = .returned (.int .i64 ((h : Int) + 1)) ∧ Below w.heap.size w w' := by
  obtain ⟨q, hx, hP, hT⟩ := H
  have c2 : w.cell? ⟨g, 2, none⟩ = some (.int .i64 ((h : Int) + 1)) := hx.cell 2
  have hg := hx.lt
  have hB : Below w.heap.size w w := Below.refl _ _
  clear hx hP hT
  rcases Nat.eq_zero_or_pos h with h0 | h0
  · subst h0
    go_enter Try.func50, Try.ntmps50
    go_wp2_with fail
    go_ret
    exact ⟨rfl, hB⟩
  · have q1 : ¬ ((h : Int) + 1) ≤ 1 := by omega
    generalize (h : Int) + 1 = n at *
    go_enter Try.func50, Try.ntmps50
    go_wp2_with fail
    go_ret
    exact ⟨rfl, hB⟩
set_option maxHeartbeats 4000000 in
theorem tceil_any {w : World} {g h : Nat} {t : T h} (H : TAt w g h t) (key : ByteArray) : Calls Try.prog 77 #[ptr g, .string key] w fun e w' => e = .returned (resC (rowsT h t)[pos (rowsT h t) key]?) ∧ Below w.heap.size w w' := by
  obtain ⟨q, hx, hP, hT⟩ := H
  have hb := (Below.refl w.heap.size w).alloc (Nat.le_refl _) (.cells #[.string ⟨#[]⟩, .string ⟨#[]⟩] 31)
  have hr := Whole.new w 31 #[.string ⟨#[]⟩, .string ⟨#[]⟩]
  have kC := partCeil_any h _ _ q t key (hP.below hb) hT.ok (fun h0 => by have := hT.two h0; omega) hT.six hT.srt
  rw [ceilT_eq h t key hT.ok (fun h0 => by have := hT.two h0; omega) hT.srt, find_pos] at kC
  have hx1 := hx.below hb
  have c0 : (w.alloc (.cells #[.string ⟨#[]⟩, .string ⟨#[]⟩] 31)).cell? ⟨g, 0, none⟩ = some (.pointer (pa h q)) := hx1.cell 0
  have c1 : (w.alloc (.cells #[.string ⟨#[]⟩, .string ⟨#[]⟩] 31)).cell? ⟨g, 1, none⟩ = some (.pointer (pb h q)) := hx1.cell 1
  have c2 : (w.alloc (.cells #[.string ⟨#[]⟩, .string ⟨#[]⟩] 31)).cell? ⟨g, 2, none⟩ = some (.int .i64 ((h : Int) + 1)) := hx1.cell 2
  have hg := hx1.lt
  have q1 : ¬ ((h : Int) + 1) = 0 := by omega
  have q2 := beq_zero_of (n := h)
  generalize (h : Int) + 1 = hh at *
  generalize pa h q = a0 at *
  generalize pb h q = b0 at *
  generalize (rowsT h t)[pos (rowsT h t) key]? = res at *
  replace kC := Lib.hid kC
  replace hb := Lib.hid hb
  replace hr := Lib.hid hr
  clear hx hP hT hx1
  go_enter Try.func77, Try.ntmps77
  go_wp2_with fail
  refine kC.out.mono ?_; rintro e w1 ⟨rfl, hb1⟩
  have hr1 := hr.out.below hb1
  have hB1 := hb.out.trans (hb1.mono hb.out.size)
  have f0 := hr1.frozen 0
  have f1 := hr1.frozen 1
  have g0 := hr1.cell 0
  have g1 := hr1.cell 1
  have gl := hr1.lt
  cases res with
  | none =>
    have hr7 := Lib.hid ((hr1.set 0 (.string ⟨#[]⟩)).set 1 (.string ⟨#[]⟩))
    have hB7 := Lib.hid ((hB1.setCell (p := ⟨w.heap.size, 0, none⟩) (Nat.le_refl _) (.string ⟨#[]⟩)).setCell (p := ⟨w.heap.size, 1, none⟩) (Nat.le_refl _) (.string ⟨#[]⟩))
    clear hr1 hB1 hb1 kC
    simp only [resC]
    go_wp2_with fail
    refine bodyPost_ret (results_cell_tmp_row rfl _ _ w.heap.size _ _ _ _ rfl hr7.out Try.underlying31 rfl (by kernel_rfl) _ rfl) rfl ?_
    exact ⟨rfl, hB7.out⟩
  | some r =>
    obtain ⟨rk, rv⟩ := r
    have hr7 := Lib.hid ((hr1.set 0 (.string rk)).set 1 (.string rv))
    have hB7 := Lib.hid ((hB1.setCell (p := ⟨w.heap.size, 0, none⟩) (Nat.le_refl _) (.string rk)).setCell (p := ⟨w.heap.size, 1, none⟩) (Nat.le_refl _) (.string rv))
    clear hr1 hB1 hb1 kC
    simp only [resC]
    go_wp2_with fail
    refine bodyPost_ret (results_cell_tmp_row rfl _ _ w.heap.size _ _ _ _ rfl hr7.out Try.underlying31 rfl (by kernel_rfl) _ rfl) rfl ?_
    exact ⟨rfl, hB7.out⟩
theorem bytes_inj {a b : ByteArray} (h : a.toList = b.toList) : a = b := by
  rw [ByteArray.toList_eq, ByteArray.toList_eq] at h
  exact ByteArray.ext (Array.toList_inj.mp h)
/-- What Get tells of rows. -/
def getK (L : List Row) (key : ByteArray) : ByteArray := if hit L key = true then (L[pos L key]?.map Row.val).getD ⟨#[]⟩ else ⟨#[]⟩
theorem hit_iff {L : List Row} {key : ByteArray} : hit L key = true ↔ ∃ r, L[pos L key]? = some r ∧ r.key = key := by
  have h := (found_at L key).is
  rw [h]
  constructor
  · rintro ⟨a, b⟩
    refine ⟨_, List.getElem?_eq_getElem a, ?_⟩
    rw [cmpL_eq] at b
    exact bytes_inj b
  · rintro ⟨r, a, b⟩
    obtain ⟨a1, a2⟩ := List.getElem?_eq_some_iff.1 a
    exact ⟨a1, by rw [a2, b, cmpL_self]⟩
set_option maxHeartbeats 4000000 in
theorem tget_any {w : World} {g h : Nat} {t : T h} (H : TAt w g h t) (key : ByteArray) : Calls Try.prog 52 #[ptr g, .string key] w fun e w' => e = .returned (.tuple #[.string (getK (rowsT h t) key), .bool (hit (rowsT h t) key)]) ∧ Below w.heap.size w w' := by
  have kC := tceil_any H key
  unfold getK
  have hi := hit_iff (L := rowsT h t) (key := key)
  generalize hit (rowsT h t) key = ht at *
  generalize (rowsT h t)[pos (rowsT h t) key]? = res at *
  clear H
  cases res with
  | none =>
    obtain rfl : ht = false := by
      cases ht with
      | false => rfl
      | true => obtain ⟨r, h1, _⟩ := hi.1 rfl; cases h1
    simp only [resC] at kC
    replace kC := Lib.hid kC
    clear hi
    go_enter Try.func52, Try.ntmps52
    go_wp2_with fail
    refine kC.out.mono ?_; rintro e w1 ⟨rfl, hb1⟩
    have hB := Lib.hid (hb1.alloc hb1.size (.cells #[.string ⟨#[]⟩, .string ⟨#[]⟩] 31))
    go_wp2_with fail
    go_ret2
    exact ⟨rfl, hB.out⟩
  | some r =>
    obtain ⟨rk, rv⟩ := r
    simp only [resC] at kC
    replace kC := Lib.hid kC
    by_cases hk : rk = key
    · obtain rfl : ht = true := hi.2 ⟨_, rfl, hk⟩
      subst hk
      clear hi
      go_enter Try.func52, Try.ntmps52
      go_wp2_with fail
      refine kC.out.mono ?_; rintro e w1 ⟨rfl, hb1⟩
      have hB := Lib.hid (hb1.alloc hb1.size (.cells #[.string rk, .string rv] 31))
      go_wp2_with fail
      go_ret2
      exact ⟨rfl, hB.out⟩
    · obtain rfl : ht = false := by
        cases ht with
        | false => rfl
        | true => obtain ⟨r, h1, h2⟩ := hi.1 rfl; injection h1 with h1; subst h1; exact absurd h2 hk
      have q1 : (rk.toList == key.toList) = false := by
        rw [beq_eq_false_iff_ne]
        exact fun e => hk (bytes_inj e)
      clear hi hk
      go_enter Try.func52, Try.ntmps52
      go_wp2_with fail
      refine kC.out.mono ?_; rintro e w1 ⟨rfl, hb1⟩
      have hB := Lib.hid (hb1.alloc hb1.size (.cells #[.string rk, .string rv] 31))
      go_wp2_with fail
      go_ret2
      exact ⟨rfl, hB.out⟩
set_option maxHeartbeats 4000000 in
theorem tall_any {w : World} {g h : Nat} {t : T h} (H : TAt w g h t) (hm : (rowsT h t).length ≤ 900000) : Calls Try.prog 49 #[ptr g] w fun e w' => ∃ v, e = .returned v ∧ ORows w' w.heap.size v (rowsT h t) ∧ Below w.heap.size w w' := by
  have kL := Lib.hid (tlen_any H)
  by_cases h0 : (rowsT h t).length = 0
  · have hnil := List.eq_nil_of_length_eq_zero h0
    rw [hnil] at kL ⊢
    clear h0 hnil
    go_enter Try.func49, Try.ntmps49
    go_wp2_with fail
    refine kL.out.mono ?_; rintro e w1 ⟨rfl, hb1⟩
    go_wp2_with fail
    go_ret
    exact ⟨_, rfl, World.ownsRow_nil _ _ _ _, hb1⟩
  · obtain ⟨q, hx, hP, hT⟩ := H
    have kA := fun (W : World) (hW : Below w.heap.size w W) => partAdd_any h W w.heap.size q t (.slice none 0 0) [] (PAt.keep (Keeps.belowB hW) h q t (PAt.mono (fun b hb => hb.2) h q t (PAt.lt h q t hP))) (World.ownsRow_nil _ _ _ _) hW.size (by simp; omega)
    have c0 : w.cell? ⟨g, 0, none⟩ = some (.pointer (pa h q)) := hx.cell 0
    have c1 : w.cell? ⟨g, 1, none⟩ = some (.pointer (pb h q)) := hx.cell 1
    have hg := hx.lt
    generalize pa h q = a0 at *
    generalize pb h q = b0 at *
    have q1 : (((rowsT h t).length : Int) == 0) = false := by rw [beq_eq_false_iff_ne]; omega
    have q2 : ¬ ((rowsT h t).length : Int) = 0 := by omega
    generalize rowsT h t = L at *
    simp only [List.nil_append] at kA
    generalize L.length = n at *
    replace kA := Lib.hid kA
    clear hx hP hT
    go_enter Try.func49, Try.ntmps49
    go_wp2_with fail
    refine kL.out.mono ?_; rintro e w1 ⟨rfl, hb1⟩
    have d0 := kc hb1 c0
    have d1 := kc hb1 c1
    have hg1 := Nat.lt_of_lt_of_le hg hb1.size
    have kA1 := Lib.hid (kA.out w1 hb1)
    have hB1 := Lib.hid hb1
    clear hb1 kL kA c0 c1
    go_wp2_with fail
    refine kA1.out.mono ?_; rintro e w2 ⟨v2, rfl, ho2, hb2⟩
    have hB2 := hB1.out.trans hb2
    replace ho2 := Lib.hid ho2
    go_wp2_with fail
    go_ret
    exact ⟨_, rfl, ho2.out, hB2⟩
end Go.Proofs.Ytegomkgfmaclkaa
