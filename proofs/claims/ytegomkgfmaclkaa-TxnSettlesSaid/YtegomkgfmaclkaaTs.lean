/-
  The reference's CutRow and Tall by their contracts; postelaw8's alive.
-/
import Derived.Test.YtegomkgfmaclkaaTp
set_option linter.unusedVariables false
set_option linter.unusedSimpArgs false
namespace Go.Proofs.Ytegomkgfmaclkaa
open Go.RowKit Go.Proofs.PosteOrd Go.Proofs.PosteMem

set_option maxHeartbeats 4000000 in
theorem refTall_any (w : World) (n : Nat) (hn : n ≤ 1000000) : Calls Try.prog 51 #[.int .i64 n] w fun e w' => e = .returned (.int .i64 (2 + d3 n : Nat)) ∧ w' = w := by
  go_enter Try.func51, Try.ntmps51
  go_upto_region 2 with fail
  go_loopw [0, 3] (fun x h wr => ∃ m k : Nat, m ≤ n ∧ k ≤ 2 + d3 n ∧ x = .int .i64 m ∧ h = .int .i64 k ∧ k + d3 m = 2 + d3 n ∧ wr = w) (fun x _ _ => (intOf x).toNat)
  case atStart => exact ⟨n, 2, Nat.le_refl _, by omega, rfl, rfl, rfl, rfl⟩
  case round =>
    obtain ⟨m, k, hm, hk, rfl, rfl, hd, rfl⟩ := hrel
    have hdn : d3 n ≤ n := by
      have : ∀ n, d3 n ≤ n := fun n => by
        induction n using Nat.strongRecOn with
        | ind n ih =>
          by_cases h0 : n = 0
          · subst h0; rw [d3_zero]; exact Nat.le_refl _
          · rw [d3_pos (by omega)]
            have := ih (n / 3) (by omega)
            omega
      exact this n
    by_cases h0 : 0 < m
    · have q1 : (0 : Int) < (m : Int) := by omega
      have hq : Int.tdiv (m : Int) 3 = ((m / 3 : Nat) : Int) := by rw [Int.tdiv_eq_ediv_of_nonneg (by omega)]; omega
      have hd3 := d3_pos h0
      have ew : IntKind.i64.wrap ((k : Int) + 1) = ((k + 1 : Nat) : Int) := by rw [IntKind.wrap_i64]; omega
      have hmd : m / 3 ≤ m := Nat.div_le_self _ _
      have hml : m / 3 < m := by omega
      generalize m / 3 = m3 at *
      replace hd := Lib.hid hd
      replace hd3 := Lib.hid hd3
      go_wp2_with fail
      go_roundw
      case rel => exact ⟨m3, k + 1, by omega, by have := hd.out; have := hd3.out; omega, rfl, by first | rfl | go_num, by have := hd.out; have := hd3.out; omega, by first | rfl | trivial⟩
      case measure => simp [intOf]; omega
    · obtain rfl : m = 0 := by omega
      rw [d3_zero] at hd
      have q1 : ¬ (0 : Int) < ((0 : Nat) : Int) := by omega
      have hkk : k = 2 + d3 n := by omega
      replace hkk := Lib.hid hkk
      clear hd
      go_wp2_with fail
      go_ret
      exact ⟨ret_int (by have := hkk.out; show (k : Int) = ((2 + d3 n : Nat) : Int); omega), rfl⟩
theorem cutS_split {L : List Row} {key : ByteArray} (h : hit L key = true) : cutS L key = L.take (pos L key) ++ L.drop (pos L key + 1) := by
  unfold cutS cutL
  rw [if_pos h, List.eraseIdx_eq_take_drop_succ]
set_option maxRecDepth 100000 in
set_option maxHeartbeats 8000000 in
theorem refCut_any {w : World} {v : Value} {L : List Row} {key : ByteArray} (h : VRows w v L) (hm : L.length ≤ 900000) (hok : RowsOk L) (hk : key.size ≤ 140737488351232) :
    Calls Try.prog 54 #[v, .string key] w fun e w' => ∃ v', e = .returned (.tuple #[v', .bool (hit L key)]) ∧ ORows w' w.heap.size v' (cutS L key) ∧ Below w.heap.size w w' := by
  obtain ⟨i0, hi0, hz0, hz1, hz2⟩ := info_parts infoRow
  have kF := Lib.hid (refFind_any h (by omega) hok hk)
  have hple := pos_le L key
  cases hh : hit L key with
  | false =>
    have hc : cutS L key = L := by unfold cutS cutL; rw [hh]; rfl
    rw [hc]
    rw [hh] at kF
    obtain ⟨A, cap, rfl, hcl, hcm⟩ := View.cells h
    replace hh := Lib.hid hh
    generalize pos L key = i at *
    have hv := Lib.hid h
    clear h hok hc
    go_enter Try.func54, Try.ntmps54
    go_wp2_with fail
    refine kF.out.mono ?_; rintro e w2 ⟨rfl, hS⟩
    have hB := hS.below (B := w.heap.size)
    have hv2 := Lib.hid (View.below hv.out hB)
    replace hB := Lib.hid hB
    clear hS kF
    go_wp2_with (at_builtin; refine wpList_append_view _ rfl (.const (.slice none 0 0)) (.tmp 16) _ rfl w.heap.size 31 i0 zRow 2 32 Try.underlying22 hi0 hz0 hz1 hz2 rfl (by decide) _ 0 [] rfl (World.ownsRow_nil _ _ _ _) _ L.length _ rfl hv2.out (Row.one L) (by omega) (by simp only [maxLen]; omega) hB.out.size ?_; intro v5 w5 hown5 hg5 hat5)
    rw [Nat.zero_add, List.nil_append] at hown5
    have hB5 := hB.out.trans ((grown_none hg5).mono hB.out.size)
    replace hown5 := Lib.hid hown5
    go_ret2
    exact ⟨_, rfl, hown5.out, hB5⟩
  | true =>
    have hcs := cutS_split hh
    rw [hh] at kF
    have hi1 : pos L key + 1 ≤ L.length := by
      have := found_lt (by have := found_at L key; rw [hh] at this; exact this)
      omega
    obtain ⟨A, cap, rfl, hcl, hcm⟩ := View.cells h
    generalize pos L key = i at *
    replace hh := Lib.hid hh
    have hfin : ∀ v9 w9, w9.ownsRow w.heap.size 31 2 v9 (i + (L.length - (i + 1))) ((L.take i).flatMap Row.cells ++ (L.drop (i + 1)).flatMap Row.cells) → ORows w9 w.heap.size v9 (cutS L key) := fun v9 w9 ho => by
      have e1 : (L.take i).flatMap Row.cells ++ (L.drop (i + 1)).flatMap Row.cells = (cutS L key).flatMap Row.cells := by rw [hcs, List.flatMap_append]
      have e2 : i + (L.length - (i + 1)) = (cutS L key).length := by
        rw [hcs, List.length_append, List.length_take, List.length_drop]
        omega
      rw [e1, e2] at ho
      exact ho
    have hv := Lib.hid h
    replace hfin := Lib.hid hfin
    have q1 : (i : Int) ≤ (L.length : Int) := by omega
    have q2 : i ≤ cap := by omega
    have q3 : ¬ (L.length : Int) < (i : Int) := by omega
    have q4 : (i : Int) + 1 ≤ (L.length : Int) := by omega
    have q5 : ¬ (L.length : Int) < (i : Int) + 1 := by omega
    have q6 : (0 : Int) ≤ (i : Int) + 1 := by omega
    have q7 : i + 1 ≤ cap := by omega
    have ew : IntKind.i64.wrap ((i : Int) + 1) = (i : Int) + 1 := by rw [IntKind.wrap_i64]; omega
    have ew2 : ((i : Int) + 1).toNat = i + 1 := by omega
    clear h hok hcs
    go_enter Try.func54, Try.ntmps54
    go_wp2_with fail
    refine kF.out.mono ?_; rintro e w2 ⟨rfl, hS⟩
    have hB := hS.below (B := w.heap.size)
    have hBx := Lib.hid (Below.drew hB)
    have hv2 : VRows w2.drew (.slice A L.length cap) L := View.below hv.out hBx.out
    have h1 := Lib.hid (rows_take hv2 hple)
    clear hS kF hB hv
    go_upto_region 4 with fail
    by_cases q8 : cap = i + 1
    · have h2 := Lib.hid (rows_drop0 hv2 hi1 q8)
      have q9 : (cap = i + 1) = True := eq_true q8
      replace q8 := Lib.hid q8
      refine tl_begin (fun (w' : World) => True) [] (by kernel_rfl) (trivial) (fun hHeld => ?_)
      refine tl_p (i := 0) (v := ?_) rfl (by rfl) (by kernel_rfl) (by kernel_rfl) (by kernel_rfl) (fun _ _ _ h => h) (by rfl) hHeld ?_ ?_
      rotate_left
      · intro w
        go_simp
        try (with_reducible rfl)
      try simp only [Act.put, List.setIfInBounds_toArray, List.set_cons_zero, List.set_cons_succ]
      refine tl_p (i := 1) (v := ?_) rfl (by rfl) (by kernel_rfl) (by kernel_rfl) (by kernel_rfl) (fun _ _ _ h => h) (by rfl) hHeld ?_ ?_
      rotate_left
      · intro w
        go_simp
        try (with_reducible rfl)
      try simp only [Act.put, List.setIfInBounds_toArray, List.set_cons_zero, List.set_cons_succ]
      refine tl_p (i := 2) (v := ?_) rfl (by rfl) (by kernel_rfl) (by kernel_rfl) (by kernel_rfl) (fun _ _ _ h => h) (by rfl) hHeld ?_ ?_
      rotate_left
      · intro w
        go_simp
        try (with_reducible rfl)
      try simp only [Act.put, List.setIfInBounds_toArray, List.set_cons_zero, List.set_cons_succ]
      refine tl_p (i := 4) (v := ?_) rfl (by rfl) (by kernel_rfl) (by kernel_rfl) (by kernel_rfl) (fun _ _ _ h => h) (by rfl) hHeld ?_ ?_
      rotate_left
      · intro w
        go_simp
        try (with_reducible rfl)
      try simp only [Act.put, List.setIfInBounds_toArray, List.set_cons_zero, List.set_cons_succ]
      refine tl_p (i := 5) (v := ?_) rfl (by rfl) (by kernel_rfl) (by kernel_rfl) (by kernel_rfl) (fun _ _ _ h => h) (by rfl) hHeld ?_ ?_
      rotate_left
      · intro w
        go_simp
        try (with_reducible rfl)
      try simp only [Act.put, List.setIfInBounds_toArray, List.set_cons_zero, List.set_cons_succ]
      refine tl_p (i := 6) (v := ?_) rfl (by rfl) (by kernel_rfl) (by kernel_rfl) (by kernel_rfl) (fun _ _ _ h => h) (by rfl) hHeld ?_ ?_
      rotate_left
      · intro w
        go_simp
        try (with_reducible rfl)
      try simp only [Act.put, List.setIfInBounds_toArray, List.set_cons_zero, List.set_cons_succ]
      refine tl_p (i := 7) (v := ?_) rfl (by rfl) (by kernel_rfl) (by kernel_rfl) (by kernel_rfl) (fun _ _ _ h => h) (by rfl) hHeld ?_ ?_
      rotate_left
      · intro w
        go_simp
        try (with_reducible rfl)
      try simp only [Act.put, List.setIfInBounds_toArray, List.set_cons_zero, List.set_cons_succ]
      refine tl_do (i := 3) rfl (by kernel_rfl) (by rfl) (fun K hK => ?_)
      refine wp_append_view _ (.const (.slice none 0 0)) (.tmp 20) _ rfl w.heap.size 31 i0 zRow 2 32 Try.underlying22 hi0 hz0 hz1 hz2 rfl (by decide) (.slice none 0 0) 0 [] rfl (World.ownsRow_nil _ _ _ _) (.slice A i cap) i _ rfl h1.out (Row.one (L.take i)) (by omega) (by simp only [maxLen]; omega) hBx.out.size ?_
      intro v5 w5 hown5 hg5 hat5
      rw [Nat.zero_add, List.nil_append] at hown5
      obtain ⟨A5, c5, rfl, _, _, _⟩ := own_shape hown5
      have hb5 := grown_none hg5
      have hcur := Lib.hid (hBx.out.trans (hb5.mono hBx.out.size))
      have h25 := Lib.hid (View.below h2.out hb5)
      replace hown5 := Lib.hid hown5
      clear hg5 hat5 hb5
      refine hK.out _ _ (trivial) (fun hHeld1 => ?_)
      clear hK K hHeld
      have hHeld := hHeld1
      clear hHeld1
      try simp only [Act.put, List.setIfInBounds_toArray, List.set_cons_zero, List.set_cons_succ]
      refine tl_do (i := 8) rfl (by kernel_rfl) (by rfl) (fun K hK => ?_)
      refine wp_append_view _ (.tmp 21) (.tmp 25) _ rfl w.heap.size 31 i0 zRow 2 32 Try.underlying22 hi0 hz0 hz1 hz2 rfl (by decide) (.slice A5 i c5) i _ rfl hown5.out (.slice A (L.length - (i + 1)) (cap - (i + 1))) (L.length - (i + 1)) _ rfl h25.out (Row.one (L.drop (i + 1))) (by omega) (by simp only [maxLen]; omega) hcur.out.size ?_
      intro v6 w6 hown6 hg6 hat6
      have hw6 := Lib.hid (hcur.out.grown hg6 hcur.out.size (fun j hj => (hown5.out.lt j hj).1))
      replace hown6 := Lib.hid hown6
      clear hg6 hat6
      refine hK.out _ _ (trivial) (fun hHeld1 => ?_)
      clear hK K hHeld
      have hHeld := hHeld1
      clear hHeld1
      try simp only [Act.put, List.setIfInBounds_toArray, List.set_cons_zero, List.set_cons_succ]
      refine tl_p (i := 9) (v := ?_) rfl (by rfl) (by kernel_rfl) (by kernel_rfl) (by kernel_rfl) (fun _ _ _ h => h) (by rfl) hHeld ?_ ?_
      rotate_left
      · intro w
        go_simp
        try (with_reducible rfl)
      try simp only [Act.put, List.setIfInBounds_toArray, List.set_cons_zero, List.set_cons_succ]
      refine tl_p (i := 10) (v := ?_) rfl (by rfl) (by kernel_rfl) (by kernel_rfl) (by kernel_rfl) (fun _ _ _ h => h) (by rfl) hHeld ?_ ?_
      rotate_left
      · intro w
        go_simp
        try (with_reducible rfl)
      try simp only [Act.put, List.setIfInBounds_toArray, List.set_cons_zero, List.set_cons_succ]
      refine till_done (by kernel_rfl) ?_ _
      clear hHeld
      go_wp2_with fail
      go_ret2
      exact ⟨_, rfl, hfin.out _ _ hown6.out, hw6.out⟩
    · obtain ⟨b, off, cap', eA, _, _, _, _⟩ := rows_at hv2 (by omega)
      injection eA with eA1 eA2 eA3
      subst eA1 eA3
      have h2 := Lib.hid (rows_drop hv2 hi1 q8)
      refine tl_begin (fun (w' : World) => True) [] (by kernel_rfl) (trivial) (fun hHeld => ?_)
      refine tl_p (i := 0) (v := ?_) rfl (by rfl) (by kernel_rfl) (by kernel_rfl) (by kernel_rfl) (fun _ _ _ h => h) (by rfl) hHeld ?_ ?_
      rotate_left
      · intro w
        go_simp
        try (with_reducible rfl)
      try simp only [Act.put, List.setIfInBounds_toArray, List.set_cons_zero, List.set_cons_succ]
      refine tl_p (i := 1) (v := ?_) rfl (by rfl) (by kernel_rfl) (by kernel_rfl) (by kernel_rfl) (fun _ _ _ h => h) (by rfl) hHeld ?_ ?_
      rotate_left
      · intro w
        go_simp
        try (with_reducible rfl)
      try simp only [Act.put, List.setIfInBounds_toArray, List.set_cons_zero, List.set_cons_succ]
      refine tl_p (i := 2) (v := ?_) rfl (by rfl) (by kernel_rfl) (by kernel_rfl) (by kernel_rfl) (fun _ _ _ h => h) (by rfl) hHeld ?_ ?_
      rotate_left
      · intro w
        go_simp
        try (with_reducible rfl)
      try simp only [Act.put, List.setIfInBounds_toArray, List.set_cons_zero, List.set_cons_succ]
      refine tl_p (i := 4) (v := ?_) rfl (by rfl) (by kernel_rfl) (by kernel_rfl) (by kernel_rfl) (fun _ _ _ h => h) (by rfl) hHeld ?_ ?_
      rotate_left
      · intro w
        go_simp
        try (with_reducible rfl)
      try simp only [Act.put, List.setIfInBounds_toArray, List.set_cons_zero, List.set_cons_succ]
      refine tl_p (i := 5) (v := ?_) rfl (by rfl) (by kernel_rfl) (by kernel_rfl) (by kernel_rfl) (fun _ _ _ h => h) (by rfl) hHeld ?_ ?_
      rotate_left
      · intro w
        go_simp
        try (with_reducible rfl)
      try simp only [Act.put, List.setIfInBounds_toArray, List.set_cons_zero, List.set_cons_succ]
      refine tl_p (i := 6) (v := ?_) rfl (by rfl) (by kernel_rfl) (by kernel_rfl) (by kernel_rfl) (fun _ _ _ h => h) (by rfl) hHeld ?_ ?_
      rotate_left
      · intro w
        go_simp
        try (with_reducible rfl)
      try simp only [Act.put, List.setIfInBounds_toArray, List.set_cons_zero, List.set_cons_succ]
      refine tl_p (i := 7) (v := ?_) rfl (by rfl) (by kernel_rfl) (by kernel_rfl) (by kernel_rfl) (fun _ _ _ h => h) (by rfl) hHeld ?_ ?_
      rotate_left
      · intro w
        go_simp
        try (with_reducible rfl)
      try simp only [Act.put, List.setIfInBounds_toArray, List.set_cons_zero, List.set_cons_succ]
      refine tl_do (i := 3) rfl (by kernel_rfl) (by rfl) (fun K hK => ?_)
      refine wp_append_view _ (.const (.slice none 0 0)) (.tmp 20) _ rfl w.heap.size 31 i0 zRow 2 32 Try.underlying22 hi0 hz0 hz1 hz2 rfl (by decide) (.slice none 0 0) 0 [] rfl (World.ownsRow_nil _ _ _ _) (.slice (some ⟨b, off, none⟩) i cap) i _ rfl h1.out (Row.one (L.take i)) (by omega) (by simp only [maxLen]; omega) hBx.out.size ?_
      intro v5 w5 hown5 hg5 hat5
      rw [Nat.zero_add, List.nil_append] at hown5
      obtain ⟨A5, c5, rfl, _, _, _⟩ := own_shape hown5
      have hb5 := grown_none hg5
      have hcur := Lib.hid (hBx.out.trans (hb5.mono hBx.out.size))
      have h25 := Lib.hid (View.below h2.out hb5)
      replace hown5 := Lib.hid hown5
      clear hg5 hat5 hb5
      refine hK.out _ _ (trivial) (fun hHeld1 => ?_)
      clear hK K hHeld
      have hHeld := hHeld1
      clear hHeld1
      try simp only [Act.put, List.setIfInBounds_toArray, List.set_cons_zero, List.set_cons_succ]
      refine tl_do (i := 8) rfl (by kernel_rfl) (by rfl) (fun K hK => ?_)
      refine wp_append_view _ (.tmp 21) (.tmp 25) _ rfl w.heap.size 31 i0 zRow 2 32 Try.underlying22 hi0 hz0 hz1 hz2 rfl (by decide) (.slice A5 i c5) i _ rfl hown5.out (.slice (some ⟨b, off + (i + 1) * 2, none⟩) (L.length - (i + 1)) (cap - (i + 1))) (L.length - (i + 1)) _ rfl h25.out (Row.one (L.drop (i + 1))) (by omega) (by simp only [maxLen]; omega) hcur.out.size ?_
      intro v6 w6 hown6 hg6 hat6
      have hw6 := Lib.hid (hcur.out.grown hg6 hcur.out.size (fun j hj => (hown5.out.lt j hj).1))
      replace hown6 := Lib.hid hown6
      clear hg6 hat6
      refine hK.out _ _ (trivial) (fun hHeld1 => ?_)
      clear hK K hHeld
      have hHeld := hHeld1
      clear hHeld1
      try simp only [Act.put, List.setIfInBounds_toArray, List.set_cons_zero, List.set_cons_succ]
      refine tl_p (i := 9) (v := ?_) rfl (by rfl) (by kernel_rfl) (by kernel_rfl) (by kernel_rfl) (fun _ _ _ h => h) (by rfl) hHeld ?_ ?_
      rotate_left
      · intro w
        go_simp
        try (with_reducible rfl)
      try simp only [Act.put, List.setIfInBounds_toArray, List.set_cons_zero, List.set_cons_succ]
      refine tl_p (i := 10) (v := ?_) rfl (by rfl) (by kernel_rfl) (by kernel_rfl) (by kernel_rfl) (fun _ _ _ h => h) (by rfl) hHeld ?_ ?_
      rotate_left
      · intro w
        go_simp
        try (with_reducible rfl)
      try simp only [Act.put, List.setIfInBounds_toArray, List.set_cons_zero, List.set_cons_succ]
      refine till_done (by kernel_rfl) ?_ _
      clear hHeld
      go_wp2_with fail
      go_ret2
      exact ⟨_, rfl, hfin.out _ _ hown6.out, hw6.out⟩
end Go.Proofs.Ytegomkgfmaclkaa
