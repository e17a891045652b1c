/-
  sectors.New by its contract.
-/
import Derived.Test.YtbfcaapompkjhaaDc
import Derived.Test.YtbfcaapompkjhaaMk
import Derived.Test.YtbfcaapompkjhaaTill
set_option linter.unusedVariables false
set_option linter.unusedSimpArgs false
namespace Go.Proofs.Ytbfcaapompkjhaa
open Go.RowKit Go.Proofs.PosteMem
attribute [local go_sem ↓] Go.wp_at_zero Go.wp_at_succ

def z64 : List Int := fillL 64 0
theorem z64_len : z64.length = 64 := by unfold z64 fillL; simp
theorem z64_bytes : z64.map bv = List.replicate 64 (bv 0) := by unfold z64 fillL; simp
def Dk.new (K : Nat) : Dk := ⟨List.replicate K z64, List.replicate K z64, [], -1, false, 0⟩
/-- So many sectors. -/
def many (n : Int) : Nat := if n ≤ 0 then 0 else if 4096 < n then 4096 else n.toNat
theorem many_le (n : Int) : many n ≤ 4096 := by unfold many; split; omega; split; omega; omega
theorem many_max (n : Int) : (if n < 4096 then n else 4096 : Int) = n ∧ n < 4096 ∨ (if n < 4096 then n else 4096 : Int) = 4096 ∧ ¬ n < 4096 := by split <;> simp_all
theorem new_ok (K : Nat) (h : K ≤ 4096) : (Dk.new K).ok := by
  refine ⟨rfl, by simp [Dk.new, h], ?_, by simp [Dk.new], by simp [Dk.new], ?_, ?_, ?_⟩
  · intro x hx; cases hx
  · intro b hb; rw [List.eq_of_mem_replicate hb]; exact z64_len
  · intro b hb; rw [List.eq_of_mem_replicate hb]; exact z64_len
  · intro x hx; cases hx
set_option maxRecDepth 100000 in
set_option maxHeartbeats 4000000 in
theorem new_any (w : World) (n : Int) :
    Calls Try.prog 16 #[.int .i64 n] w fun e w' => e = .returned (.pointer (some ⟨w.heap.size, 0, none⟩)) ∧ DiskAt w' (fun b => w.heap.size ≤ b ∧ b < w'.heap.size) w.heap.size (Dk.new (many n)) ∧ Below w.heap.size w w' := by
  obtain ⟨i0, hi0, hz0, hz1, hz2⟩ := info_parts infoBs
  obtain ⟨j0, hj0, hy0, hy1, hy2⟩ := info_parts infoByte
  have hst : DAt (w.alloc (.cells #[.slice none 0 0, .slice none 0 0, .slice none 0 0, .int .i64 (-1), .bool false, .int .i64 0] 75)) (fun b => w.heap.size ≤ b) w.heap.size (.slice none 0 0) (.slice none 0 0) (.slice none 0 0) [] [] [] ⟨[], [], [], -1, false, 0⟩ :=
    ⟨Whole.new w _ _, World.ownsRow_nil _ _ _ _, World.ownsRow_nil _ _ _ _, World.ownsRow_nil _ _ _ _, Hs.nil, Hs.nil, Hs.nil, rfl, (fun b e => by cases e), Nat.le_refl _, (fun b e => by cases e), (fun b e => by cases e), (fun b e => by cases e)⟩
  have hacc : Below w.heap.size w (w.alloc (.cells #[.slice none 0 0, .slice none 0 0, .slice none 0 0, .int .i64 (-1), .bool false, .int .i64 0] 75)) := (Below.refl _ _).alloc (Nat.le_refl _) _
  replace hst := Lib.hid hst
  replace hacc := Lib.hid hacc
  have hn : n ≤ 0 ∨ (∃ k : Nat, n = k ∧ 0 < k ∧ k ≤ 4096) ∨ 4096 < n := by
    rcases Int.lt_trichotomy 0 n with h | h | h
    · by_cases h2 : 4096 < n
      · exact .inr (.inr h2)
      · exact .inr (.inl ⟨n.toNat, by omega, by omega, by omega⟩)
    · exact .inl (by omega)
    · exact .inl (by omega)
  rcases hn with hn | ⟨K, rfl, hn1, hn2⟩ | hn
  · have e1 : many n = 0 := by unfold many; rw [if_pos hn]
    rw [e1]
    clear e1
    have q1 : n ≤ 4096 := by omega
    have q2 : n ≤ 0 := hn
    go_enter Try.func16, Try.ntmps16
    go_upto_region 3 with fail
    all_goals
      go_loopw [9] (fun i wr => ∃ (j : Nat) (vs : Value) (hs : List Value), j ≤ 0 ∧ i = .int .i64 j ∧ DAt wr (fun b => w.heap.size ≤ b) w.heap.size vs (.slice none 0 0) (.slice none 0 0) hs [] [] ⟨List.replicate j z64, [], [], -1, false, 0⟩ ∧ Below w.heap.size w wr) (fun i _ => 0 - (intOf i).toNat)
      case atStart => exact ⟨0, _, _, by omega, rfl, hst.out, hacc.out⟩
      case round =>
        obtain ⟨j, vs, hs, hj, rfl, st, hb⟩ := hrel
        by_cases hlt : j < 0
        · exfalso; omega
        · 
          obtain rfl : j = 0 := by omega
          have hsure := st.sure
          obtain ⟨As, cs, rfl, _⟩ := own_shape hsure
          rw [List.length_replicate] at hsure
          have hbox := st.box
          rw [List.length_replicate] at hbox
          have c0 := hbox.cell 0
          have kC := Lib.hid (cloneS wr _ _ hs st.hsure.one (View.of_own hsure) (by omega))
          clear hsure hbox
          rw [List.length_replicate] at st
          replace st := Lib.hid st
          go_wp2_with fail
          refine kC.out.mono ?_; rintro e w2 ⟨v2, rfl, ho, hb2⟩
          have st2 := st.out.below hb2
          obtain ⟨A2, c2, rfl, _⟩ := own_shape ho
          have d1 := st2.box.cell 1
          have e1 := st2.box.frozen 1
          have hsz := hb.size
          have st3 := st2.newNow (L := List.replicate 0 z64) (own_mono (by rw [List.length_replicate]; exact ho) (Nat.zero_le _)) st2.hsure (fun b e => ⟨by have := (own_lt ho e).1; show w.heap.size ≤ b; omega, fun e2 => by have h1 := (own_lt st.out.sure e2).2; have h2 := (own_lt ho e).1; omega⟩)
          have hb3 := (below_then hb hb2).setCell (p := ⟨w.heap.size, 1, none⟩) (Nat.le_refl _) (.slice A2 0 c2)
          replace st3 := Lib.hid st3
          replace hb3 := Lib.hid hb3
          clear st st2 ho hb hb2 kC c0
          go_wp2_with fail
          go_ret
          exact ⟨rfl, ⟨_, _, _, _, _, _, st3.out.mono fun b hb hF => ⟨hF, hb⟩⟩, hb3.out⟩
  · have e1 : many (K : Int) = K := by unfold many; rw [if_neg (by omega), if_neg (by omega)]; rfl
    rw [e1]
    clear e1
    have q1 : (K : Int) ≤ 4096 := by omega
    have q2 : (0 : Int) ≤ K := by omega
    go_enter Try.func16, Try.ntmps16
    go_upto_region 3 with fail
    go_loopw [9] (fun i wr => ∃ (j : Nat) (vs : Value) (hs : List Value), j ≤ K ∧ i = .int .i64 j ∧ DAt wr (fun b => w.heap.size ≤ b) w.heap.size vs (.slice none 0 0) (.slice none 0 0) hs [] [] ⟨List.replicate j z64, [], [], -1, false, 0⟩ ∧ Below w.heap.size w wr) (fun i _ => K - (intOf i).toNat)
    case atStart => exact ⟨0, _, _, by omega, rfl, hst.out, hacc.out⟩
    case round =>
      obtain ⟨j, vs, hs, hj, rfl, st, hb⟩ := hrel
      by_cases hlt : j < K
      · have q3 : (j : Int) < (K : Int) := by omega
        have hsz := hb.size
        have hsure := st.sure
        rw [List.length_replicate] at hsure
        obtain ⟨As, cs, rfl, _⟩ := own_shape hsure
        have hbox := st.box
        have hne := Lib.hid (own_ne_whole hsure hbox (by decide))
        replace hsure := Lib.hid hsure
        replace st := Lib.hid st
        replace hbox := Lib.hid hbox
        replace hb := Lib.hid hb
        go_wp2_with fail
        refine tl_begin (fun (w' : World) => w'.cell? ⟨w.heap.size, 0, none⟩ = some (.slice As j cs)) [10] (by kernel_rfl) (hbox.out.cell 0) (fun hHeld => ?_)
        refine tl_p (i := 0) (v := ?_) rfl (by rfl) (by kernel_rfl) (by kernel_rfl) (by kernel_rfl) (fun _ _ _ h => h) (by rfl) hHeld ?_ ?_
        rotate_left
        · intro w
          go_simp
          try (with_reducible rfl)
        try simp only [Act.put, List.setIfInBounds_toArray, List.set_cons_zero, List.set_cons_succ]
        refine tl_p (i := 1) (v := ?_) rfl (by rfl) (by kernel_rfl) (by kernel_rfl) (by kernel_rfl) (fun _ _ _ h => h) (by rfl) hHeld ?_ ?_
        rotate_left
        · intro w
          go_simp
          try (with_reducible rfl)
        try simp only [Act.put, List.setIfInBounds_toArray, List.set_cons_zero, List.set_cons_succ]
        refine tl_p (i := 2) (v := ?_) rfl (by rfl) (by kernel_rfl) (by kernel_rfl) (by kernel_rfl) (fun _ _ _ h => h) (by rfl) hHeld ?_ ?_
        rotate_left
        · intro w
          go_simp
          try (with_reducible rfl)
        try simp only [Act.put, List.setIfInBounds_toArray, List.set_cons_zero, List.set_cons_succ]
        refine tl_p (i := 3) (v := ?_) rfl (by rfl) (by kernel_rfl) (by kernel_rfl) (by kernel_rfl) (fun _ _ _ h => h) (by rfl) hHeld ?_ ?_
        rotate_left
        · intro w
          go_simp
          try (with_reducible rfl)
        try simp only [Act.put, List.setIfInBounds_toArray, List.set_cons_zero, List.set_cons_succ]
        refine tl_w (i := 4) (v := ?_) rfl (by rfl) (by kernel_rfl) (by kernel_rfl) (by kernel_rfl) (by kernel_rfl) (by kernel_rfl) (fun _ _ _ h => h) (by rfl) hHeld ?_ ?_
        rotate_left
        · intro w hSw
          try dsimp only at hSw
          go_simp
          try (with_reducible rfl)
        try simp only [Act.put, List.setIfInBounds_toArray, List.set_cons_zero, List.set_cons_succ]
        refine tl_do (i := 5) rfl (by kernel_rfl) (by rfl) (fun K hK => ?_)
        refine wp_make_full _ _ _ 27 rfl 0 5 j0 (.int .u8 0) 1 Try.underlying27 hj0 hy0 hy1 .i64 .i64 _ _ 64 rfl rfl rfl rfl (by rw [hy2]; omega) (by unfold maxLen; omega) (Nat.zero_le _) ?_
        intro w1 hown1 hg1
        rw [made_bytes] at hown1
        have x1 := Lib.hid (hbox.out.drew.grown hg1 (fun e => by cases e))
        refine hK.out _ _ (x1.out.cell 0) (fun hHeld1 => ?_)
        clear hK K hHeld
        have hHeld := hHeld1
        clear hHeld1
        try simp only [Act.put, List.setIfInBounds_toArray, List.set_cons_zero, List.set_cons_succ]
        refine tl_do (i := 6) rfl (by kernel_rfl) (by rfl) (fun K hK => ?_)
        go_simp
        refine hK.out _ _ ((x1.out.alloc _).cell 0) (fun hHeld1 => ?_)
        clear hK K hHeld
        have hHeld := hHeld1
        clear hHeld1
        try simp only [Act.put, List.setIfInBounds_toArray, List.set_cons_zero, List.set_cons_succ]
        refine tl_do (i := 7) rfl (by kernel_rfl) (by rfl) (fun K hK => ?_)
        refine wp_append_view _ (.tmp 15) (.tmp 17) _ rfl 0 27 i0 (.slice none 0 0) 1 24 Try.underlying41 hi0 hz0 hz1 hz2 rfl (by omega) (.slice As j cs) j hs rfl ((own_grown (own_drew hsure.out) hg1 (fun b _ e => by cases e)).alloc _) (.slice (some ⟨w1.heap.size, 0, none⟩) 1 1) 1 [.slice (some ⟨wr.heap.size, 0, none⟩) 64 64] rfl (View.boxAt _ _ _ _ rfl rfl) (by intro u hu; simp only [List.mem_cons, List.not_mem_nil, or_false] at hu; rcases hu with rfl; rfl) (by omega) (by simp only [maxLen]; omega) (by omega) ?_
        intro v2 w2 hown2 hg2 hat2
        obtain ⟨A2, c2, rfl, _, _, _⟩ := own_shape hown2
        have x2 := Lib.hid ((x1.out.alloc _).grown hg2 hne.out)
        refine hK.out _ _ (x2.out.cell 0) (fun hHeld1 => ?_)
        clear hK K hHeld
        have hHeld := hHeld1
        clear hHeld1
        try simp only [Act.put, List.setIfInBounds_toArray, List.set_cons_zero, List.set_cons_succ]
        refine tl_p (i := 8) (v := ?_) rfl (by rfl) (by kernel_rfl) (by kernel_rfl) (by kernel_rfl) (fun _ _ _ h => h) (by rfl) hHeld ?_ ?_
        rotate_left
        · intro w
          go_simp
          try (with_reducible rfl)
        try simp only [Act.put, List.setIfInBounds_toArray, List.set_cons_zero, List.set_cons_succ]
        refine tl_p (i := 9) (v := ?_) rfl (by rfl) (by kernel_rfl) (by kernel_rfl) (by kernel_rfl) (fun _ _ _ h => h) (by rfl) hHeld ?_ ?_
        rotate_left
        · intro w
          go_simp
          try (with_reducible rfl)
        try simp only [Act.put, List.setIfInBounds_toArray, List.set_cons_zero, List.set_cons_succ]
        refine tl_late (by kernel_rfl) ?_
        refine any_do (i := 10) rfl (by kernel_rfl) (by rfl) (fun K hK => ?_)
        have d0 := x2.out.cell 0
        have e0 := x2.out.frozen 0
        go_simp
        refine hK.out _ _ ?_
        clear hK K
        try simp only [Act.put, List.setIfInBounds_toArray, List.set_cons_zero, List.set_cons_succ]
        refine wpAny_done (by kernel_rfl) ?_ _
        have st1 : DAt (w1.alloc (.cells #[.slice (some ⟨wr.heap.size, 0, none⟩) 64 64] 27)) (fun b => w.heap.size ≤ b) w.heap.size _ _ _ _ _ _ _ := (st.out.upd (S := fun _ => False) (Upd.of_grown ⟨hg1.os, hg1.tape, hg1.output, hg1.size, hg1.block⟩ (fun k e => by cases e)) (fun _ _ t => t)).below ((Below.refl _ _).alloc (Nat.le_refl _) _)
        have dt1 : Dt (w1.alloc (.cells #[.slice (some ⟨wr.heap.size, 0, none⟩) 64 64] 27)) (fun b => w.heap.size ≤ b) (.slice (some ⟨wr.heap.size, 0, none⟩) 64 64) z64 := ⟨wr.heap.size, 64, by rw [z64_len], hsz, by unfold OB; rw [z64_len, z64_bytes]; exact hown1.alloc _⟩
        have st2 := st1.addSure hg2 (by rw [List.length_replicate]; exact hown2) (fun b e => ⟨by
          rcases hat2 with e2 | e2
          · exact st.out.fs b (by rw [← e2]; exact e)
          · rw [e2] at e
            injection e with e
            have e3 : w1.heap.size + 1 = b := by simpa using e
            have e4 : wr.heap.size ≤ w1.heap.size := hg1.size
            show w.heap.size ≤ b
            omega, fun e => by cases e⟩) dt1
        have hb2 : Below w.heap.size w (w2.setCell ⟨w.heap.size, 0, none⟩ (.slice A2 (j + 1) c2)) := by
          have u1 : Upd (fun b => w.heap.size ≤ b) w (w1.alloc (.cells #[.slice (some ⟨wr.heap.size, 0, none⟩) 64 64] 27)) := ((Upd.refl _ _).trans (T := fun b => w.heap.size ≤ b) ⟨hb.out.os, hb.out.tape, hb.out.output, hb.out.size, fun k hk hn => hb.out.block k (by omega)⟩ (fun _ _ t => t)).trans (T := fun _ => False) ((Upd.of_grown (w := wr) (w1 := w1) ⟨hg1.os, hg1.tape, hg1.output, hg1.size, hg1.block⟩ (fun k e => by cases e)).alloc _) (fun _ _ t => t.elim)
          exact ((u1.trans (T := fun b => w.heap.size ≤ b) (Upd.of_grown hg2 (fun k e => st.out.fs k e)) (fun _ _ t => t)).setCell (p := ⟨w.heap.size, 0, none⟩) (.inl (Nat.le_refl _)) _).below (Nat.le_refl _) (fun _ t => t)
        rw [← List.replicate_succ'] at st2
        replace st2 := Lib.hid st2
        replace hb2 := Lib.hid hb2
        clear hown1 hown2 hg1 hg2 hat2 x1 x2 st1 dt1 st hb hsure hbox hne
        go_wp2_with fail
        go_roundw
        case rel => exact ⟨j + 1, _, _, by omega, by go_num, st2.out, hb2.out⟩
        case measure => simp [intOf]; omega
      · have q3 : ¬ (j : Int) < (K : Int) := by omega
        obtain rfl : j = K := by omega
        have hsure := st.sure
        obtain ⟨As, cs, rfl, _⟩ := own_shape hsure
        rw [List.length_replicate] at hsure
        have hbox := st.box
        rw [List.length_replicate] at hbox
        have c0 := hbox.cell 0
        have kC := Lib.hid (cloneS wr _ _ hs st.hsure.one (View.of_own hsure) (by omega))
        clear hsure hbox
        rw [List.length_replicate] at st
        replace st := Lib.hid st
        go_wp2_with fail
        refine kC.out.mono ?_; rintro e w2 ⟨v2, rfl, ho, hb2⟩
        have st2 := st.out.below hb2
        obtain ⟨A2, c2, rfl, _⟩ := own_shape ho
        have d1 := st2.box.cell 1
        have e1 := st2.box.frozen 1
        have hsz := hb.size
        have st3 := st2.newNow (L := List.replicate j z64) (own_mono (by rw [List.length_replicate]; exact ho) (Nat.zero_le _)) st2.hsure (fun b e => ⟨by have := (own_lt ho e).1; show w.heap.size ≤ b; omega, fun e2 => by have h1 := (own_lt st.out.sure e2).2; have h2 := (own_lt ho e).1; omega⟩)
        have hb3 := (below_then hb hb2).setCell (p := ⟨w.heap.size, 1, none⟩) (Nat.le_refl _) (.slice A2 j c2)
        replace st3 := Lib.hid st3
        replace hb3 := Lib.hid hb3
        clear st st2 ho hb hb2 kC c0
        go_wp2_with fail
        go_ret
        exact ⟨rfl, ⟨_, _, _, _, _, _, st3.out.mono fun b hb hF => ⟨hF, hb⟩⟩, hb3.out⟩
  · obtain ⟨K, hK⟩ : ∃ K : Nat, K = 4096 := ⟨_, rfl⟩
    have e1 : many n = K := by unfold many; rw [if_neg (by omega), if_pos hn, hK]
    rw [e1]
    clear e1
    have hKl : K ≤ 4096 := by omega
    replace hK := Lib.hid hK
    have q1 : ¬ n ≤ 4096 := by omega
    go_enter Try.func16, Try.ntmps16
    go_upto_region 3 with fail
    have hK' : (4096 : Int) = (K : Int) := by have := hK.out; omega
    rw [hK']
    clear hK'
    go_loopw [9] (fun i wr => ∃ (j : Nat) (vs : Value) (hs : List Value), j ≤ K ∧ i = .int .i64 j ∧ DAt wr (fun b => w.heap.size ≤ b) w.heap.size vs (.slice none 0 0) (.slice none 0 0) hs [] [] ⟨List.replicate j z64, [], [], -1, false, 0⟩ ∧ Below w.heap.size w wr) (fun i _ => K - (intOf i).toNat)
    case atStart => exact ⟨0, _, _, by omega, rfl, hst.out, hacc.out⟩
    case round =>
      obtain ⟨j, vs, hs, hj, rfl, st, hb⟩ := hrel
      by_cases hlt : j < K
      · have q3 : (j : Int) < (K : Int) := by omega
        have hsz := hb.size
        have hsure := st.sure
        rw [List.length_replicate] at hsure
        obtain ⟨As, cs, rfl, _⟩ := own_shape hsure
        have hbox := st.box
        have hne := Lib.hid (own_ne_whole hsure hbox (by decide))
        replace hsure := Lib.hid hsure
        replace st := Lib.hid st
        replace hbox := Lib.hid hbox
        replace hb := Lib.hid hb
        go_wp2_with fail
        refine tl_begin (fun (w' : World) => w'.cell? ⟨w.heap.size, 0, none⟩ = some (.slice As j cs)) [10] (by kernel_rfl) (hbox.out.cell 0) (fun hHeld => ?_)
        refine tl_p (i := 0) (v := ?_) rfl (by rfl) (by kernel_rfl) (by kernel_rfl) (by kernel_rfl) (fun _ _ _ h => h) (by rfl) hHeld ?_ ?_
        rotate_left
        · intro w
          go_simp
          try (with_reducible rfl)
        try simp only [Act.put, List.setIfInBounds_toArray, List.set_cons_zero, List.set_cons_succ]
        refine tl_p (i := 1) (v := ?_) rfl (by rfl) (by kernel_rfl) (by kernel_rfl) (by kernel_rfl) (fun _ _ _ h => h) (by rfl) hHeld ?_ ?_
        rotate_left
        · intro w
          go_simp
          try (with_reducible rfl)
        try simp only [Act.put, List.setIfInBounds_toArray, List.set_cons_zero, List.set_cons_succ]
        refine tl_p (i := 2) (v := ?_) rfl (by rfl) (by kernel_rfl) (by kernel_rfl) (by kernel_rfl) (fun _ _ _ h => h) (by rfl) hHeld ?_ ?_
        rotate_left
        · intro w
          go_simp
          try (with_reducible rfl)
        try simp only [Act.put, List.setIfInBounds_toArray, List.set_cons_zero, List.set_cons_succ]
        refine tl_p (i := 3) (v := ?_) rfl (by rfl) (by kernel_rfl) (by kernel_rfl) (by kernel_rfl) (fun _ _ _ h => h) (by rfl) hHeld ?_ ?_
        rotate_left
        · intro w
          go_simp
          try (with_reducible rfl)
        try simp only [Act.put, List.setIfInBounds_toArray, List.set_cons_zero, List.set_cons_succ]
        refine tl_w (i := 4) (v := ?_) rfl (by rfl) (by kernel_rfl) (by kernel_rfl) (by kernel_rfl) (by kernel_rfl) (by kernel_rfl) (fun _ _ _ h => h) (by rfl) hHeld ?_ ?_
        rotate_left
        · intro w hSw
          try dsimp only at hSw
          go_simp
          try (with_reducible rfl)
        try simp only [Act.put, List.setIfInBounds_toArray, List.set_cons_zero, List.set_cons_succ]
        refine tl_do (i := 5) rfl (by kernel_rfl) (by rfl) (fun K hK => ?_)
        refine wp_make_full _ _ _ 27 rfl 0 5 j0 (.int .u8 0) 1 Try.underlying27 hj0 hy0 hy1 .i64 .i64 _ _ 64 rfl rfl rfl rfl (by rw [hy2]; omega) (by unfold maxLen; omega) (Nat.zero_le _) ?_
        intro w1 hown1 hg1
        rw [made_bytes] at hown1
        have x1 := Lib.hid (hbox.out.drew.grown hg1 (fun e => by cases e))
        refine hK.out _ _ (x1.out.cell 0) (fun hHeld1 => ?_)
        clear hK K hHeld
        have hHeld := hHeld1
        clear hHeld1
        try simp only [Act.put, List.setIfInBounds_toArray, List.set_cons_zero, List.set_cons_succ]
        refine tl_do (i := 6) rfl (by kernel_rfl) (by rfl) (fun K hK => ?_)
        go_simp
        refine hK.out _ _ ((x1.out.alloc _).cell 0) (fun hHeld1 => ?_)
        clear hK K hHeld
        have hHeld := hHeld1
        clear hHeld1
        try simp only [Act.put, List.setIfInBounds_toArray, List.set_cons_zero, List.set_cons_succ]
        refine tl_do (i := 7) rfl (by kernel_rfl) (by rfl) (fun K hK => ?_)
        refine wp_append_view _ (.tmp 15) (.tmp 17) _ rfl 0 27 i0 (.slice none 0 0) 1 24 Try.underlying41 hi0 hz0 hz1 hz2 rfl (by omega) (.slice As j cs) j hs rfl ((own_grown (own_drew hsure.out) hg1 (fun b _ e => by cases e)).alloc _) (.slice (some ⟨w1.heap.size, 0, none⟩) 1 1) 1 [.slice (some ⟨wr.heap.size, 0, none⟩) 64 64] rfl (View.boxAt _ _ _ _ rfl rfl) (by intro u hu; simp only [List.mem_cons, List.not_mem_nil, or_false] at hu; rcases hu with rfl; rfl) (by omega) (by simp only [maxLen]; omega) (by omega) ?_
        intro v2 w2 hown2 hg2 hat2
        obtain ⟨A2, c2, rfl, _, _, _⟩ := own_shape hown2
        have x2 := Lib.hid ((x1.out.alloc _).grown hg2 hne.out)
        refine hK.out _ _ (x2.out.cell 0) (fun hHeld1 => ?_)
        clear hK K hHeld
        have hHeld := hHeld1
        clear hHeld1
        try simp only [Act.put, List.setIfInBounds_toArray, List.set_cons_zero, List.set_cons_succ]
        refine tl_p (i := 8) (v := ?_) rfl (by rfl) (by kernel_rfl) (by kernel_rfl) (by kernel_rfl) (fun _ _ _ h => h) (by rfl) hHeld ?_ ?_
        rotate_left
        · intro w
          go_simp
          try (with_reducible rfl)
        try simp only [Act.put, List.setIfInBounds_toArray, List.set_cons_zero, List.set_cons_succ]
        refine tl_p (i := 9) (v := ?_) rfl (by rfl) (by kernel_rfl) (by kernel_rfl) (by kernel_rfl) (fun _ _ _ h => h) (by rfl) hHeld ?_ ?_
        rotate_left
        · intro w
          go_simp
          try (with_reducible rfl)
        try simp only [Act.put, List.setIfInBounds_toArray, List.set_cons_zero, List.set_cons_succ]
        refine tl_late (by kernel_rfl) ?_
        refine any_do (i := 10) rfl (by kernel_rfl) (by rfl) (fun K hK => ?_)
        have d0 := x2.out.cell 0
        have e0 := x2.out.frozen 0
        go_simp
        refine hK.out _ _ ?_
        clear hK K
        try simp only [Act.put, List.setIfInBounds_toArray, List.set_cons_zero, List.set_cons_succ]
        refine wpAny_done (by kernel_rfl) ?_ _
        have st1 : DAt (w1.alloc (.cells #[.slice (some ⟨wr.heap.size, 0, none⟩) 64 64] 27)) (fun b => w.heap.size ≤ b) w.heap.size _ _ _ _ _ _ _ := (st.out.upd (S := fun _ => False) (Upd.of_grown ⟨hg1.os, hg1.tape, hg1.output, hg1.size, hg1.block⟩ (fun k e => by cases e)) (fun _ _ t => t)).below ((Below.refl _ _).alloc (Nat.le_refl _) _)
        have dt1 : Dt (w1.alloc (.cells #[.slice (some ⟨wr.heap.size, 0, none⟩) 64 64] 27)) (fun b => w.heap.size ≤ b) (.slice (some ⟨wr.heap.size, 0, none⟩) 64 64) z64 := ⟨wr.heap.size, 64, by rw [z64_len], hsz, by unfold OB; rw [z64_len, z64_bytes]; exact hown1.alloc _⟩
        have st2 := st1.addSure hg2 (by rw [List.length_replicate]; exact hown2) (fun b e => ⟨by
          rcases hat2 with e2 | e2
          · exact st.out.fs b (by rw [← e2]; exact e)
          · rw [e2] at e
            injection e with e
            have e3 : w1.heap.size + 1 = b := by simpa using e
            have e4 : wr.heap.size ≤ w1.heap.size := hg1.size
            show w.heap.size ≤ b
            omega, fun e => by cases e⟩) dt1
        have hb2 : Below w.heap.size w (w2.setCell ⟨w.heap.size, 0, none⟩ (.slice A2 (j + 1) c2)) := by
          have u1 : Upd (fun b => w.heap.size ≤ b) w (w1.alloc (.cells #[.slice (some ⟨wr.heap.size, 0, none⟩) 64 64] 27)) := ((Upd.refl _ _).trans (T := fun b => w.heap.size ≤ b) ⟨hb.out.os, hb.out.tape, hb.out.output, hb.out.size, fun k hk hn => hb.out.block k (by omega)⟩ (fun _ _ t => t)).trans (T := fun _ => False) ((Upd.of_grown (w := wr) (w1 := w1) ⟨hg1.os, hg1.tape, hg1.output, hg1.size, hg1.block⟩ (fun k e => by cases e)).alloc _) (fun _ _ t => t.elim)
          exact ((u1.trans (T := fun b => w.heap.size ≤ b) (Upd.of_grown hg2 (fun k e => st.out.fs k e)) (fun _ _ t => t)).setCell (p := ⟨w.heap.size, 0, none⟩) (.inl (Nat.le_refl _)) _).below (Nat.le_refl _) (fun _ t => t)
        rw [← List.replicate_succ'] at st2
        replace st2 := Lib.hid st2
        replace hb2 := Lib.hid hb2
        clear hown1 hown2 hg1 hg2 hat2 x1 x2 st1 dt1 st hb hsure hbox hne
        go_wp2_with fail
        go_roundw
        case rel => exact ⟨j + 1, _, _, by omega, by go_num, st2.out, hb2.out⟩
        case measure => simp [intOf]; omega
      · have q3 : ¬ (j : Int) < (K : Int) := by omega
        obtain rfl : j = K := by omega
        have hsure := st.sure
        obtain ⟨As, cs, rfl, _⟩ := own_shape hsure
        rw [List.length_replicate] at hsure
        have hbox := st.box
        rw [List.length_replicate] at hbox
        have c0 := hbox.cell 0
        have kC := Lib.hid (cloneS wr _ _ hs st.hsure.one (View.of_own hsure) (by omega))
        clear hsure hbox
        rw [List.length_replicate] at st
        replace st := Lib.hid st
        go_wp2_with fail
        refine kC.out.mono ?_; rintro e w2 ⟨v2, rfl, ho, hb2⟩
        have st2 := st.out.below hb2
        obtain ⟨A2, c2, rfl, _⟩ := own_shape ho
        have d1 := st2.box.cell 1
        have e1 := st2.box.frozen 1
        have hsz := hb.size
        have st3 := st2.newNow (L := List.replicate j z64) (own_mono (by rw [List.length_replicate]; exact ho) (Nat.zero_le _)) st2.hsure (fun b e => ⟨by have := (own_lt ho e).1; show w.heap.size ≤ b; omega, fun e2 => by have h1 := (own_lt st.out.sure e2).2; have h2 := (own_lt ho e).1; omega⟩)
        have hb3 := (below_then hb hb2).setCell (p := ⟨w.heap.size, 1, none⟩) (Nat.le_refl _) (.slice A2 j c2)
        replace st3 := Lib.hid st3
        replace hb3 := Lib.hid hb3
        clear st st2 ho hb hb2 kC c0
        go_wp2_with fail
        go_ret
        exact ⟨rfl, ⟨_, _, _, _, _, _, st3.out.mono fun b hb hF => ⟨hF, hb⟩⟩, hb3.out⟩
end Go.Proofs.Ytbfcaapompkjhaa
