/-
  The reference's disk: Sync, Crash, Break, NewDisk by their contracts; what is kept of every disk.
-/
import Derived.Test.YtbfcaapompkjhaaEc
set_option linter.unusedVariables false
set_option linter.unusedSimpArgs false
namespace Go.Proofs.Ytbfcaapompkjhaa
open Go.RowKit Go.Proofs.PosteMem
attribute [local go_sem ↓] Go.wp_at_zero Go.wp_at_succ

theorem rwrite_ok {D : Rk} (h : D.ok) (i : Int) (bs : List Int) : (D.write i bs).1.ok := by
  unfold Rk.write
  split
  · exact h
  · rename_i hn
    simp only [not_or] at hn
    obtain ⟨h1, h2, h3, h4⟩ := hn
    have h3' : bs.length = 64 := by omega
    have hlo := h.low
    have hhi := h.high
    refine ⟨h.max, fun x hx => ?_, ?_, ?_, h.sbytes, fun x hx => ?_⟩
    · rcases List.mem_append.1 hx with hx | hx
      · exact h.uns x hx
      · obtain rfl := List.mem_singleton.1 hx
        show i.toNat < D.sure.length
        omega
    · simp only
      split
      · rename_i he
        unfold Rk.broken at h4
        rw [he] at h4
        simp at h4
        omega
      · exact hlo
    · simp only; split <;> omega
    · rcases List.mem_append.1 hx with hx | hx
      · exact h.ubytes x hx
      · obtain rfl := List.mem_singleton.1 hx
        exact h3'
theorem settleX_bytes {all : Bool} {kp : List Bool} {U : List (Nat × List Int)} {S : List (List Int)} (hS : ∀ b ∈ S, b.length = 64) (hU : ∀ x ∈ U, x.2.length = 64) : ∀ i, i ≤ U.length → ∀ b ∈ settleX all kp U S i, b.length = 64
  | 0, _, b, hb => hS b hb
  | i + 1, hi, b, hb => by
    by_cases hk : all = true ∨ kp[i]? = some true
    · rw [settleX_put (by omega) hk] at hb
      rcases List.mem_or_eq_of_mem_set hb with hb | rfl
      · exact settleX_bytes hS hU i (by omega) b hb
      · exact hU _ (List.getElem_mem _)
    · rw [settleX_skip hk] at hb
      exact settleX_bytes hS hU i (by omega) b hb
theorem settled_ok {D : Rk} (h : D.ok) (all : Bool) (kp : List Bool) (e : Bool) : (⟨settleX all kp D.uns D.sure D.uns.length, [], D.left, e, D.count⟩ : Rk).ok :=
  ⟨by simp only [settleX_len]; exact h.max, (fun x hx => by cases hx), h.low, h.high, settleX_bytes h.sbytes h.ubytes _ (Nat.le_refl _), (fun x hx => by cases hx)⟩
theorem rsync_ok {D : Rk} (h : D.ok) : D.sync.1.ok := by
  unfold Rk.sync
  split
  · exact h
  · rw [← settleX_true []]
    exact settled_ok h true [] D.ends
theorem rcrash_ok {D : Rk} (h : D.ok) (kp : List Bool) : (D.crash kp).ok := by
  unfold Rk.crash
  rw [← settleX_false]
  exact settled_ok h false kp false
theorem rbrk_ok {D : Rk} (h : D.ok) (n : Int) : (D.brk n).ok := by
  unfold Rk.brk
  split
  · exact h
  · exact ⟨h.max, h.uns, by simp only [cutI]; split; omega; split; omega; omega, by simp only [cutI]; split; omega; split; omega; omega, h.sbytes, h.ubytes⟩

theorem rsync_any (w : World) (F : Nat → Prop) (p : Nat) (D : Rk) (h : RefAt w F p D) (hk : D.ok) (hu : D.uns.length ≤ 1000000) :
    Calls Try.prog 24 #[.pointer (some ⟨p, 0, none⟩)] w fun e w' => e = .returned (.bool D.sync.2) ∧ RPost w F p D.sync.1 w' := by
  have kB := Lib.hid (rbroken_any w F p D h)
  have kS := Lib.hid (settle_any w F p D (.slice none 0 0) [] true h hk (View.nil _ _) (fun h => absurd rfl h) (by simp) hu)
  have hp0 := Lib.hid (RefAt.fr_self h)
  unfold Rk.sync
  rw [← settleX_true []]
  cases hbr : D.broken with
  | true =>
    rw [if_pos rfl]
    rw [hbr] at kB
    clear h
    go_enter Try.func24, Try.ntmps24
    go_wp2_with fail
    refine kB.out.mono ?_; rintro e w1 ⟨rfl, rfl⟩
    go_wp2_with fail
    go_ret
    exact ⟨rfl, hp0.out⟩
  | false =>
    rw [if_neg (by decide)]
    rw [hbr] at kB
    clear h
    go_enter Try.func24, Try.ntmps24
    go_wp2_with fail
    refine kB.out.mono ?_; rintro e w1 ⟨rfl, rfl⟩
    go_wp2_with fail
    refine kS.out.mono ?_; rintro e w2 ⟨rfl, hp⟩
    replace hp := Lib.hid hp
    go_wp2_with fail
    go_ret
    exact ⟨rfl, hp.out⟩
theorem RPost.store {w w1 : World} {F : Nat → Prop} {p : Nat} {D D' : Rk} (h : RPost w F p D w1) (hF : F p) (k : Nat) (u : Value) (h1 : D'.sure = D.sure) (h3 : D'.uns = D.uns)
    (hb : ∀ vs vu, (#[vs, vu, Value.int .i64 D.left, .bool D.ends, .int .i64 D.count] : Array Value).setIfInBounds k u = #[vs, vu, .int .i64 D'.left, .bool D'.ends, .int .i64 D'.count]) : RPost w F p D' (w1.setCell ⟨p, k, none⟩ u) := by
  obtain ⟨⟨vs, vu, hs, hu, h⟩, acc⟩ := h
  have e : fr F w (w1.setCell ⟨p, k, none⟩ u) = fr F w w1 := by unfold fr; simp [World.setCell]
  exact ⟨by rw [e]; exact ⟨vs, vu, hs, hu, h.setBox k u h1 h3 (hb vs vu)⟩, acc.setCell (p := ⟨p, k, none⟩) (.inr hF) u⟩
theorem RefAt.fp {W : World} {F : Nat → Prop} {p : Nat} {D : Rk} (h : RefAt W F p D) : F p := let ⟨_, _, _, _, h⟩ := h; h.fp
theorem RefAt.box {W : World} {F : Nat → Prop} {p : Nat} {D : Rk} (h : RefAt W F p D) : ∃ vs vu, Whole W p 44 #[vs, vu, .int .i64 D.left, .bool D.ends, .int .i64 D.count] := let ⟨vs, vu, _, _, h⟩ := h; ⟨vs, vu, h.box⟩
theorem rcrash_any (w : World) (F : Nat → Prop) (p : Nat) (D : Rk) (v : Value) (kp : List Bool) (h : RefAt w F p D) (hk : D.ok) (hv : VBool w v kp) (hvF : kp ≠ [] → ∀ b, blockOf v = some b → ¬ F b) (hkl : kp.length ≤ 1000000) (hu0 : D.uns.length ≤ 1000000) :
    Calls Try.prog 25 #[.pointer (some ⟨p, 0, none⟩), v] w fun e w' => e = .returned (.tuple #[]) ∧ RPost w F p (D.crash kp) w' := by
  have kS := Lib.hid (settle_any w F p D v kp false h hk hv hvF hkl hu0)
  have hF := h.fp
  unfold Rk.crash
  rw [← settleX_false]
  clear h hv hvF
  go_enter Try.func25, Try.ntmps25
  go_wp2_with fail
  refine kS.out.mono ?_; rintro e w2 ⟨rfl, hp⟩
  obtain ⟨vs, vu, hbox⟩ := hp.1.box
  have d3 := hbox.cell 3
  have f3 := hbox.frozen 3
  have hp2 := Lib.hid (hp.store (D' := ⟨settleX false kp D.uns D.sure D.uns.length, [], D.left, false, D.count⟩) hF 3 (.bool false) rfl rfl (fun _ _ => rfl))
  clear hp kS hbox
  go_wp2_with fail
  go_end0
  exact ⟨rfl, hp2.out⟩
theorem rbreak_any (w : World) (F : Nat → Prop) (p : Nat) (D : Rk) (n : Int) (h : RefAt w F p D) :
    Calls Try.prog 27 #[.pointer (some ⟨p, 0, none⟩), .int .i64 n] w fun e w' => e = .returned (.tuple #[]) ∧ RPost w F p (D.brk n) w' := by
  have kB := Lib.hid (rbroken_any w F p D h)
  have hp0 := RefAt.fr_self h
  have hF := h.fp
  unfold Rk.brk
  cases hbr : D.broken with
  | true =>
    rw [if_pos rfl]
    rw [hbr] at kB
    replace hp0 := Lib.hid hp0
    clear h
    go_enter Try.func27, Try.ntmps27
    go_wp2_with fail
    refine kB.out.mono ?_; rintro e w1 ⟨rfl, rfl⟩
    go_wp2_with fail
    (try simp only [Exit.inBlock, Exit.then])
    refine bodyPost_ret (results_none rfl _ _ _) rfl ?_
    exact ⟨rfl, hp0.out⟩
  | false =>
    rw [if_neg (by decide)]
    rw [hbr] at kB
    obtain ⟨vs, vu, hbox⟩ := h.box
    have d2 := hbox.cell 2
    have f2 := hbox.frozen 2
    have d3 := hbox.cell 3
    have f3 := hbox.frozen 3
    have hp1 := hp0.store (D' := ⟨D.sure, D.uns, D.left, true, D.count⟩) hF 3 (.bool true) rfl rfl (fun _ _ => rfl)
    have kC := Lib.hid (fun W => cut_any W n 0 1073741824)
    generalize cutI n 0 1073741824 = x at *
    have hp2 := Lib.hid (hp1.store (D' := ⟨D.sure, D.uns, x, true, D.count⟩) hF 2 (.int .i64 x) rfl rfl (fun _ _ => rfl))
    clear h hp0 hp1 hbox hbr
    go_enter Try.func27, Try.ntmps27
    go_wp2_with fail
    refine kB.out.mono ?_; rintro e w0 ⟨rfl, hw0⟩
    obtain rfl : w = w0 := hw0.symm
    clear hw0
    go_wp2_with fail
    refine (kC.out _).mono ?_; rintro e w0 ⟨rfl, hw0⟩
    have hw1 := hw0.symm
    subst hw1
    clear hw0
    go_wp2_with fail
    go_end0
    exact ⟨rfl, hp2.out⟩
def Rk.new (K : Nat) : Rk := ⟨List.replicate K z64, [], 0, false, 0⟩
theorem rnew_ok (K : Nat) (h : K ≤ 4096) : (Rk.new K).ok := by
  refine ⟨by simp [Rk.new, h], ?_, by simp [Rk.new], by simp [Rk.new], ?_, ?_⟩
  · intro x hx; cases hx
  · intro b hb; rw [List.eq_of_mem_replicate hb]; exact z64_len
  · intro x hx; cases hx
theorem many_cut (n : Int) : cutI n 0 4096 = (many n : Int) := by
  unfold cutI many
  by_cases h : n < 0
  · rw [if_pos h, if_pos (by omega)]; rfl
  · rw [if_neg h]
    by_cases h2 : 4096 < n
    · rw [if_pos h2, if_neg (by omega), if_pos h2]; rfl
    · rw [if_neg h2]
      by_cases h3 : n ≤ 0
      · rw [if_pos h3]; omega
      · rw [if_neg h3, if_neg h2]; omega
set_option maxRecDepth 100000 in
set_option maxHeartbeats 4000000 in
theorem rnew_any (w : World) (n : Int) :
    Calls Try.prog 22 #[.int .i64 n] w fun e w' => e = .returned (.pointer (some ⟨w.heap.size, 0, none⟩)) ∧ RefAt w' (fun b => w.heap.size ≤ b ∧ b < w'.heap.size) w.heap.size (Rk.new (many n)) ∧ Below w.heap.size w w' := by
  obtain ⟨i0, hi0, hz0, hz1, hz2⟩ := info_parts infoBs
  obtain ⟨j0, hj0, hy0, hy1, hy2⟩ := info_parts infoByte
  have kC := fun W => cut_any W n 0 4096
  have hst : RAt (w.alloc (.cells #[.slice none 0 0, .slice none 0 0, .int .i64 0, .bool false, .int .i64 0] 44)) (fun b => w.heap.size ≤ b) w.heap.size (.slice none 0 0) (.slice none 0 0) [] [] ⟨[], [], 0, false, 0⟩ :=
    ⟨Whole.new w _ _, World.ownsRow_nil _ _ _ _, World.ownsRow_nil _ _ _ _, Hs.nil, Hs.nil, rfl, Nat.le_refl _, (fun b e => by cases e), (fun b e => by cases e)⟩
  have hacc : Below w.heap.size w (w.alloc (.cells #[.slice none 0 0, .slice none 0 0, .int .i64 0, .bool false, .int .i64 0] 44)) := (Below.refl _ _).alloc (Nat.le_refl _) _
  rw [many_cut] at kC
  have hK := many_le n
  generalize many n = K at *
  replace hst := Lib.hid hst
  replace hacc := Lib.hid hacc
  replace kC := Lib.hid kC
  go_enter Try.func22, Try.ntmps22
  go_wp2_with fail
  refine (kC.out _).mono ?_; rintro e w0 ⟨rfl, hw0⟩
  have hw1 := hw0.symm
  subst hw1
  clear hw0 kC
  go_upto_region 3 with fail
  go_loopw [4] (fun i wr => ∃ (j : Nat) (vs : Value) (hs : List Value), j ≤ K ∧ i = .int .i64 ((K - j : Nat) : Int) ∧ RAt wr (fun b => w.heap.size ≤ b) w.heap.size vs (.slice none 0 0) hs [] ⟨List.replicate j z64, [], 0, false, 0⟩ ∧ Below w.heap.size w wr) (fun i _ => (intOf i).toNat)
  case atStart => exact ⟨0, _, _, by omega, rfl, hst.out, hacc.out⟩
  clear hst hacc
  case round =>
    obtain ⟨j, vs, hs, hj, rfl, st, hb⟩ := hrel
    by_cases hlt : j < K
    · have q3 : (0 : Int) < ((K - j : Nat) : Int) := by omega
      have q4 : IntKind.i64.wrap (((K - j : Nat) : Int) - 1) = ((K - (j + 1) : Nat) : Int) := by rw [IntWalk.i64_in _ (by omega)]; omega
      obtain ⟨m, hm⟩ : ∃ m : Nat, K - j = m := ⟨_, rfl⟩
      obtain ⟨m2, hm2⟩ : ∃ m : Nat, K - (j + 1) = m := ⟨_, rfl⟩
      rw [hm] at q3 q4 ⊢
      rw [hm2] at q4
      have hsz := hb.size
      have hsure := st.sure
      rw [List.length_replicate] at hsure
      obtain ⟨As, cs, rfl, _⟩ := own_shape hsure
      have hbox := st.box
      have hne := Lib.hid (own_ne_whole hsure hbox (by decide))
      replace hsure := Lib.hid hsure
      replace st := Lib.hid st
      replace hbox := Lib.hid hbox
      replace hb := Lib.hid hb
      replace hm := Lib.hid hm
      replace hm2 := Lib.hid hm2
      go_wp2_with fail
      refine tl_begin (fun (w' : World) => w'.cell? ⟨w.heap.size, 0, none⟩ = some (.slice As j cs)) [10] (by kernel_rfl) (hbox.out.cell 0) (fun hHeld => ?_)
      refine tl_p (i := 0) (v := ?_) rfl (by rfl) (by kernel_rfl) (by kernel_rfl) (by kernel_rfl) (fun _ _ _ h => h) (by rfl) hHeld ?_ ?_
      rotate_left
      · intro w
        go_simp
        try (with_reducible rfl)
      try simp only [Act.put, List.setIfInBounds_toArray, List.set_cons_zero, List.set_cons_succ]
      refine tl_p (i := 1) (v := ?_) rfl (by rfl) (by kernel_rfl) (by kernel_rfl) (by kernel_rfl) (fun _ _ _ h => h) (by rfl) hHeld ?_ ?_
      rotate_left
      · intro w
        go_simp
        try (with_reducible rfl)
      try simp only [Act.put, List.setIfInBounds_toArray, List.set_cons_zero, List.set_cons_succ]
      refine tl_p (i := 2) (v := ?_) rfl (by rfl) (by kernel_rfl) (by kernel_rfl) (by kernel_rfl) (fun _ _ _ h => h) (by rfl) hHeld ?_ ?_
      rotate_left
      · intro w
        go_simp
        try (with_reducible rfl)
      try simp only [Act.put, List.setIfInBounds_toArray, List.set_cons_zero, List.set_cons_succ]
      refine tl_p (i := 3) (v := ?_) rfl (by rfl) (by kernel_rfl) (by kernel_rfl) (by kernel_rfl) (fun _ _ _ h => h) (by rfl) hHeld ?_ ?_
      rotate_left
      · intro w
        go_simp
        try (with_reducible rfl)
      try simp only [Act.put, List.setIfInBounds_toArray, List.set_cons_zero, List.set_cons_succ]
      refine tl_w (i := 4) (v := ?_) rfl (by rfl) (by kernel_rfl) (by kernel_rfl) (by kernel_rfl) (by kernel_rfl) (by kernel_rfl) (fun _ _ _ h => h) (by rfl) hHeld ?_ ?_
      rotate_left
      · intro w hSw
        try dsimp only at hSw
        go_simp
        try (with_reducible rfl)
      try simp only [Act.put, List.setIfInBounds_toArray, List.set_cons_zero, List.set_cons_succ]
      refine tl_do (i := 5) rfl (by kernel_rfl) (by rfl) (fun K hK => ?_)
      refine wp_make_full _ _ _ 27 rfl 0 5 j0 (.int .u8 0) 1 Try.underlying27 hj0 hy0 hy1 .i64 .i64 _ _ 64 rfl rfl rfl rfl (by rw [hy2]; omega) (by unfold maxLen; omega) (Nat.zero_le _) ?_
      intro w1 hown1 hg1
      rw [made_bytes] at hown1
      have x1 := Lib.hid (hbox.out.drew.grown hg1 (fun e => by cases e))
      refine hK.out _ _ (x1.out.cell 0) (fun hHeld1 => ?_)
      clear hK K hHeld
      have hHeld := hHeld1
      clear hHeld1
      try simp only [Act.put, List.setIfInBounds_toArray, List.set_cons_zero, List.set_cons_succ]
      refine tl_do (i := 6) rfl (by kernel_rfl) (by rfl) (fun K hK => ?_)
      go_simp
      refine hK.out _ _ ((x1.out.alloc _).cell 0) (fun hHeld1 => ?_)
      clear hK K hHeld
      have hHeld := hHeld1
      clear hHeld1
      try simp only [Act.put, List.setIfInBounds_toArray, List.set_cons_zero, List.set_cons_succ]
      refine tl_do (i := 7) rfl (by kernel_rfl) (by rfl) (fun K hK => ?_)
      refine wp_append_view _ (.tmp 17) (.tmp 19) _ rfl 0 27 i0 (.slice none 0 0) 1 24 Try.underlying41 hi0 hz0 hz1 hz2 rfl (by omega) (.slice As j cs) j hs rfl ((own_grown (own_drew hsure.out) hg1 (fun b _ e => by cases e)).alloc _) (.slice (some ⟨w1.heap.size, 0, none⟩) 1 1) 1 [.slice (some ⟨wr.heap.size, 0, none⟩) 64 64] rfl (View.boxAt _ _ _ _ rfl rfl) (by intro u hu; simp only [List.mem_cons, List.not_mem_nil, or_false] at hu; rcases hu with rfl; rfl) (by omega) (by simp only [maxLen]; omega) (by omega) ?_
      intro v2 w2 hown2 hg2 hat2
      obtain ⟨A2, c2, rfl, _, _, _⟩ := own_shape hown2
      have x2 := Lib.hid ((x1.out.alloc _).grown hg2 hne.out)
      refine hK.out _ _ (x2.out.cell 0) (fun hHeld1 => ?_)
      clear hK K hHeld
      have hHeld := hHeld1
      clear hHeld1
      try simp only [Act.put, List.setIfInBounds_toArray, List.set_cons_zero, List.set_cons_succ]
      refine tl_p (i := 8) (v := ?_) rfl (by rfl) (by kernel_rfl) (by kernel_rfl) (by kernel_rfl) (fun _ _ _ h => h) (by rfl) hHeld ?_ ?_
      rotate_left
      · intro w
        go_simp
        try (with_reducible rfl)
      try simp only [Act.put, List.setIfInBounds_toArray, List.set_cons_zero, List.set_cons_succ]
      refine tl_p (i := 9) (v := ?_) rfl (by rfl) (by kernel_rfl) (by kernel_rfl) (by kernel_rfl) (fun _ _ _ h => h) (by rfl) hHeld ?_ ?_
      rotate_left
      · intro w
        go_simp
        try (with_reducible rfl)
      try simp only [Act.put, List.setIfInBounds_toArray, List.set_cons_zero, List.set_cons_succ]
      refine tl_late (by kernel_rfl) ?_
      refine any_do (i := 10) rfl (by kernel_rfl) (by rfl) (fun K hK => ?_)
      have d0 := x2.out.cell 0
      have e0 := x2.out.frozen 0
      go_simp
      refine hK.out _ _ ?_
      clear hK K
      try simp only [Act.put, List.setIfInBounds_toArray, List.set_cons_zero, List.set_cons_succ]
      refine wpAny_done (by kernel_rfl) ?_ _
      have st1 : RAt (w1.alloc (.cells #[.slice (some ⟨wr.heap.size, 0, none⟩) 64 64] 27)) (fun b => w.heap.size ≤ b) w.heap.size _ _ _ _ _ := (st.out.upd (S := fun _ => False) (Upd.of_grown ⟨hg1.os, hg1.tape, hg1.output, hg1.size, hg1.block⟩ (fun k e => by cases e)) (fun _ _ t => t)).below ((Below.refl _ _).alloc (Nat.le_refl _) _)
      have dt1 : Dt (w1.alloc (.cells #[.slice (some ⟨wr.heap.size, 0, none⟩) 64 64] 27)) (fun b => w.heap.size ≤ b) (.slice (some ⟨wr.heap.size, 0, none⟩) 64 64) z64 := ⟨wr.heap.size, 64, by rw [z64_len], hsz, by unfold OB; rw [z64_len, z64_bytes]; exact hown1.alloc _⟩
      have st2 := st1.addSure hg2 (by rw [List.length_replicate]; exact hown2) (fun b e => by
        rcases hat2 with e2 | e2
        · exact st.out.fs b (by rw [← e2]; exact e)
        · rw [e2] at e
          injection e with e
          have e3 : w1.heap.size + 1 = b := by simpa using e
          have e4 : wr.heap.size ≤ w1.heap.size := hg1.size
          show w.heap.size ≤ b
          omega) dt1
      have hb2 : Below w.heap.size w (w2.setCell ⟨w.heap.size, 0, none⟩ (.slice A2 (j + 1) c2)) := by
        have u1 : Upd (fun b => w.heap.size ≤ b) w (w1.alloc (.cells #[.slice (some ⟨wr.heap.size, 0, none⟩) 64 64] 27)) := ((Upd.refl _ _).trans (T := fun b => w.heap.size ≤ b) ⟨hb.out.os, hb.out.tape, hb.out.output, hb.out.size, fun k hk hn => hb.out.block k (by omega)⟩ (fun _ _ t => t)).trans (T := fun _ => False) ((Upd.of_grown (w := wr) (w1 := w1) ⟨hg1.os, hg1.tape, hg1.output, hg1.size, hg1.block⟩ (fun k e => by cases e)).alloc _) (fun _ _ t => t.elim)
        exact ((u1.trans (T := fun b => w.heap.size ≤ b) (Upd.of_grown hg2 (fun k e => st.out.fs k e)) (fun _ _ t => t)).setCell (p := ⟨w.heap.size, 0, none⟩) (.inl (Nat.le_refl _)) _).below (Nat.le_refl _) (fun _ t => t)
      rw [← List.replicate_succ'] at st2
      replace st2 := Lib.hid st2
      replace hb2 := Lib.hid hb2
      clear hown1 hown2 hg1 hg2 hat2 x1 x2 st1 dt1 st hb hsure hbox hne
      go_wp2_with fail
      go_roundw
      case rel => exact ⟨j + 1, _, _, by omega, by rw [hm2.out], st2.out, hb2.out⟩
      case measure => have h1 := hm.out; have h2 := hm2.out; simp [intOf]; omega
    · obtain rfl : j = K := by omega
      have q3 : ¬ (0 : Int) < ((j - j : Nat) : Int) := by omega
      have e0 : (j - j : Nat) = 0 := by omega
      rw [e0]
      replace st := Lib.hid st
      go_wp2_with fail
      go_ret
      exact ⟨rfl, ⟨_, _, _, _, st.out.mono fun b hb hF => ⟨hF, hb⟩⟩, hb⟩
end Go.Proofs.Ytbfcaapompkjhaa
