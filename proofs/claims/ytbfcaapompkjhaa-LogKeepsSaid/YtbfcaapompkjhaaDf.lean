/-
  A disk's Crash by its contract.
-/
import Derived.Test.YtbfcaapompkjhaaDc
import Derived.Test.YtbfcaapompkjhaaTill
set_option linter.unusedVariables false
set_option linter.unusedSimpArgs false
namespace Go.Proofs.Ytbfcaapompkjhaa
open Go.RowKit Go.Proofs.PosteMem
attribute [local go_sem ↓] Go.wp_at_zero Go.wp_at_succ

/-- What is sure when the first i writes were settled. -/
def settleN (kp : List Bool) (U : List (Nat × List Int)) (S : List (List Int)) : Nat → List (List Int)
  | 0 => S
  | i + 1 => if kp[i]? = some true then (settleN kp U S i).set (U[i]?.map (·.1) |>.getD 0) (U[i]?.map (·.2) |>.getD []) else settleN kp U S i
theorem settleN_len (kp : List Bool) (U : List (Nat × List Int)) (S : List (List Int)) : ∀ i, (settleN kp U S i).length = S.length
  | 0 => rfl
  | i + 1 => by unfold settleN; split; rw [List.length_set]; exact settleN_len kp U S i; exact settleN_len kp U S i
theorem settleN_put {kp : List Bool} {U : List (Nat × List Int)} {S : List (List Int)} {i : Nat} (hi : i < U.length) (hk : kp[i]? = some true) : settleN kp U S (i + 1) = (settleN kp U S i).set U[i].1 U[i].2 := by
  rw [settleN, if_pos hk, List.getElem?_eq_getElem hi]; rfl
theorem settleN_skip {kp : List Bool} {U : List (Nat × List Int)} {S : List (List Int)} {i : Nat} (hk : ¬ kp[i]? = some true) : settleN kp U S (i + 1) = settleN kp U S i := by
  rw [settleN, if_neg hk]
def Dk.crash (D : Dk) (kp : List Bool) : Dk := ⟨settleN kp D.uns D.sure D.uns.length, settleN kp D.uns D.sure D.uns.length, [], -1, false, D.written⟩
def VBool (w : World) (v : Value) (kp : List Bool) : Prop := View w 1 v kp.length (kp.map .bool)

theorem view_upd_ne {S : Nat → Prop} {w w' : World} {sz n : Nat} {v : Value} {xs : List Value} (h : View w sz v n xs) (k : Upd S w w') (hS : xs ≠ [] → ∀ b, blockOf v = some b → ¬ S b) : View w' sz v n xs := by
  cases xs with
  | nil =>
    obtain ⟨hl, A, cap, rfl, h1, h2, h3, h4⟩ := h
    exact ⟨hl, A, cap, rfl, h1, h2, h3, fun a ha j u hu => by cases hu⟩
  | cons x xs => exact View.upd h k (hS (by simp))
set_option maxRecDepth 100000 in
set_option maxHeartbeats 8000000 in
theorem crash_any (w : World) (F : Nat → Prop) (p : Nat) (D : Dk) (v : Value) (kp : List Bool) (h : DiskAt w F p D) (hk : D.ok) (hv : VBool w v kp) (hvF : kp ≠ [] → ∀ b, blockOf v = some b → ¬ F b) (hkl : kp.length ≤ 1000000) (hu0 : D.uns.length ≤ 1000000) :
    Calls Try.prog 20 #[.pointer (some ⟨p, 0, none⟩), v] w fun e w' => e = .returned (.tuple #[]) ∧ Post w F p (D.crash kp) w' := by
  obtain ⟨vs, vn, vu, hs, hn, hu, h⟩ := h
  have hmax := hk.max
  have hlen := hk.len
  have huns := hk.uns
  obtain ⟨S, N, U, left, broken, written⟩ := D
  simp only at hmax hlen huns hu0
  obtain ⟨Ak, ck, rfl, _⟩ := hv.cells
  obtain ⟨Au, cu, rfl, _⟩ := own_shape h.uns
  have c2 := h.box.cell 2
  simp only at c2
  have hFp := h.fp
  have hst := h.open
  have hfu := h.fu
  clear h hk
  replace hst := Lib.hid hst
  obtain ⟨S2, hS2⟩ : ∃ S2, settleN kp U S U.length = S2 := ⟨_, rfl⟩
  unfold Dk.crash
  simp only
  rw [hS2]
  replace hS2 := Lib.hid hS2
  go_enter Try.func20, Try.ntmps20
  go_upto_region 2 with fail
  clear c2
  go_loopw [4, 5, 13] (fun _ _ i wr => ∃ (k : Nat) (hs' : List Value), k ≤ U.length ∧ i = .int .i64 k ∧ DAt wr (op F w) p vs vn (.slice Au U.length cu) hs' hn hu ⟨settleN kp U S k, N, U, left, broken, written⟩ ∧ Upd F w wr) (fun _ _ i _ => U.length - (intOf i).toNat)
  case atStart => exact ⟨0, hs, by omega, rfl, hst.out, Upd.refl _ _⟩
  case round =>
    obtain ⟨k, hs', hk, rfl, st, acc⟩ := hrel
    by_cases hlt : k < U.length
    · have q1 : (k : Int) < (U.length : Int) := by omega
      -- round
      have hul : hu.length = U.length := by have := congrArg List.length st.hat; simpa using this
      have hkh : k < hu.length := by omega
      obtain ⟨gu, off, cap', e, _, _, hgl, fu⟩ := View.elems wc wc_len (n := U.length) (View.of_own st.uns) (by decide) (by omega)
      injection e with e1 e2 e3
      subst e1 e3
      have hdt := st.huns.2 k (by simpa using hkh) (by simpa using hlt)
      have ha : hu[k].1 = U[k].1 := by
        have h1 : (hu.map (·.1))[k]? = (U.map (·.1))[k]? := by rw [st.hat]
        rw [List.getElem?_map, List.getElem?_map, List.getElem?_eq_getElem hkh, List.getElem?_eq_getElem hlt] at h1
        simpa using h1
      have p0 := fu k hkh 0 _ rfl
      have p1 := fu k hkh 1 _ rfl
      have hal := huns U[k] (List.getElem_mem hlt)
      simp only [List.getElem_map] at hdt
      have hput := fun (h : kp[k]? = some true) => settleN_put (S := S) hlt h
      generalize hx : hu[k] = x at *
      generalize hy : U[k] = y at *
      obtain ⟨a', hd⟩ := x
      obtain ⟨a, b⟩ := y
      simp only at ha hdt hal hput
      subst ha
      have dt0 := hdt
      obtain ⟨g2, c2, rfl, hFg, hob⟩ := hdt
      replace p0 : wr.cell? ⟨gu, off + k * 2, none⟩ = some (.int .i64 a') := p0
      replace p1 : wr.cell? ⟨gu, off + k * 2 + 1, none⟩ = some (.slice (some ⟨g2, 0, none⟩) b.length c2) := p1
      have hal2 := (Below.refl wr.heap.size wr).alloc (Nat.le_refl _) (.cells #[.int .i64 a', .slice (some ⟨g2, 0, none⟩) b.length c2] 79)
      have st1 := st.below hal2
      have acc1 := acc.alloc (.cells #[.int .i64 a', .slice (some ⟨g2, 0, none⟩) b.length c2] 79)
      have hv1 := view_upd_ne hv acc1 (fun hne => hvF (fun e => hne (by rw [e]; rfl)))
      have dt1 : Dt _ (op F w) _ b := dt0.upd (S := fun _ => False) (Upd.of_below hal2) (fun _ _ t => t)
      have nbx := Whole.new wr 79 #[.int .i64 a', .slice (some ⟨g2, 0, none⟩) b.length c2]
      clear hob hx hy fu st acc dt0 hal2 hul
      replace st1 := Lib.hid st1
      replace acc1 := Lib.hid acc1
      replace dt1 := Lib.hid dt1
      replace hput := Lib.hid hput
      go_upto_region 4 with fail
      clear p0 p1
      generalize wr.alloc (.cells #[.int .i64 a', .slice (some ⟨g2, 0, none⟩) b.length c2] 79) = W1 at *
      generalize wr.heap.size = nb at *
      have n0 := nbx.cell 0
      have n1 := nbx.cell 1
      by_cases hk1 : k < kp.length
      · have q2 : (k : Int) < (kp.length : Int) := by omega
        obtain ⟨bk, ok, ck', e, _, _, hbl, fk⟩ := hv1.at_ (by omega)
        injection e with e1 e2 e3
        subst e1 e3
        have lk : W1.cell? ⟨bk, ok + k, none⟩ = some (.bool kp[k]) := fk k _ (by simp [List.getElem?_eq_getElem hk1])
        have hkk : kp[k]? = some kp[k] := List.getElem?_eq_getElem hk1
        clear fk
        cases hb : kp[k] with
        | false =>
          rw [hb] at lk hkk
          have e5 := settleN_skip (kp := kp) (U := U) (S := S) (i := k) (by rw [hkk]; simp)
          clear hput dt1 nbx n0 n1 hb
          go_wp2_with fail
          go_roundw
          case rel => exact ⟨k + 1, hs', by omega, by go_num, by rw [e5]; exact st1.out, acc1.out⟩
          case measure => simp [intOf]; omega
        | true =>
          rw [hb] at lk hkk
          have e5 := hput.out hkk
          have hal3 : a' < S.length := hal
          obtain ⟨gs, cs, rfl, _⟩ := own_some st1.out.sure (by show 0 < (settleN kp U S k).length; rw [settleN_len]; omega)
          have s0 := st1.out.box.cell 0
          obtain ⟨u1, s1⟩ : ∃ u, W1.cell? ⟨gs, a', none⟩ = some u := ⟨_, own_cell st1.out.sure a' (by show a' < (settleN kp U S k).length * 1; rw [settleN_len]; omega)⟩
          have s2 := own_free st1.out.sure a'
          have st2 := st1.out.setSure a' (by show a' < (settleN kp U S k).length; rw [settleN_len]; omega) dt1.out
          have st3 := st2.upd ((Upd.refl (fun _ => False) _).drew) (fun _ _ t => t)
          have acc3 := (acc1.out.setCell (p := ⟨gs, a', none⟩) ((st1.out.fs gs rfl).symm) (.slice (some ⟨g2, 0, none⟩) b.length c2)).drew
          simp only [settleN_len] at s0
          have q3 : (a' : Int) < (S.length : Int) := by omega
          rw [← e5] at st3
          clear hput dt1 nbx hb st1 acc1 st2 hkk
          replace st3 := Lib.hid st3
          replace acc3 := Lib.hid acc3
          replace e5 := Lib.hid e5
          go_wp2_with fail
          clear lk
          refine tl_begin (fun (w' : World) => w'.cell? ⟨p, 0, none⟩ = some (.slice (some ⟨gs, 0, none⟩) S.length cs) ∧ w'.cell? ⟨nb, 0, none⟩ = some (.int .i64 a') ∧ w'.cell? ⟨nb, 1, none⟩ = some (.slice (some ⟨g2, 0, none⟩) b.length c2)) [9] (by kernel_rfl) (⟨s0, n0, n1⟩) (fun hHeld => ?_)
          refine tl_p (i := 0) (v := ?_) rfl (by rfl) (by kernel_rfl) (by kernel_rfl) (by kernel_rfl) (fun _ _ _ h => h) (by rfl) hHeld ?_ ?_
          rotate_left
          · intro w
            go_simp
            try (with_reducible rfl)
          try simp only [Act.put, List.setIfInBounds_toArray, List.set_cons_zero, List.set_cons_succ]
          refine tl_p (i := 1) (v := ?_) rfl (by rfl) (by kernel_rfl) (by kernel_rfl) (by kernel_rfl) (fun _ _ _ h => h) (by rfl) hHeld ?_ ?_
          rotate_left
          · intro w
            go_simp
            try (with_reducible rfl)
          try simp only [Act.put, List.setIfInBounds_toArray, List.set_cons_zero, List.set_cons_succ]
          refine tl_p (i := 2) (v := ?_) rfl (by rfl) (by kernel_rfl) (by kernel_rfl) (by kernel_rfl) (fun _ _ _ h => h) (by rfl) hHeld ?_ ?_
          rotate_left
          · intro w
            go_simp
            try (with_reducible rfl)
          try simp only [Act.put, List.setIfInBounds_toArray, List.set_cons_zero, List.set_cons_succ]
          refine tl_w (i := 3) (v := ?_) rfl (by rfl) (by kernel_rfl) (by kernel_rfl) (by kernel_rfl) (by kernel_rfl) (by kernel_rfl) (fun _ _ _ h => h) (by rfl) hHeld ?_ ?_
          rotate_left
          · intro w hSw
            try dsimp only at hSw
            go_simp
            try (with_reducible rfl)
          try simp only [Act.put, List.setIfInBounds_toArray, List.set_cons_zero, List.set_cons_succ]
          refine tl_p (i := 4) (v := ?_) rfl (by rfl) (by kernel_rfl) (by kernel_rfl) (by kernel_rfl) (fun _ _ _ h => h) (by rfl) hHeld ?_ ?_
          rotate_left
          · intro w
            go_simp
            try (with_reducible rfl)
          try simp only [Act.put, List.setIfInBounds_toArray, List.set_cons_zero, List.set_cons_succ]
          refine tl_w (i := 5) (v := ?_) rfl (by rfl) (by kernel_rfl) (by kernel_rfl) (by kernel_rfl) (by kernel_rfl) (by kernel_rfl) (fun _ _ _ h => h) (by rfl) hHeld ?_ ?_
          rotate_left
          · intro w hSw
            try dsimp only at hSw
            go_simp
            try (with_reducible rfl)
          try simp only [Act.put, List.setIfInBounds_toArray, List.set_cons_zero, List.set_cons_succ]
          refine tl_p (i := 6) (v := ?_) rfl (by rfl) (by kernel_rfl) (by kernel_rfl) (by kernel_rfl) (fun _ _ _ h => h) (by rfl) hHeld ?_ ?_
          rotate_left
          · intro w
            go_simp
            try (with_reducible rfl)
          try simp only [Act.put, List.setIfInBounds_toArray, List.set_cons_zero, List.set_cons_succ]
          refine tl_w (i := 7) (v := ?_) rfl (by rfl) (by kernel_rfl) (by kernel_rfl) (by kernel_rfl) (by kernel_rfl) (by kernel_rfl) (fun _ _ _ h => h) (by rfl) hHeld ?_ ?_
          rotate_left
          · intro w hSw
            try dsimp only at hSw
            go_simp
            try (with_reducible rfl)
          try simp only [Act.put, List.setIfInBounds_toArray, List.set_cons_zero, List.set_cons_succ]
          refine tl_p (i := 8) (v := ?_) rfl (by rfl) (by kernel_rfl) (by kernel_rfl) (by kernel_rfl) (fun _ _ _ h => h) (by rfl) hHeld ?_ ?_
          rotate_left
          · intro w
            go_simp
            try (with_reducible rfl)
          try simp only [Act.put, List.setIfInBounds_toArray, List.set_cons_zero, List.set_cons_succ]
          refine tl_late (by kernel_rfl) ?_
          refine any_do (i := 9) rfl (by kernel_rfl) (by rfl) (fun K hK => ?_)
          go_simp
          refine hK.out _ _ ?_
          clear hK K
          try simp only [Act.put, List.setIfInBounds_toArray, List.set_cons_zero, List.set_cons_succ]
          refine wpAny_done (by kernel_rfl) ?_ _
          go_wp2_with fail
          go_roundw
          case rel => exact ⟨k + 1, _, by omega, by go_num, st3.out, acc3.out⟩
          case measure => simp [intOf]; omega
      · have q2 : ¬ (k : Int) < (kp.length : Int) := by omega
        have e5 := settleN_skip (kp := kp) (U := U) (S := S) (i := k) (by rw [List.getElem?_eq_none (by omega)]; simp)
        clear hput dt1 nbx n0 n1
        go_wp2_with fail
        go_roundw
        case rel => exact ⟨k + 1, hs', by omega, by go_num, by rw [e5]; exact st1.out, acc1.out⟩
        case measure => simp [intOf]; omega
    · have q1 : ¬ (k : Int) < (U.length : Int) := by omega
      obtain rfl : k = U.length := by omega
      have hSl := settleN_len kp U S U.length
      rw [hS2.out] at st hSl
      have hsure := st.sure
      obtain ⟨As, cs, rfl, _⟩ := own_shape hsure
      have c0 := st.box.cell 0
      simp only at c0 hsure
      have kC := Lib.hid (cloneS wr _ _ hs' st.hsure.one (View.of_own hsure) (by omega))
      clear hsure hSl
      go_wp2_with fail
      refine kC.out.mono ?_; rintro e w2 ⟨v2, rfl, ho, hb2⟩
      have st2 := st.below hb2
      have acc2 : Upd F w w2 := acc.trans (T := fun _ => False) (Upd.of_below hb2) (fun _ _ t => t.elim)
      obtain ⟨A2, c2, rfl, _⟩ := own_shape ho
      have d1 := st2.box.cell 1
      have d2 := st2.box.cell 2
      have d3 := st2.box.cell 3
      have d4 := st2.box.cell 4
      have f1 := st2.box.frozen 1
      have f2 := st2.box.frozen 2
      have f3 := st2.box.frozen 3
      have f4 := st2.box.frozen 4
      have hsz := acc.size
      have st3 := st2.newNow (L := S2) (own_mono ho (Nat.zero_le _)) st2.hsure (fun b e => ⟨.inr (by have := (own_lt ho e).1; omega), fun e2 => by have h1 := (own_lt st.sure e2).2; have h2 := (own_lt ho e).1; omega⟩)
      have st4 := ((st3.noUns).setBox (D' := ⟨S2, S2, [], left, false, written⟩) 4 (.bool false) rfl rfl rfl rfl).setBox (D' := ⟨S2, S2, [], -1, false, written⟩) 3 (.int .i64 (-1)) rfl rfl rfl rfl
      have acc4 := (((acc2.setCell (p := ⟨p, 1, none⟩) (.inr hFp) (.slice A2 S2.length c2)).setCell (p := ⟨p, 2, none⟩) (.inr hFp) (.slice none 0 0)).setCell (p := ⟨p, 4, none⟩) (.inr hFp) (.bool false)).setCell (p := ⟨p, 3, none⟩) (.inr hFp) (.int .i64 (-1))
      have hp := Lib.hid (Post.close st4 acc4)
      clear st st2 st3 st4 ho hb2 kC c0 acc acc2 acc4
      go_wp2_with fail
      go_end0
      exact ⟨rfl, hp.out⟩
end Go.Proofs.Ytbfcaapompkjhaa
