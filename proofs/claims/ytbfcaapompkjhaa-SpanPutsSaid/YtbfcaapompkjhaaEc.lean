/-
  The reference's disk: Cut, settle, Sync, Crash, Break, NewDisk by their contracts.
-/
import Derived.Test.YtbfcaapompkjhaaEb
import Derived.Test.YtbfcaapompkjhaaMk
set_option linter.unusedVariables false
set_option linter.unusedSimpArgs false
namespace Go.Proofs.Ytbfcaapompkjhaa
open Go.RowKit Go.Proofs.PosteMem
attribute [local go_sem ↓] Go.wp_at_zero Go.wp_at_succ

theorem cut_any (w : World) (n lo hi : Int) : Calls Try.prog 57 #[.int .i64 n, .int .i64 lo, .int .i64 hi] w fun e w' => e = .returned (.int .i64 (cutI n lo hi)) ∧ w' = w := by
  unfold cutI
  by_cases h1 : n < lo
  · rw [if_pos h1]
    go_enter Try.func57, Try.ntmps57
    go_wp2_with fail
    go_ret
    exact ⟨rfl, rfl⟩
  · rw [if_neg h1]
    by_cases h2 : hi < n
    · rw [if_pos h2]
      go_enter Try.func57, Try.ntmps57
      go_wp2_with fail
      go_ret
      exact ⟨rfl, rfl⟩
    · rw [if_neg h2]
      go_enter Try.func57, Try.ntmps57
      go_wp2_with fail
      go_ret
      exact ⟨rfl, rfl⟩

/-- All, or what stays, of the first i writes. -/
def settleX (all : Bool) (kp : List Bool) (U : List (Nat × List Int)) (S : List (List Int)) : Nat → List (List Int)
  | 0 => S
  | i + 1 => if all = true ∨ kp[i]? = some true then (settleX all kp U S i).set (U[i]?.map (·.1) |>.getD 0) (U[i]?.map (·.2) |>.getD []) else settleX all kp U S i
theorem settleX_true (kp : List Bool) (U : List (Nat × List Int)) (S : List (List Int)) : ∀ i, settleX true kp U S i = settleA U S i
  | 0 => rfl
  | i + 1 => by rw [settleX, if_pos (.inl rfl), settleX_true kp U S i]; rfl
theorem settleX_false (kp : List Bool) (U : List (Nat × List Int)) (S : List (List Int)) : ∀ i, settleX false kp U S i = settleN kp U S i
  | 0 => rfl
  | i + 1 => by
    rw [settleX, settleN, settleX_false kp U S i]
    by_cases h : kp[i]? = some true
    · rw [if_pos (.inr h), if_pos h]
    · rw [if_neg (by rintro (h1 | h1); cases h1; exact h h1), if_neg h]
theorem settleX_len (all : Bool) (kp : List Bool) (U : List (Nat × List Int)) (S : List (List Int)) : ∀ i, (settleX all kp U S i).length = S.length
  | 0 => rfl
  | i + 1 => by unfold settleX; split; rw [List.length_set]; exact settleX_len all kp U S i; exact settleX_len all kp U S i
theorem settleX_put {all : Bool} {kp : List Bool} {U : List (Nat × List Int)} {S : List (List Int)} {i : Nat} (hi : i < U.length) (hk : all = true ∨ kp[i]? = some true) : settleX all kp U S (i + 1) = (settleX all kp U S i).set U[i].1 U[i].2 := by
  rw [settleX, if_pos hk, List.getElem?_eq_getElem hi]; rfl
theorem settleX_skip {all : Bool} {kp : List Bool} {U : List (Nat × List Int)} {S : List (List Int)} {i : Nat} (hk : ¬ (all = true ∨ kp[i]? = some true)) : settleX all kp U S (i + 1) = settleX all kp U S i := by
  rw [settleX, if_neg hk]

set_option maxRecDepth 100000 in
set_option maxHeartbeats 8000000 in
theorem settle_any (w : World) (F : Nat → Prop) (p : Nat) (D : Rk) (v : Value) (kp : List Bool) (all : Bool) (h : RefAt w F p D) (hk : D.ok) (hv : VBool w v kp) (hvF : kp ≠ [] → ∀ b, blockOf v = some b → ¬ F b) (hkl : kp.length ≤ 1000000) (hu0 : D.uns.length ≤ 1000000) :
    Calls Try.prog 59 #[.pointer (some ⟨p, 0, none⟩), v, .bool all] w fun e w' => e = .returned (.tuple #[]) ∧ RPost w F p ⟨settleX all kp D.uns D.sure D.uns.length, [], D.left, D.ends, D.count⟩ w' := by
  obtain ⟨vs, vu, hs, hu, h⟩ := h
  have hmax := hk.max
  have huns := hk.uns
  obtain ⟨S, U, left, ends, count⟩ := D
  simp only at hmax huns hu0 ⊢
  obtain ⟨Ak, ck, rfl, _⟩ := hv.cells
  obtain ⟨Au, cu, rfl, _⟩ := own_shape h.uns
  have hFp := h.fp
  have hst := h.open
  clear h hk
  replace hst := Lib.hid hst
  obtain ⟨S2, hS2⟩ : ∃ S2, settleX all kp U S U.length = S2 := ⟨_, rfl⟩
  rw [hS2]
  replace hS2 := Lib.hid hS2
  go_enter Try.func59, Try.ntmps59
  go_upto_region 1 with fail
  go_loopw [6] (fun i wr => ∃ (k : Nat) (hs' : List Value), k ≤ U.length ∧ i = .int .i64 k ∧ RAt wr (op F w) p vs (.slice Au U.length cu) hs' hu ⟨settleX all kp U S k, U, left, ends, count⟩ ∧ Upd F w wr) (fun i _ => U.length - (intOf i).toNat)
  case atStart => exact ⟨0, hs, by omega, rfl, hst.out, Upd.refl _ _⟩
  clear hst
  case round =>
    obtain ⟨k, hs', hk, rfl, st, acc⟩ := hrel
    have b1 := st.box.cell 1
    by_cases hlt : k < U.length
    · have q1 : (k : Int) < (U.length : Int) := by omega
      have hul : hu.length = U.length := by have := congrArg List.length st.hat; simpa using this
      have hkh : k < hu.length := by omega
      obtain ⟨gu, off, cap', e, _, _, hgl, fu⟩ := View.elems wc wc_len (n := U.length) (View.of_own st.uns) (by decide) (by omega)
      injection e with e1 e2 e3
      subst e1 e3
      have hdt := st.huns.2 k (by simpa using hkh) (by simpa using hlt)
      have ha : hu[k].1 = U[k].1 := by
        have h1 : (hu.map (·.1))[k]? = (U.map (·.1))[k]? := by rw [st.hat]
        rw [List.getElem?_map, List.getElem?_map, List.getElem?_eq_getElem hkh, List.getElem?_eq_getElem hlt] at h1
        simpa using h1
      have p0 := fu k hkh 0 _ rfl
      have p1 := fu k hkh 1 _ rfl
      have hal := huns U[k] (List.getElem_mem hlt)
      simp only [List.getElem_map] at hdt
      have hput := fun (h : all = true ∨ kp[k]? = some true) => settleX_put (all := all) (kp := kp) (S := S) hlt h
      generalize hx : hu[k] = x at *
      generalize hy : U[k] = y at *
      obtain ⟨a', hd⟩ := x
      obtain ⟨a, b⟩ := y
      simp only at ha hdt hal hput
      subst ha
      have dt0 := hdt
      obtain ⟨g2, c2, rfl, hFg, hob⟩ := hdt
      replace p0 : wr.cell? ⟨gu, off + k * 2, none⟩ = some (.int .i64 a') := p0
      replace p1 : wr.cell? ⟨gu, off + k * 2 + 1, none⟩ = some (.slice (some ⟨g2, 0, none⟩) b.length c2) := p1
      have hv1 := view_upd_ne hv acc (fun hne => hvF (fun e => hne (by rw [e]; rfl)))
      have hal3 : a' < S.length := hal
      clear hob hx hy fu hul
      replace hput := Lib.hid hput
      have hdone := fun (hkk : all = true ∨ kp[k]? = some true) => hput.out hkk
      cases all with
      | true =>
          have e5 := hdone (.inl rfl)
          clear hdone hv1
          obtain ⟨gs, cs, rfl, _⟩ := own_some st.sure (by show 0 < (settleX true kp U S k).length; rw [settleX_len]; omega)
          have s0 := st.box.cell 0
          have s1 := st.box.cell 1
          obtain ⟨u1, z1⟩ : ∃ u, wr.cell? ⟨gs, a', none⟩ = some u := ⟨_, own_cell st.sure a' (by show a' < (settleX true kp U S k).length * 1; rw [settleX_len]; omega)⟩
          have z2 := own_free st.sure a'
          have st2 := st.setSure a' (by show a' < (settleX true kp U S k).length; rw [settleX_len]; omega) dt0
          have st3 := st2.upd ((Upd.refl (fun _ => False) _).drew) (fun _ _ t => t)
          have acc3 := (acc.setCell (p := ⟨gs, a', none⟩) ((st.fs gs rfl).symm) (.slice (some ⟨g2, 0, none⟩) b.length c2)).drew
          simp only [settleX_len] at s0
          have q3 : (a' : Int) < (S.length : Int) := by omega
          rw [← e5] at st3
          clear st2 st acc dt0 hput
          replace st3 := Lib.hid st3
          replace acc3 := Lib.hid acc3
          replace e5 := Lib.hid e5
          go_wp2_with fail
          refine tl_begin (fun (w' : World) => w'.cell? ⟨p, 0, none⟩ = some (.slice (some ⟨gs, 0, none⟩) S.length cs) ∧ w'.cell? ⟨p, 1, none⟩ = some (.slice (some ⟨gu, off, none⟩) U.length cu) ∧ w'.cell? ⟨gu, off + k * 2, none⟩ = some (.int .i64 a') ∧ w'.cell? ⟨gu, off + k * 2 + 1, none⟩ = some (.slice (some ⟨g2, 0, none⟩) b.length c2)) [21] (by kernel_rfl) (⟨s0, s1, p0, p1⟩) (fun hHeld => ?_)
          refine tl_p (i := 0) (v := ?_) rfl (by rfl) (by kernel_rfl) (by kernel_rfl) (by kernel_rfl) (fun _ _ _ h => h) (by rfl) hHeld ?_ ?_
          rotate_left
          · intro w
            go_simp
            try (with_reducible rfl)
          try simp only [Act.put, List.setIfInBounds_toArray, List.set_cons_zero, List.set_cons_succ]
          refine tl_p (i := 1) (v := ?_) rfl (by rfl) (by kernel_rfl) (by kernel_rfl) (by kernel_rfl) (fun _ _ _ h => h) (by rfl) hHeld ?_ ?_
          rotate_left
          · intro w
            go_simp
            try (with_reducible rfl)
          try simp only [Act.put, List.setIfInBounds_toArray, List.set_cons_zero, List.set_cons_succ]
          refine tl_p (i := 2) (v := ?_) rfl (by rfl) (by kernel_rfl) (by kernel_rfl) (by kernel_rfl) (fun _ _ _ h => h) (by rfl) hHeld ?_ ?_
          rotate_left
          · intro w
            go_simp
            try (with_reducible rfl)
          try simp only [Act.put, List.setIfInBounds_toArray, List.set_cons_zero, List.set_cons_succ]
          refine tl_w (i := 3) (v := ?_) rfl (by rfl) (by kernel_rfl) (by kernel_rfl) (by kernel_rfl) (by kernel_rfl) (by kernel_rfl) (fun _ _ _ h => h) (by rfl) hHeld ?_ ?_
          rotate_left
          · intro w hSw
            try dsimp only at hSw
            go_simp
            try (with_reducible rfl)
          try simp only [Act.put, List.setIfInBounds_toArray, List.set_cons_zero, List.set_cons_succ]
          refine tl_p (i := 4) (v := ?_) rfl (by rfl) (by kernel_rfl) (by kernel_rfl) (by kernel_rfl) (fun _ _ _ h => h) (by rfl) hHeld ?_ ?_
          rotate_left
          · intro w
            go_simp
            try (with_reducible rfl)
          try simp only [Act.put, List.setIfInBounds_toArray, List.set_cons_zero, List.set_cons_succ]
          refine tl_p (i := 5) (v := ?_) rfl (by rfl) (by kernel_rfl) (by kernel_rfl) (by kernel_rfl) (fun _ _ _ h => h) (by rfl) hHeld ?_ ?_
          rotate_left
          · intro w
            go_simp
            try (with_reducible rfl)
          try simp only [Act.put, List.setIfInBounds_toArray, List.set_cons_zero, List.set_cons_succ]
          refine tl_p (i := 6) (v := ?_) rfl (by rfl) (by kernel_rfl) (by kernel_rfl) (by kernel_rfl) (fun _ _ _ h => h) (by rfl) hHeld ?_ ?_
          rotate_left
          · intro w
            go_simp
            try (with_reducible rfl)
          try simp only [Act.put, List.setIfInBounds_toArray, List.set_cons_zero, List.set_cons_succ]
          refine tl_w (i := 7) (v := ?_) rfl (by rfl) (by kernel_rfl) (by kernel_rfl) (by kernel_rfl) (by kernel_rfl) (by kernel_rfl) (fun _ _ _ h => h) (by rfl) hHeld ?_ ?_
          rotate_left
          · intro w hSw
            try dsimp only at hSw
            go_simp
            try (with_reducible rfl)
          try simp only [Act.put, List.setIfInBounds_toArray, List.set_cons_zero, List.set_cons_succ]
          refine tl_p (i := 8) (v := ?_) rfl (by rfl) (by kernel_rfl) (by kernel_rfl) (by kernel_rfl) (fun _ _ _ h => h) (by rfl) hHeld ?_ ?_
          rotate_left
          · intro w
            go_simp
            try (with_reducible rfl)
          try simp only [Act.put, List.setIfInBounds_toArray, List.set_cons_zero, List.set_cons_succ]
          refine tl_p (i := 9) (v := ?_) rfl (by rfl) (by kernel_rfl) (by kernel_rfl) (by kernel_rfl) (fun _ _ _ h => h) (by rfl) hHeld ?_ ?_
          rotate_left
          · intro w
            go_simp
            try (with_reducible rfl)
          try simp only [Act.put, List.setIfInBounds_toArray, List.set_cons_zero, List.set_cons_succ]
          refine tl_p (i := 10) (v := ?_) rfl (by rfl) (by kernel_rfl) (by kernel_rfl) (by kernel_rfl) (fun _ _ _ h => h) (by rfl) hHeld ?_ ?_
          rotate_left
          · intro w
            go_simp
            try (with_reducible rfl)
          try simp only [Act.put, List.setIfInBounds_toArray, List.set_cons_zero, List.set_cons_succ]
          refine tl_w (i := 11) (v := ?_) rfl (by rfl) (by kernel_rfl) (by kernel_rfl) (by kernel_rfl) (by kernel_rfl) (by kernel_rfl) (fun _ _ _ h => h) (by rfl) hHeld ?_ ?_
          rotate_left
          · intro w hSw
            try dsimp only at hSw
            go_simp
            try (with_reducible rfl)
          try simp only [Act.put, List.setIfInBounds_toArray, List.set_cons_zero, List.set_cons_succ]
          refine tl_p (i := 12) (v := ?_) rfl (by rfl) (by kernel_rfl) (by kernel_rfl) (by kernel_rfl) (fun _ _ _ h => h) (by rfl) hHeld ?_ ?_
          rotate_left
          · intro w
            go_simp
            try (with_reducible rfl)
          try simp only [Act.put, List.setIfInBounds_toArray, List.set_cons_zero, List.set_cons_succ]
          refine tl_p (i := 13) (v := ?_) rfl (by rfl) (by kernel_rfl) (by kernel_rfl) (by kernel_rfl) (fun _ _ _ h => h) (by rfl) hHeld ?_ ?_
          rotate_left
          · intro w
            go_simp
            try (with_reducible rfl)
          try simp only [Act.put, List.setIfInBounds_toArray, List.set_cons_zero, List.set_cons_succ]
          refine tl_p (i := 14) (v := ?_) rfl (by rfl) (by kernel_rfl) (by kernel_rfl) (by kernel_rfl) (fun _ _ _ h => h) (by rfl) hHeld ?_ ?_
          rotate_left
          · intro w
            go_simp
            try (with_reducible rfl)
          try simp only [Act.put, List.setIfInBounds_toArray, List.set_cons_zero, List.set_cons_succ]
          refine tl_w (i := 15) (v := ?_) rfl (by rfl) (by kernel_rfl) (by kernel_rfl) (by kernel_rfl) (by kernel_rfl) (by kernel_rfl) (fun _ _ _ h => h) (by rfl) hHeld ?_ ?_
          rotate_left
          · intro w hSw
            try dsimp only at hSw
            go_simp
            try (with_reducible rfl)
          try simp only [Act.put, List.setIfInBounds_toArray, List.set_cons_zero, List.set_cons_succ]
          refine tl_p (i := 16) (v := ?_) rfl (by rfl) (by kernel_rfl) (by kernel_rfl) (by kernel_rfl) (fun _ _ _ h => h) (by rfl) hHeld ?_ ?_
          rotate_left
          · intro w
            go_simp
            try (with_reducible rfl)
          try simp only [Act.put, List.setIfInBounds_toArray, List.set_cons_zero, List.set_cons_succ]
          refine tl_p (i := 17) (v := ?_) rfl (by rfl) (by kernel_rfl) (by kernel_rfl) (by kernel_rfl) (fun _ _ _ h => h) (by rfl) hHeld ?_ ?_
          rotate_left
          · intro w
            go_simp
            try (with_reducible rfl)
          try simp only [Act.put, List.setIfInBounds_toArray, List.set_cons_zero, List.set_cons_succ]
          refine tl_p (i := 18) (v := ?_) rfl (by rfl) (by kernel_rfl) (by kernel_rfl) (by kernel_rfl) (fun _ _ _ h => h) (by rfl) hHeld ?_ ?_
          rotate_left
          · intro w
            go_simp
            try (with_reducible rfl)
          try simp only [Act.put, List.setIfInBounds_toArray, List.set_cons_zero, List.set_cons_succ]
          refine tl_w (i := 19) (v := ?_) rfl (by rfl) (by kernel_rfl) (by kernel_rfl) (by kernel_rfl) (by kernel_rfl) (by kernel_rfl) (fun _ _ _ h => h) (by rfl) hHeld ?_ ?_
          rotate_left
          · intro w hSw
            try dsimp only at hSw
            go_simp
            try (with_reducible rfl)
          try simp only [Act.put, List.setIfInBounds_toArray, List.set_cons_zero, List.set_cons_succ]
          refine tl_p (i := 20) (v := ?_) rfl (by rfl) (by kernel_rfl) (by kernel_rfl) (by kernel_rfl) (fun _ _ _ h => h) (by rfl) hHeld ?_ ?_
          rotate_left
          · intro w
            go_simp
            try (with_reducible rfl)
          try simp only [Act.put, List.setIfInBounds_toArray, List.set_cons_zero, List.set_cons_succ]
          refine tl_late (by kernel_rfl) ?_
          refine any_do (i := 21) rfl (by kernel_rfl) (by rfl) (fun K hK => ?_)
          go_simp
          refine hK.out _ _ ?_
          clear hK K
          try simp only [Act.put, List.setIfInBounds_toArray, List.set_cons_zero, List.set_cons_succ]
          refine wpAny_done (by kernel_rfl) ?_ _
          go_wp2_with fail
          go_roundw
          case rel => exact ⟨k + 1, _, by omega, by go_num, st3.out, acc3.out⟩
          case measure => simp [intOf]; omega
      | false =>
        by_cases hk1 : k < kp.length
        · have q2 : (k : Int) < (kp.length : Int) := by omega
          obtain ⟨bk, ok, ck', e, _, _, hbl, fk⟩ := hv1.at_ (by omega)
          injection e with e1 e2 e3
          subst e1 e3
          have lk : wr.cell? ⟨bk, ok + k, none⟩ = some (.bool kp[k]) := fk k _ (by simp [List.getElem?_eq_getElem hk1])
          have hkk : kp[k]? = some kp[k] := List.getElem?_eq_getElem hk1
          clear fk hv1
          cases hb : kp[k] with
          | false =>
            rw [hb] at lk hkk
            have e5 := settleX_skip (all := false) (kp := kp) (U := U) (S := S) (i := k) (by rw [hkk]; simp)
            replace st := Lib.hid st
            replace acc := Lib.hid acc
            replace e5 := Lib.hid e5
            clear hdone hput dt0 hb p0 p1 hkk
            go_wp2_with fail
            go_roundw
            case rel => exact ⟨k + 1, hs', by omega, by go_num, by rw [e5.out]; exact st.out, acc.out⟩
            case measure => simp [intOf]; omega
          | true =>
            rw [hb] at lk hkk
            have e5 := hdone (.inr hkk)
            clear hdone hb hkk
            obtain ⟨gs, cs, rfl, _⟩ := own_some st.sure (by show 0 < (settleX false kp U S k).length; rw [settleX_len]; omega)
            have s0 := st.box.cell 0
            have s1 := st.box.cell 1
            obtain ⟨u1, z1⟩ : ∃ u, wr.cell? ⟨gs, a', none⟩ = some u := ⟨_, own_cell st.sure a' (by show a' < (settleX false kp U S k).length * 1; rw [settleX_len]; omega)⟩
            have z2 := own_free st.sure a'
            have st2 := st.setSure a' (by show a' < (settleX false kp U S k).length; rw [settleX_len]; omega) dt0
            have st3 := st2.upd ((Upd.refl (fun _ => False) _).drew) (fun _ _ t => t)
            have acc3 := (acc.setCell (p := ⟨gs, a', none⟩) ((st.fs gs rfl).symm) (.slice (some ⟨g2, 0, none⟩) b.length c2)).drew
            simp only [settleX_len] at s0
            have q3 : (a' : Int) < (S.length : Int) := by omega
            rw [← e5] at st3
            clear st2 st acc dt0 hput
            replace st3 := Lib.hid st3
            replace acc3 := Lib.hid acc3
            replace e5 := Lib.hid e5
            go_wp2_with fail
            clear lk
            refine tl_begin (fun (w' : World) => w'.cell? ⟨p, 0, none⟩ = some (.slice (some ⟨gs, 0, none⟩) S.length cs) ∧ w'.cell? ⟨p, 1, none⟩ = some (.slice (some ⟨gu, off, none⟩) U.length cu) ∧ w'.cell? ⟨gu, off + k * 2, none⟩ = some (.int .i64 a') ∧ w'.cell? ⟨gu, off + k * 2 + 1, none⟩ = some (.slice (some ⟨g2, 0, none⟩) b.length c2)) [21] (by kernel_rfl) (⟨s0, s1, p0, p1⟩) (fun hHeld => ?_)
            refine tl_p (i := 0) (v := ?_) rfl (by rfl) (by kernel_rfl) (by kernel_rfl) (by kernel_rfl) (fun _ _ _ h => h) (by rfl) hHeld ?_ ?_
            rotate_left
            · intro w
              go_simp
              try (with_reducible rfl)
            try simp only [Act.put, List.setIfInBounds_toArray, List.set_cons_zero, List.set_cons_succ]
            refine tl_p (i := 1) (v := ?_) rfl (by rfl) (by kernel_rfl) (by kernel_rfl) (by kernel_rfl) (fun _ _ _ h => h) (by rfl) hHeld ?_ ?_
            rotate_left
            · intro w
              go_simp
              try (with_reducible rfl)
            try simp only [Act.put, List.setIfInBounds_toArray, List.set_cons_zero, List.set_cons_succ]
            refine tl_p (i := 2) (v := ?_) rfl (by rfl) (by kernel_rfl) (by kernel_rfl) (by kernel_rfl) (fun _ _ _ h => h) (by rfl) hHeld ?_ ?_
            rotate_left
            · intro w
              go_simp
              try (with_reducible rfl)
            try simp only [Act.put, List.setIfInBounds_toArray, List.set_cons_zero, List.set_cons_succ]
            refine tl_w (i := 3) (v := ?_) rfl (by rfl) (by kernel_rfl) (by kernel_rfl) (by kernel_rfl) (by kernel_rfl) (by kernel_rfl) (fun _ _ _ h => h) (by rfl) hHeld ?_ ?_
            rotate_left
            · intro w hSw
              try dsimp only at hSw
              go_simp
              try (with_reducible rfl)
            try simp only [Act.put, List.setIfInBounds_toArray, List.set_cons_zero, List.set_cons_succ]
            refine tl_p (i := 4) (v := ?_) rfl (by rfl) (by kernel_rfl) (by kernel_rfl) (by kernel_rfl) (fun _ _ _ h => h) (by rfl) hHeld ?_ ?_
            rotate_left
            · intro w
              go_simp
              try (with_reducible rfl)
            try simp only [Act.put, List.setIfInBounds_toArray, List.set_cons_zero, List.set_cons_succ]
            refine tl_p (i := 5) (v := ?_) rfl (by rfl) (by kernel_rfl) (by kernel_rfl) (by kernel_rfl) (fun _ _ _ h => h) (by rfl) hHeld ?_ ?_
            rotate_left
            · intro w
              go_simp
              try (with_reducible rfl)
            try simp only [Act.put, List.setIfInBounds_toArray, List.set_cons_zero, List.set_cons_succ]
            refine tl_p (i := 6) (v := ?_) rfl (by rfl) (by kernel_rfl) (by kernel_rfl) (by kernel_rfl) (fun _ _ _ h => h) (by rfl) hHeld ?_ ?_
            rotate_left
            · intro w
              go_simp
              try (with_reducible rfl)
            try simp only [Act.put, List.setIfInBounds_toArray, List.set_cons_zero, List.set_cons_succ]
            refine tl_w (i := 7) (v := ?_) rfl (by rfl) (by kernel_rfl) (by kernel_rfl) (by kernel_rfl) (by kernel_rfl) (by kernel_rfl) (fun _ _ _ h => h) (by rfl) hHeld ?_ ?_
            rotate_left
            · intro w hSw
              try dsimp only at hSw
              go_simp
              try (with_reducible rfl)
            try simp only [Act.put, List.setIfInBounds_toArray, List.set_cons_zero, List.set_cons_succ]
            refine tl_p (i := 8) (v := ?_) rfl (by rfl) (by kernel_rfl) (by kernel_rfl) (by kernel_rfl) (fun _ _ _ h => h) (by rfl) hHeld ?_ ?_
            rotate_left
            · intro w
              go_simp
              try (with_reducible rfl)
            try simp only [Act.put, List.setIfInBounds_toArray, List.set_cons_zero, List.set_cons_succ]
            refine tl_p (i := 9) (v := ?_) rfl (by rfl) (by kernel_rfl) (by kernel_rfl) (by kernel_rfl) (fun _ _ _ h => h) (by rfl) hHeld ?_ ?_
            rotate_left
            · intro w
              go_simp
              try (with_reducible rfl)
            try simp only [Act.put, List.setIfInBounds_toArray, List.set_cons_zero, List.set_cons_succ]
            refine tl_p (i := 10) (v := ?_) rfl (by rfl) (by kernel_rfl) (by kernel_rfl) (by kernel_rfl) (fun _ _ _ h => h) (by rfl) hHeld ?_ ?_
            rotate_left
            · intro w
              go_simp
              try (with_reducible rfl)
            try simp only [Act.put, List.setIfInBounds_toArray, List.set_cons_zero, List.set_cons_succ]
            refine tl_w (i := 11) (v := ?_) rfl (by rfl) (by kernel_rfl) (by kernel_rfl) (by kernel_rfl) (by kernel_rfl) (by kernel_rfl) (fun _ _ _ h => h) (by rfl) hHeld ?_ ?_
            rotate_left
            · intro w hSw
              try dsimp only at hSw
              go_simp
              try (with_reducible rfl)
            try simp only [Act.put, List.setIfInBounds_toArray, List.set_cons_zero, List.set_cons_succ]
            refine tl_p (i := 12) (v := ?_) rfl (by rfl) (by kernel_rfl) (by kernel_rfl) (by kernel_rfl) (fun _ _ _ h => h) (by rfl) hHeld ?_ ?_
            rotate_left
            · intro w
              go_simp
              try (with_reducible rfl)
            try simp only [Act.put, List.setIfInBounds_toArray, List.set_cons_zero, List.set_cons_succ]
            refine tl_p (i := 13) (v := ?_) rfl (by rfl) (by kernel_rfl) (by kernel_rfl) (by kernel_rfl) (fun _ _ _ h => h) (by rfl) hHeld ?_ ?_
            rotate_left
            · intro w
              go_simp
              try (with_reducible rfl)
            try simp only [Act.put, List.setIfInBounds_toArray, List.set_cons_zero, List.set_cons_succ]
            refine tl_p (i := 14) (v := ?_) rfl (by rfl) (by kernel_rfl) (by kernel_rfl) (by kernel_rfl) (fun _ _ _ h => h) (by rfl) hHeld ?_ ?_
            rotate_left
            · intro w
              go_simp
              try (with_reducible rfl)
            try simp only [Act.put, List.setIfInBounds_toArray, List.set_cons_zero, List.set_cons_succ]
            refine tl_w (i := 15) (v := ?_) rfl (by rfl) (by kernel_rfl) (by kernel_rfl) (by kernel_rfl) (by kernel_rfl) (by kernel_rfl) (fun _ _ _ h => h) (by rfl) hHeld ?_ ?_
            rotate_left
            · intro w hSw
              try dsimp only at hSw
              go_simp
              try (with_reducible rfl)
            try simp only [Act.put, List.setIfInBounds_toArray, List.set_cons_zero, List.set_cons_succ]
            refine tl_p (i := 16) (v := ?_) rfl (by rfl) (by kernel_rfl) (by kernel_rfl) (by kernel_rfl) (fun _ _ _ h => h) (by rfl) hHeld ?_ ?_
            rotate_left
            · intro w
              go_simp
              try (with_reducible rfl)
            try simp only [Act.put, List.setIfInBounds_toArray, List.set_cons_zero, List.set_cons_succ]
            refine tl_p (i := 17) (v := ?_) rfl (by rfl) (by kernel_rfl) (by kernel_rfl) (by kernel_rfl) (fun _ _ _ h => h) (by rfl) hHeld ?_ ?_
            rotate_left
            · intro w
              go_simp
              try (with_reducible rfl)
            try simp only [Act.put, List.setIfInBounds_toArray, List.set_cons_zero, List.set_cons_succ]
            refine tl_p (i := 18) (v := ?_) rfl (by rfl) (by kernel_rfl) (by kernel_rfl) (by kernel_rfl) (fun _ _ _ h => h) (by rfl) hHeld ?_ ?_
            rotate_left
            · intro w
              go_simp
              try (with_reducible rfl)
            try simp only [Act.put, List.setIfInBounds_toArray, List.set_cons_zero, List.set_cons_succ]
            refine tl_w (i := 19) (v := ?_) rfl (by rfl) (by kernel_rfl) (by kernel_rfl) (by kernel_rfl) (by kernel_rfl) (by kernel_rfl) (fun _ _ _ h => h) (by rfl) hHeld ?_ ?_
            rotate_left
            · intro w hSw
              try dsimp only at hSw
              go_simp
              try (with_reducible rfl)
            try simp only [Act.put, List.setIfInBounds_toArray, List.set_cons_zero, List.set_cons_succ]
            refine tl_p (i := 20) (v := ?_) rfl (by rfl) (by kernel_rfl) (by kernel_rfl) (by kernel_rfl) (fun _ _ _ h => h) (by rfl) hHeld ?_ ?_
            rotate_left
            · intro w
              go_simp
              try (with_reducible rfl)
            try simp only [Act.put, List.setIfInBounds_toArray, List.set_cons_zero, List.set_cons_succ]
            refine tl_late (by kernel_rfl) ?_
            refine any_do (i := 21) rfl (by kernel_rfl) (by rfl) (fun K hK => ?_)
            go_simp
            refine hK.out _ _ ?_
            clear hK K
            try simp only [Act.put, List.setIfInBounds_toArray, List.set_cons_zero, List.set_cons_succ]
            refine wpAny_done (by kernel_rfl) ?_ _
            go_wp2_with fail
            go_roundw
            case rel => exact ⟨k + 1, _, by omega, by go_num, st3.out, acc3.out⟩
            case measure => simp [intOf]; omega
        · have q2 : ¬ (k : Int) < (kp.length : Int) := by omega
          have e5 := settleX_skip (all := false) (kp := kp) (U := U) (S := S) (i := k) (by rw [List.getElem?_eq_none (by omega)]; simp)
          replace st := Lib.hid st
          replace acc := Lib.hid acc
          replace e5 := Lib.hid e5
          clear hdone hput dt0 p0 p1 hv1
          go_wp2_with fail
          go_roundw
          case rel => exact ⟨k + 1, hs', by omega, by go_num, by rw [e5.out]; exact st.out, acc.out⟩
          case measure => simp [intOf]; omega
    · have q1 : ¬ (k : Int) < (U.length : Int) := by omega
      obtain rfl : k = U.length := by omega
      rw [hS2.out] at st
      have f1 := st.box.frozen 1
      have hp := Lib.hid (RPost.close st.noUns (acc.setCell (p := ⟨p, 1, none⟩) (.inr hFp) (.slice none 0 0)))
      clear st acc
      go_wp2_with fail
      go_end0
      exact ⟨rfl, hp.out⟩
end Go.Proofs.Ytbfcaapompkjhaa
