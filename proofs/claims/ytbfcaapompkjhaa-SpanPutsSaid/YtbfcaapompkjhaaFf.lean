/-
  SpanKeeps: its walk.
-/
import Derived.Test.YtbfcaapompkjhaaFd
import Derived.Test.YtbfcaapompkjhaaMk
import Derived.Test.YtbfcaapompkjhaaOpenV
set_option linter.unusedVariables false
set_option linter.unusedSimpArgs false
namespace Go.Proofs.Ytbfcaapompkjhaa
open Go.RowKit Go.Proofs.PosteMem Go.Proofs.PosteOpen
attribute [local go_sem ↓] Go.wp_at_zero Go.wp_at_succ

theorem read_good2 {w W : World} {p : Nat} {D : Dk} {C : Nat → Prop} (h : Hd w W p D C) (hk : D.ok) (i : Int) {c : Int} (hr : D.read i = fillL 64 c) :
    Calls Try.prog 21 #[.pointer (some ⟨p, 0, none⟩), .int .i64 i] W fun e w' => ∃ A cap, e = .returned (.slice A 64 cap) ∧ VB w' (.slice A 64 cap) (fillL 64 c) ∧ Below W.heap.size W w' ∧ ∀ x, blockOf (.slice A 64 cap) = some x → W.heap.size ≤ x ∧ x < w'.heap.size :=
  (hd_read h hk i).mono fun e w' ⟨v, he, ho, hb⟩ => by
    rw [hr] at ho
    have hv := ho.view
    unfold OB at ho
    rw [fillL_len] at ho
    obtain ⟨g, cap, rfl, _⟩ := own_some ho (by decide)
    exact ⟨_, cap, he, hv, hb, fun x e => by injection e with e; subst e; exact own_lt ho rfl⟩
/-- i of the sectors are full. -/
structure SK (K i : Nat) (D : Dk) : Prop where
  free : Free D
  len : D.now.length = K
  full : ∀ j : Nat, j < i → D.read j = fillL 64 7
  written : D.written ≤ i
  uns : D.uns.length ≤ i
theorem sk_start (K : Nat) (h : K ≤ 4096) : SK K 0 (Dk.new K) := ⟨free_new K h, new_len K, fun j hj => by omega, by simp [Dk.new], by simp [Dk.new]⟩
theorem sk_write {K i : Nat} {D : Dk} (h : SK K i D) (hi : i < K) : (D.write i (fillL 64 7)).2 = true ∧ SK K (i + 1) (D.write i (fillL 64 7)).1 := by
  obtain ⟨h1, h2⟩ := free_write h.free (i := i) (bs := fillL 64 7) (by omega) (by rw [h.len]; omega) (fillL_len 64 7)
  have h3 := write_few D i (fillL 64 7)
  have h4 := h.written
  have h5 := h.uns
  refine ⟨h1, h2, by rw [write_len]; exact h.len, fun j hj => ?_, by omega, by omega⟩
  rw [read_write h1]
  by_cases e : (j : Int) = i
  · rw [if_pos e]
  · rw [if_neg e]
    exact h.full j (by omega)
set_option maxRecDepth 100000 in
set_option maxHeartbeats 16000000 in
theorem keeps_core (w : World) (a : Int) (Ab : Option Addr) (cb : Nat) (b : List Int) (hv : VB w (.slice Ab b.length cb) b) :
    Calls Try.prog 7 #[.int .i64 a, .slice Ab b.length cb] w fun e w' => e = .returned (.bool true) ∧ Below w.heap.size w w' := by
  obtain ⟨j0, hj0, hy0, hy1, hy2⟩ := info_parts infoByte
  have hba := Lib.hid hv
  clear hv
  by_cases hg : a < 1 ∨ 20 < a ∨ b.length < 1 ∨ 1000 < b.length
  · go_enter Try.func7, Try.ntmps7
    go_wp2_with fail
    refine (alive4 _).mono ?_; rintro e w1 ⟨rfl, hb1⟩
    replace hb1 := Lib.hid hb1
    go_wp2_with (exfalso; omega)
    all_goals
      first
        | (go_ret; exact ⟨rfl, hb1.out⟩)
        | (exfalso; omega)
  · obtain ⟨a, rfl⟩ : ∃ k : Nat, a = k := ⟨a.toNat, by omega⟩
    have g1 : (1 : Int) ≤ (a : Int) := by omega
    have g2 : (a : Int) ≤ 20 := by omega
    have g3 : (1 : Int) ≤ (b.length : Int) := by omega
    have g4 : (b.length : Int) ≤ 1000 := by omega
    clear hg
    have kN := Lib.hid (fun W => rneed_any W b.length (by omega))
    rw [needI_nat] at kN
    have hkb : need b.length ≤ 16 ∧ 1 ≤ need b.length := by unfold need; omega
    obtain ⟨hk16, hk1⟩ := hkb
    obtain ⟨k, hk⟩ : ∃ k, need b.length = k := ⟨_, rfl⟩
    rw [hk] at kN hk16 hk1
    replace hk := Lib.hid hk
    have qa : IntKind.i64.wrap ((a : Int) + k) = (a : Int) + k := IntWalk.i64_in _ (by omega)
    have qb : IntKind.i64.wrap ((a : Int) + k + 1) = (a : Int) + k + 1 := IntWalk.i64_in _ (by omega)
    go_enter Try.func7, Try.ntmps7
    go_wp2_with fail
    refine (alive4 _).mono ?_; rintro e w1 ⟨rfl, hb1⟩
    replace hb1 := Lib.hid hb1
    go_wp2_with fail
    refine (kN.out _).mono ?_; rintro e w2 ⟨rfl, hw1⟩
    have hw2 := hw1.symm
    subst hw2
    clear hw1
    go_wp2_with fail
    refine (hd_new hb1.out ((a : Int) + k + 1)).mono ?_; rintro e w2 ⟨rfl, h2, _⟩
    have hmany : many ((a : Int) + k + 1) = a + k + 1 := by unfold many; rw [if_neg (by omega), if_neg (by omega)]; omega
    rw [hmany] at h2
    have sk0 := sk_start (a + k + 1) (by omega)
    generalize Dk.new (a + k + 1) = D0 at *
    replace h2 := h2.mono (C' := fun _ => False) (fun _ t => t.elim)
    generalize w1.heap.size = p at *
    replace h2 := Lib.hid h2
    replace sk0 := Lib.hid sk0
    clear hb1 hmany
    go_upto_region 8 with (at_make; refine wpList_make_full _ rfl _ _ 27 rfl w2.heap.size 5 j0 (.int .u8 0) 1 Try.underlying27 hj0 hy0 hy1 .i64 .i64 _ _ 64 rfl rfl rfl rfl (by rw [hy2]; omega) (by unfold maxLen; omega) (Nat.le_refl _) ?_; intro w3 hown3 hg3; rw [made_bytes] at hown3)
    have h3 := h2.out.client ((Below.refl w2.heap.size w2).grown hg3 (Nat.le_refl _) (by intro k hk; cases hk))
    have hlt3 := own_lt hown3 rfl
    replace h3 := h3.mono (C' := fun b => b = w2.heap.size) (fun b e => .inr ⟨by omega, by rw [e]; exact hlt3.2⟩)
    have hgw := h2.out.acc.size
    generalize w2.heap.size = g at *
    replace h3 := Lib.hid h3
    replace hown3 := Lib.hid hown3
    clear hg3 hlt3 h2
    go_loopw [9] (fun q wr => ∃ m : Nat, m ≤ 64 ∧ q = .int .i64 m ∧ wr.ownsRow g 5 1 (.slice (some ⟨g, 0, none⟩) 64 64) 64 (List.replicate m (bv 7) ++ List.replicate (64 - m) (bv 0)) ∧ Hd w wr p D0 (fun b => b = g)) (fun q _ => 64 - (intOf q).toNat)
    case atStart => exact ⟨0, by omega, rfl, hown3.out, h3.out⟩
    clear hown3 h3
    case round =>
      obtain ⟨m, hm, rfl, ho, hd⟩ := hrel
      by_cases hlt : m < 64
      · have q1 : (m : Int) < 64 := by omega
        obtain ⟨u1, c1⟩ : ∃ u, wr.cell? ⟨g, m, none⟩ = some u := ⟨_, own_cell ho m (by omega)⟩
        have f1 := own_free ho m
        have ho2 := own_set ho m (by omega) (bv 7)
        rw [fill_next 64 m 7 hlt] at ho2
        have hd2 := hd.store (a := ⟨g, m, none⟩) rfl hgw (bv 7)
        unfold bv at ho2 hd2
        replace ho2 := Lib.hid ho2
        replace hd2 := Lib.hid hd2
        clear ho hd
        go_wp2_with fail
        go_roundw
        case rel => exact ⟨m + 1, by omega, by go_num, ho2.out, hd2.out⟩
        case measure => simp [intOf]; omega
      · have q1 : ¬ (m : Int) < 64 := by omega
        obtain rfl : m = 64 := by omega
        have hfv := (fill_end ho).view
        have hfo := ho
        replace hfv := Lib.hid hfv
        replace hd := Lib.hid hd
        clear ho hfo
        go_upto_region 12 with fail
        go_loopw [10] (fun q wr => ∃ (i : Nat) (D : Dk), i ≤ a + k + 1 ∧ q = .int .i64 i ∧ SK (a + k + 1) i D ∧ VB wr (.slice (some ⟨g, 0, none⟩) 64 64) (fillL 64 7) ∧ Hd w wr p D (fun b => b = g)) (fun q _ => a + k + 1 - (intOf q).toNat)
        case atStart => exact ⟨0, D0, by omega, rfl, sk0.out, hfv.out, hd.out⟩
        clear hfv hd sk0
        case round =>
          obtain ⟨i, D, hi, rfl, sk, hfv, hd⟩ := hrel
          by_cases hlt2 : i < a + k + 1
          · have q2 : (i : Int) < (a : Int) + k + 1 := by omega
            have hw1 := sk.written
            have hu1 := sk.uns
            have kW := hd_write hd sk.free.ok (i : Int) hfv (fun x e => by injection e with e; exact e.symm) (by omega) (by omega)
            obtain ⟨y1, y2⟩ := sk_write sk hlt2
            rw [y1] at kW
            generalize (D.write (i : Int) (fillL 64 7)).1 = D' at *
            replace kW := Lib.hid kW
            replace y2 := Lib.hid y2
            replace hfv := Lib.hid hfv
            clear sk hd y1
            go_wp2_with fail
            refine kW.out.mono ?_; rintro e w5 ⟨rfl, h5, k5⟩
            have hfv5 := Lib.hid (k5.view hfv.out (fun x e => by injection e with e; exact e.symm))
            replace h5 := Lib.hid h5
            clear k5 kW hfv
            go_wp2_with fail
            go_roundw
            case rel => exact ⟨i + 1, D', by omega, by go_num, y2.out, hfv5.out, h5.out⟩
            case measure => simp [intOf]; omega
          · have q2 : ¬ (i : Int) < (a : Int) + k + 1 := by omega
            obtain rfl : i = a + k + 1 := by omega
            have hkk := hk.out
            have hw1 := sk.written
            have hu1 := sk.uns
            obtain ⟨f1, f2, f3⟩ := free_put sk.free (at' := (a : Int)) (b := b) (by omega) (by rw [sk.len, hkk]; omega)
            have fg := put_get (D := D) (at' := (a : Int)) (b := b) (by omega) (by omega) f1
            have fr1 : (D.put (a : Int) b).1.read ((a : Int) - 1) = fillL 64 7 := by
              rw [put_read f1 (by omega)]
              have := sk.full (a - 1) (by omega)
              rwa [show (((a - 1 : Nat)) : Int) = (a : Int) - 1 by omega] at this
            have fr2 : (D.put (a : Int) b).1.read ((a : Int) + k) = fillL 64 7 := by
              rw [put_read f1 (by omega)]
              have := sk.full (a + k) (by omega)
              rwa [show (((a + k : Nat)) : Int) = (a : Int) + k by omega] at this
            have hfew := put_few sk.free.ok (a : Int) b
            have hbv := View.below hba.out hd.acc
            have hbv2 : VB wr.drew (.slice Ab b.length cb) b := View.drew hbv
            have kP := Lib.hid (hd_put hd.drew sk.free.ok (a : Int) hbv2 (by omega) (by omega) (by omega))
            rw [f1] at kP
            have fz : ((D.put (a : Int) b).1.put ((a : Int) + 2) (List.replicate (64 * k) 0)) = ((D.put (a : Int) b).1, false) := by
              generalize (D.put (a : Int) b).1 = D1 at *
              unfold Dk.put
              rw [if_neg (by rw [List.length_replicate]; omega), if_neg]
              unfold isB
              rw [decide_eq_true_eq, f3, sk.len, List.length_replicate]
              have : need (64 * k) = k := by unfold need; omega
              omega
            rw [hkk] at hfew
            generalize (D.put (a : Int) b).1 = D1 at *
            have kG := Lib.hid (fun W (C : Nat → Prop) (hW : Hd w W p D1 C) => hd_get hW f2.ok (a : Int) (b.length : Int))
            rw [fg] at kG
            have kR1 := Lib.hid (fun W (C : Nat → Prop) (hW : Hd w W p D1 C) => read_good2 hW f2.ok ((a : Int) - 1) fr1)
            have kR2 := Lib.hid (fun W (C : Nat → Prop) (hW : Hd w W p D1 C) => read_good2 hW f2.ok ((a : Int) + k) fr2)
            have kP2 := Lib.hid (fun W (C : Nat → Prop) v (hW : Hd w W p D1 C) (hv : VB W v (List.replicate (64 * k) 0)) => hd_put hW f2.ok ((a : Int) + 2) hv (by rw [List.length_replicate]; omega) (by omega) (by omega))
            rw [fz] at kP2
            have hgC : ∀ x, blockOf (.slice (some ⟨g, 0, none⟩) 64 64) = some x → x = g := fun x e => by injection e with e; exact e.symm
            have q5 : IntKind.i64.wrap ((a : Int) - 1) = (a : Int) - 1 := IntWalk.i64_in _ (by omega)
            have q6 : IntKind.i64.wrap ((a : Int) + 2) = (a : Int) + 2 := IntWalk.i64_in _ (by omega)
            have q7 : IntKind.i64.wrap (64 * (k : Int)) = ((64 * k : Nat) : Int) := by rw [IntWalk.i64_in _ (by omega)]; omega
            replace hbv := Lib.hid hbv
            replace hfv := Lib.hid hfv
            clear sk hd hbv2 f1 f2 f3 fg fr1 fr2 fz hw1 hu1 hfew
            go_wp2_with fail
            refine tl_begin (fun (w' : World) => VB w' (.slice Ab b.length cb) b ∧ VB w' (.slice (some ⟨g, 0, none⟩) 64 64) (fillL 64 7)) [] (by kernel_rfl) (⟨View.drew hbv.out, View.drew hfv.out⟩) (fun hHeld => ?_)
            refine tl_p (i := 0) (v := ?_) rfl (by rfl) (by kernel_rfl) (by kernel_rfl) (by kernel_rfl) (fun _ _ _ h => h) (by rfl) hHeld ?_ ?_
            rotate_left
            · intro w
              go_simp
              try (with_reducible rfl)
            try simp only [Act.put, List.setIfInBounds_toArray, List.set_cons_zero, List.set_cons_succ]
            refine tl_p (i := 1) (v := ?_) rfl (by rfl) (by kernel_rfl) (by kernel_rfl) (by kernel_rfl) (fun _ _ _ h => h) (by rfl) hHeld ?_ ?_
            rotate_left
            · intro w
              go_simp
              try (with_reducible rfl)
            try simp only [Act.put, List.setIfInBounds_toArray, List.set_cons_zero, List.set_cons_succ]
            refine tl_p (i := 2) (v := ?_) rfl (by rfl) (by kernel_rfl) (by kernel_rfl) (by kernel_rfl) (fun _ _ _ h => h) (by rfl) hHeld ?_ ?_
            rotate_left
            · intro w
              go_simp
              try (with_reducible rfl)
            try simp only [Act.put, List.setIfInBounds_toArray, List.set_cons_zero, List.set_cons_succ]
            refine tl_do (i := 3) rfl (by kernel_rfl) (by rfl) (fun K hK => ?_)
            go_simp
            go_at_call 34
            refine kP.out.mono ?_; rintro e w5 ⟨rfl, h5, k5⟩
            have hb5 := View.below hba.out h5.acc
            have hf5 := k5.view (View.drew hfv.out) hgC
            try go_wp2_with fail
            refine hK.out _ _ (⟨hb5, hf5⟩) (fun hHeld1 => ?_)
            clear hK K hHeld
            have hHeld := hHeld1
            clear hHeld1
            try simp only [Act.put, List.setIfInBounds_toArray, List.set_cons_zero, List.set_cons_succ]
            refine tl_p (i := 4) (v := ?_) rfl (by rfl) (by kernel_rfl) (by kernel_rfl) (by kernel_rfl) (fun _ _ _ h => h) (by rfl) hHeld ?_ ?_
            rotate_left
            · intro w
              go_simp
              try (with_reducible rfl)
            try simp only [Act.put, List.setIfInBounds_toArray, List.set_cons_zero, List.set_cons_succ]
            refine tl_p (i := 5) (v := ?_) rfl (by rfl) (by kernel_rfl) (by kernel_rfl) (by kernel_rfl) (fun _ _ _ h => h) (by rfl) hHeld ?_ ?_
            rotate_left
            · intro w
              go_simp
              try (with_reducible rfl)
            try simp only [Act.put, List.setIfInBounds_toArray, List.set_cons_zero, List.set_cons_succ]
            refine tl_p (i := 6) (v := ?_) rfl (by rfl) (by kernel_rfl) (by kernel_rfl) (by kernel_rfl) (fun _ _ _ h => h) (by rfl) hHeld ?_ ?_
            rotate_left
            · intro w
              go_simp
              try (with_reducible rfl)
            try simp only [Act.put, List.setIfInBounds_toArray, List.set_cons_zero, List.set_cons_succ]
            refine tl_p (i := 7) (v := ?_) rfl (by rfl) (by kernel_rfl) (by kernel_rfl) (by kernel_rfl) (fun _ _ _ h => h) (by rfl) hHeld ?_ ?_
            rotate_left
            · intro w
              go_simp
              try (with_reducible rfl)
            try simp only [Act.put, List.setIfInBounds_toArray, List.set_cons_zero, List.set_cons_succ]
            refine tl_p (i := 8) (v := ?_) rfl (by rfl) (by kernel_rfl) (by kernel_rfl) (by kernel_rfl) (fun _ _ _ h => h) (by rfl) hHeld ?_ ?_
            rotate_left
            · intro w
              go_simp
              try (with_reducible rfl)
            try simp only [Act.put, List.setIfInBounds_toArray, List.set_cons_zero, List.set_cons_succ]
            refine tl_p (i := 11) (v := ?_) rfl (by rfl) (by kernel_rfl) (by kernel_rfl) (by kernel_rfl) (fun _ _ _ h => h) (by rfl) hHeld ?_ ?_
            rotate_left
            · intro w
              go_simp
              try (with_reducible rfl)
            try simp only [Act.put, List.setIfInBounds_toArray, List.set_cons_zero, List.set_cons_succ]
            refine tl_w (i := 12) (v := ?_) rfl (by rfl) (by kernel_rfl) (by kernel_rfl) (by kernel_rfl) (by kernel_rfl) (by kernel_rfl) (fun _ _ _ h => h) (by rfl) hHeld ?_ ?_
            rotate_left
            · intro w hSw
              have hc := conv_any w (.slice Ab b.length cb) b (by first | exact hSw.1 | exact hSw.1.1 | exact hSw.1.1.1)
              clear hSw
              go_simp
              try (with_reducible rfl)
            try simp only [Act.put, List.setIfInBounds_toArray, List.set_cons_zero, List.set_cons_succ]
            refine tl_do (i := 9) rfl (by kernel_rfl) (by rfl) (fun K hK => ?_)
            go_simp
            go_at_call 35
            refine (kG.out _ _ h5).mono ?_; rintro e w6 ⟨v6, rfl, hv6, hb6, hx6⟩
            obtain ⟨A6, c6, rfl, _⟩ := hv6.cells
            have h6 := h5.client hb6
            have hb6b := View.below hb5 hb6
            have hf6 := View.below hf5 hb6
            try go_wp2_with fail
            refine hK.out _ _ (⟨hb6b, hf6⟩) (fun hHeld1 => ?_)
            clear hK K hHeld
            have hHeld := hHeld1
            clear hHeld1
            try simp only [Act.put, List.setIfInBounds_toArray, List.set_cons_zero, List.set_cons_succ]
            refine till_more (fun w' => VB w' (.slice A6 b.length c6) b) ?_
            replace hHeld := And.intro hHeld hv6
            refine tl_w (i := 10) (v := ?_) rfl (by rfl) (by kernel_rfl) (by kernel_rfl) (by kernel_rfl) (by kernel_rfl) (by kernel_rfl) (fun _ _ _ h => h) (by rfl) hHeld ?_ ?_
            rotate_left
            · intro w hSw
              have hc := conv_any w _ _ hSw.2
              clear hSw
              go_simp
              try (with_reducible rfl)
            try simp only [Act.put, List.setIfInBounds_toArray, List.set_cons_zero, List.set_cons_succ]
            refine tl_p (i := 13) (v := ?_) rfl (by rfl) (by kernel_rfl) (by kernel_rfl) (by kernel_rfl) (fun _ _ _ h => h) (by rfl) hHeld ?_ ?_
            rotate_left
            · intro w
              go_simp
              try (with_reducible rfl)
            try simp only [Act.put, List.setIfInBounds_toArray, List.set_cons_zero, List.set_cons_succ]
            refine tl_p (i := 14) (v := ?_) rfl (by rfl) (by kernel_rfl) (by kernel_rfl) (by kernel_rfl) (fun _ _ _ h => h) (by rfl) hHeld ?_ ?_
            rotate_left
            · intro w
              go_simp
              try (with_reducible rfl)
            try simp only [Act.put, List.setIfInBounds_toArray, List.set_cons_zero, List.set_cons_succ]
            refine tl_p (i := 15) (v := ?_) rfl (by rfl) (by kernel_rfl) (by kernel_rfl) (by kernel_rfl) (fun _ _ _ h => h) (by rfl) hHeld ?_ ?_
            rotate_left
            · intro w
              go_simp
              try (with_reducible rfl)
            try simp only [Act.put, List.setIfInBounds_toArray, List.set_cons_zero, List.set_cons_succ]
            refine tl_p (i := 16) (v := ?_) rfl (by rfl) (by kernel_rfl) (by kernel_rfl) (by kernel_rfl) (fun _ _ _ h => h) (by rfl) hHeld ?_ ?_
            rotate_left
            · intro w
              go_simp
              try (with_reducible rfl)
            try simp only [Act.put, List.setIfInBounds_toArray, List.set_cons_zero, List.set_cons_succ]
            refine tl_p (i := 17) (v := ?_) rfl (by rfl) (by kernel_rfl) (by kernel_rfl) (by kernel_rfl) (fun _ _ _ h => h) (by rfl) hHeld ?_ ?_
            rotate_left
            · intro w
              go_simp
              try (with_reducible rfl)
            try simp only [Act.put, List.setIfInBounds_toArray, List.set_cons_zero, List.set_cons_succ]
            refine tl_p (i := 18) (v := ?_) rfl (by rfl) (by kernel_rfl) (by kernel_rfl) (by kernel_rfl) (fun _ _ _ h => h) (by rfl) hHeld ?_ ?_
            rotate_left
            · intro w
              go_simp
              try (with_reducible rfl)
            try simp only [Act.put, List.setIfInBounds_toArray, List.set_cons_zero, List.set_cons_succ]
            refine tl_p (i := 21) (v := ?_) rfl (by rfl) (by kernel_rfl) (by kernel_rfl) (by kernel_rfl) (fun _ _ _ h => h) (by rfl) hHeld ?_ ?_
            rotate_left
            · intro w
              go_simp
              try (with_reducible rfl)
            try simp only [Act.put, List.setIfInBounds_toArray, List.set_cons_zero, List.set_cons_succ]
            refine tl_w (i := 22) (v := ?_) rfl (by rfl) (by kernel_rfl) (by kernel_rfl) (by kernel_rfl) (by kernel_rfl) (by kernel_rfl) (fun _ _ _ h => h) (by rfl) hHeld ?_ ?_
            rotate_left
            · intro w hSw
              have hc := conv_any w (.slice (some ⟨g, 0, none⟩) 64 64) (fillL 64 7) (by first | exact hSw.2 | exact hSw.1.2 | exact hSw.1.1.2 | exact hSw.1.1.1.2)
              clear hSw
              go_simp
              try (with_reducible rfl)
            try simp only [Act.put, List.setIfInBounds_toArray, List.set_cons_zero, List.set_cons_succ]
            refine tl_do (i := 19) rfl (by kernel_rfl) (by rfl) (fun K hK => ?_)
            go_simp
            go_at_call 21
            refine (kR1.out _ _ h6).mono ?_; rintro e w7 ⟨A7, c7, rfl, hv7, hb7, hx7⟩
            have h7 := h6.client hb7
            have hb7b := View.below hb6b hb7
            have hf7 := View.below hf6 hb7
            have hv67 := View.below hv6 hb7
            try go_wp2_with fail
            refine hK.out _ _ (⟨⟨hb7b, hf7⟩, hv67⟩) (fun hHeld1 => ?_)
            clear hK K hHeld
            have hHeld := hHeld1
            clear hHeld1
            try simp only [Act.put, List.setIfInBounds_toArray, List.set_cons_zero, List.set_cons_succ]
            refine till_more (fun w' => VB w' (.slice A7 64 c7) (fillL 64 7)) ?_
            replace hHeld := And.intro hHeld hv7
            refine tl_w (i := 20) (v := ?_) rfl (by rfl) (by kernel_rfl) (by kernel_rfl) (by kernel_rfl) (by kernel_rfl) (by kernel_rfl) (fun _ _ _ h => h) (by rfl) hHeld ?_ ?_
            rotate_left
            · intro w hSw
              have hc := conv_any w _ _ hSw.2
              clear hSw
              go_simp
              try (with_reducible rfl)
            try simp only [Act.put, List.setIfInBounds_toArray, List.set_cons_zero, List.set_cons_succ]
            refine tl_p (i := 23) (v := ?_) rfl (by rfl) (by kernel_rfl) (by kernel_rfl) (by kernel_rfl) (fun _ _ _ h => h) (by rfl) hHeld ?_ ?_
            rotate_left
            · intro w
              go_simp
              try (with_reducible rfl)
            try simp only [Act.put, List.setIfInBounds_toArray, List.set_cons_zero, List.set_cons_succ]
            refine tl_p (i := 24) (v := ?_) rfl (by rfl) (by kernel_rfl) (by kernel_rfl) (by kernel_rfl) (fun _ _ _ h => h) (by rfl) hHeld ?_ ?_
            rotate_left
            · intro w
              go_simp
              try (with_reducible rfl)
            try simp only [Act.put, List.setIfInBounds_toArray, List.set_cons_zero, List.set_cons_succ]
            refine tl_p (i := 25) (v := ?_) rfl (by rfl) (by kernel_rfl) (by kernel_rfl) (by kernel_rfl) (fun _ _ _ h => h) (by rfl) hHeld ?_ ?_
            rotate_left
            · intro w
              go_simp
              try (with_reducible rfl)
            try simp only [Act.put, List.setIfInBounds_toArray, List.set_cons_zero, List.set_cons_succ]
            refine tl_p (i := 26) (v := ?_) rfl (by rfl) (by kernel_rfl) (by kernel_rfl) (by kernel_rfl) (fun _ _ _ h => h) (by rfl) hHeld ?_ ?_
            rotate_left
            · intro w
              go_simp
              try (with_reducible rfl)
            try simp only [Act.put, List.setIfInBounds_toArray, List.set_cons_zero, List.set_cons_succ]
            refine tl_p (i := 27) (v := ?_) rfl (by rfl) (by kernel_rfl) (by kernel_rfl) (by kernel_rfl) (fun _ _ _ h => h) (by rfl) hHeld ?_ ?_
            rotate_left
            · intro w
              go_simp
              try (with_reducible rfl)
            try simp only [Act.put, List.setIfInBounds_toArray, List.set_cons_zero, List.set_cons_succ]
            refine tl_p (i := 28) (v := ?_) rfl (by rfl) (by kernel_rfl) (by kernel_rfl) (by kernel_rfl) (fun _ _ _ h => h) (by rfl) hHeld ?_ ?_
            rotate_left
            · intro w
              go_simp
              try (with_reducible rfl)
            try simp only [Act.put, List.setIfInBounds_toArray, List.set_cons_zero, List.set_cons_succ]
            refine tl_p (i := 29) (v := ?_) rfl (by rfl) (by kernel_rfl) (by kernel_rfl) (by kernel_rfl) (fun _ _ _ h => h) (by rfl) hHeld ?_ ?_
            rotate_left
            · intro w
              go_simp
              try (with_reducible rfl)
            try simp only [Act.put, List.setIfInBounds_toArray, List.set_cons_zero, List.set_cons_succ]
            refine tl_p (i := 32) (v := ?_) rfl (by rfl) (by kernel_rfl) (by kernel_rfl) (by kernel_rfl) (fun _ _ _ h => h) (by rfl) hHeld ?_ ?_
            rotate_left
            · intro w
              go_simp
              try (with_reducible rfl)
            try simp only [Act.put, List.setIfInBounds_toArray, List.set_cons_zero, List.set_cons_succ]
            refine tl_w (i := 33) (v := ?_) rfl (by rfl) (by kernel_rfl) (by kernel_rfl) (by kernel_rfl) (by kernel_rfl) (by kernel_rfl) (fun _ _ _ h => h) (by rfl) hHeld ?_ ?_
            rotate_left
            · intro w hSw
              have hc := conv_any w (.slice (some ⟨g, 0, none⟩) 64 64) (fillL 64 7) (by first | exact hSw.2 | exact hSw.1.2 | exact hSw.1.1.2 | exact hSw.1.1.1.2)
              clear hSw
              go_simp
              try (with_reducible rfl)
            try simp only [Act.put, List.setIfInBounds_toArray, List.set_cons_zero, List.set_cons_succ]
            refine tl_do (i := 30) rfl (by kernel_rfl) (by rfl) (fun K hK => ?_)
            go_simp
            go_at_call 21
            refine (kR2.out _ _ h7).mono ?_; rintro e w8 ⟨A8, c8, rfl, hv8, hb8, hx8⟩
            have h8 := h7.client hb8
            have hb8b := View.below hb7b hb8
            have hf8 := View.below hf7 hb8
            have hv68 := View.below hv67 hb8
            have hv78 := View.below hv7 hb8
            try go_wp2_with fail
            refine hK.out _ _ (⟨⟨⟨hb8b, hf8⟩, hv68⟩, hv78⟩) (fun hHeld1 => ?_)
            clear hK K hHeld
            have hHeld := hHeld1
            clear hHeld1
            try simp only [Act.put, List.setIfInBounds_toArray, List.set_cons_zero, List.set_cons_succ]
            refine till_more (fun w' => VB w' (.slice A8 64 c8) (fillL 64 7)) ?_
            replace hHeld := And.intro hHeld hv8
            refine tl_w (i := 31) (v := ?_) rfl (by rfl) (by kernel_rfl) (by kernel_rfl) (by kernel_rfl) (by kernel_rfl) (by kernel_rfl) (fun _ _ _ h => h) (by rfl) hHeld ?_ ?_
            rotate_left
            · intro w hSw
              have hc := conv_any w _ _ hSw.2
              clear hSw
              go_simp
              try (with_reducible rfl)
            try simp only [Act.put, List.setIfInBounds_toArray, List.set_cons_zero, List.set_cons_succ]
            refine tl_p (i := 34) (v := ?_) rfl (by rfl) (by kernel_rfl) (by kernel_rfl) (by kernel_rfl) (fun _ _ _ h => h) (by rfl) hHeld ?_ ?_
            rotate_left
            · intro w
              go_simp
              try (with_reducible rfl)
            try simp only [Act.put, List.setIfInBounds_toArray, List.set_cons_zero, List.set_cons_succ]
            refine tl_p (i := 35) (v := ?_) rfl (by rfl) (by kernel_rfl) (by kernel_rfl) (by kernel_rfl) (fun _ _ _ h => h) (by rfl) hHeld ?_ ?_
            rotate_left
            · intro w
              go_simp
              try (with_reducible rfl)
            try simp only [Act.put, List.setIfInBounds_toArray, List.set_cons_zero, List.set_cons_succ]
            refine tl_p (i := 36) (v := ?_) rfl (by rfl) (by kernel_rfl) (by kernel_rfl) (by kernel_rfl) (fun _ _ _ h => h) (by rfl) hHeld ?_ ?_
            rotate_left
            · intro w
              go_simp
              try (with_reducible rfl)
            try simp only [Act.put, List.setIfInBounds_toArray, List.set_cons_zero, List.set_cons_succ]
            refine tl_p (i := 37) (v := ?_) rfl (by rfl) (by kernel_rfl) (by kernel_rfl) (by kernel_rfl) (fun _ _ _ h => h) (by rfl) hHeld ?_ ?_
            rotate_left
            · intro w
              go_simp
              try (with_reducible rfl)
            try simp only [Act.put, List.setIfInBounds_toArray, List.set_cons_zero, List.set_cons_succ]
            refine tl_p (i := 38) (v := ?_) rfl (by rfl) (by kernel_rfl) (by kernel_rfl) (by kernel_rfl) (fun _ _ _ h => h) (by rfl) hHeld ?_ ?_
            rotate_left
            · intro w
              go_simp
              try (with_reducible rfl)
            try simp only [Act.put, List.setIfInBounds_toArray, List.set_cons_zero, List.set_cons_succ]
            refine tl_p (i := 39) (v := ?_) rfl (by rfl) (by kernel_rfl) (by kernel_rfl) (by kernel_rfl) (fun _ _ _ h => h) (by rfl) hHeld ?_ ?_
            rotate_left
            · intro w
              go_simp
              try (with_reducible rfl)
            try simp only [Act.put, List.setIfInBounds_toArray, List.set_cons_zero, List.set_cons_succ]
            refine tl_p (i := 40) (v := ?_) rfl (by rfl) (by kernel_rfl) (by kernel_rfl) (by kernel_rfl) (fun _ _ _ h => h) (by rfl) hHeld ?_ ?_
            rotate_left
            · intro w
              go_simp
              try (with_reducible rfl)
            try simp only [Act.put, List.setIfInBounds_toArray, List.set_cons_zero, List.set_cons_succ]
            refine tl_p (i := 41) (v := ?_) rfl (by rfl) (by kernel_rfl) (by kernel_rfl) (by kernel_rfl) (fun _ _ _ h => h) (by rfl) hHeld ?_ ?_
            rotate_left
            · intro w
              go_simp
              try (with_reducible rfl)
            try simp only [Act.put, List.setIfInBounds_toArray, List.set_cons_zero, List.set_cons_succ]
            refine tl_do (i := 42) rfl (by kernel_rfl) (by rfl) (fun K hK => ?_)
            refine wp_make_full _ _ _ 27 rfl 0 5 j0 (.int .u8 0) 1 Try.underlying27 hj0 hy0 hy1 .i64 .i64 _ _ (64 * k) rfl rfl (by first | rfl | omega) (by first | rfl | omega) (by rw [hy2]; omega) (by unfold maxLen; omega) (Nat.zero_le _) ?_
            intro w9 hown9 hg9
            rw [made_bytes] at hown9
            have hb9 : Below w8.heap.size w8 w9 := (Below.refl w8.heap.size w8).grown hg9 (Nat.le_refl _) (by intro k hk; cases hk)
            have h9 := h8.client hb9
            have hb9b := View.below hb8b hb9
            have hf9 := View.below hf8 hb9
            have hv69 := View.below hv68 hb9
            have hv79 := View.below hv78 hb9
            have hv89 := View.below hv8 hb9
            have hvz : VB w9 (.slice (some ⟨w8.heap.size, 0, none⟩) (64 * k) (64 * k)) (List.replicate (64 * k) 0) := by unfold VB; rw [List.length_replicate, List.map_replicate]; exact View.of_own hown9
            refine hK.out _ _ (⟨⟨⟨⟨hb9b, hf9⟩, hv69⟩, hv79⟩, hv89⟩) (fun hHeld1 => ?_)
            clear hK K hHeld
            have hHeld := hHeld1
            clear hHeld1
            try simp only [Act.put, List.setIfInBounds_toArray, List.set_cons_zero, List.set_cons_succ]
            refine tl_do (i := 43) rfl (by kernel_rfl) (by rfl) (fun K hK => ?_)
            go_simp
            go_at_call 34
            refine (kP2.out _ _ _ h9 hvz).mono ?_; rintro e w10 ⟨rfl, h10, k10⟩
            have hacc10 := Lib.hid h10.acc
            try go_wp2_with fail
            refine hK.out _ _ (⟨⟨⟨⟨View.below hba.out h10.acc, k10.view hf9 (fun x e => .inl (.inl (.inl (.inl (hgC x e)))))⟩, k10.view hv69 (fun x e => .inl (.inl (.inl (.inr (hx6 x e)))))⟩, k10.view hv79 (fun x e => .inl (.inl (.inr (hx7 x e))))⟩, k10.view hv89 (fun x e => .inl (.inr (hx8 x e)))⟩) (fun hHeld1 => ?_)
            clear hK K hHeld
            have hHeld := hHeld1
            clear hHeld1
            try simp only [Act.put, List.setIfInBounds_toArray, List.set_cons_zero, List.set_cons_succ]
            refine tl_p (i := 44) (v := ?_) rfl (by rfl) (by kernel_rfl) (by kernel_rfl) (by kernel_rfl) (fun _ _ _ h => h) (by rfl) hHeld ?_ ?_
            rotate_left
            · intro w
              go_simp
              try (with_reducible rfl)
            try simp only [Act.put, List.setIfInBounds_toArray, List.set_cons_zero, List.set_cons_succ]
            refine tl_p (i := 45) (v := ?_) rfl (by rfl) (by kernel_rfl) (by kernel_rfl) (by kernel_rfl) (fun _ _ _ h => h) (by rfl) hHeld ?_ ?_
            rotate_left
            · intro w
              go_simp
              try (with_reducible rfl)
            try simp only [Act.put, List.setIfInBounds_toArray, List.set_cons_zero, List.set_cons_succ]
            refine tl_p (i := 46) (v := ?_) rfl (by rfl) (by kernel_rfl) (by kernel_rfl) (by kernel_rfl) (fun _ _ _ h => h) (by rfl) hHeld ?_ ?_
            rotate_left
            · intro w
              go_simp
              try (with_reducible rfl)
            try simp only [Act.put, List.setIfInBounds_toArray, List.set_cons_zero, List.set_cons_succ]
            refine till_done (by kernel_rfl) ?_ _
            clear hHeld
            go_wp2_with fail
            go_ret
            exact ⟨rfl, hacc10.out⟩

theorem bytes_of_rd {W : World} {A : Option Addr} {n c : Nat} {l : List Int} (z : Rd Try.prog W (.sl 5 (.int .u8)) [.slice A n c] l) : n = l.length ∧ VB W (.slice A l.length c) l := by
  have hv := rd_view_flat rfl z
  obtain ⟨A', c', e, _, _⟩ := View.cells hv
  injection e with e1 e2 e3
  subst e1 e2 e3
  have he : ∀ l : List Int, l.flatMap (Kd.enc (.int .u8)) = l.map bv := fun l => by
    induction l with
    | nil => rfl
    | cons a l ih => rw [List.flatMap_cons, ih]; rfl
  rw [he l] at hv
  exact ⟨rfl, hv⟩
theorem spanKeeps_walk (W : World) (a : Int) (_ : (Lit.int .i64 a).wf = true) (A : Option Addr) (n c : Nat) (l : (Kd.sl 5 (.int .u8)).T) (z : Rd Try.prog W (.sl 5 (.int .u8)) [.slice A n c] l) :
    Calls Try.prog 7 #[.int .i64 a, .slice A n c] W fun e w' => e = .returned (.bool true) ∧ Below W.heap.size W w' := by
  obtain ⟨rfl, h⟩ := bytes_of_rd z
  exact keeps_core W a A c l h
end Go.Proofs.Ytbfcaapompkjhaa
