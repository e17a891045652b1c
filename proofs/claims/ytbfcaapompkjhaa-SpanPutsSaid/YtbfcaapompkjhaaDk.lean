/-
  SectorsSure: its walk.
-/
import Derived.Test.YtbfcaapompkjhaaDj
import Derived.Test.YtbfcaapompkjhaaOpenV
set_option linter.unusedVariables false
set_option linter.unusedSimpArgs false
namespace Go.Proofs.Ytbfcaapompkjhaa
open Go.RowKit Go.Proofs.PosteMem Go.Proofs.PosteOpen
attribute [local go_sem ↓] Go.wp_at_zero Go.wp_at_succ

/-- Integers that are read. -/
def VI (w : World) (v : Value) (l : List Int) : Prop := View w 1 v l.length (l.map (.int .i64))
theorem vi_at {w : World} {A : Option Addr} {cap : Nat} {l : List Int} (h : VI w (.slice A l.length cap) l) (hn : 0 < l.length) : ∃ b o, A = some ⟨b, o, none⟩ ∧ b < w.heap.size ∧ ∀ i (hi : i < l.length), w.cell? ⟨b, o + i, none⟩ = some (.int .i64 l[i]) := by
  obtain ⟨b, o, c, e, _, _, hb, f⟩ := View.at_ h (by omega)
  injection e with e
  exact ⟨b, o, e, hb, fun i hi => f i _ (by simp [List.getElem?_eq_getElem hi])⟩

theorem read_good {w W : World} {p : Nat} {D : Dk} {C : Nat → Prop} (h : Hd w W p D C) (hk : D.ok) (i : Nat) {c : Int} (hr : D.read i = fillL 64 c) :
    Calls Try.prog 21 #[.pointer (some ⟨p, 0, none⟩), .int .i64 i] W fun e w' => ∃ A cap, e = .returned (.slice A 64 cap) ∧ VB w' (.slice A 64 cap) (fillL 64 c) ∧ Below W.heap.size W w' :=
  (hd_read h hk i).mono fun e w' ⟨v, he, ho, hb⟩ => by
    rw [hr] at ho
    have hv := ho.view
    unfold OB at ho
    rw [fillL_len] at ho
    obtain ⟨A, cap, rfl, _⟩ := own_shape ho
    exact ⟨A, cap, he, hv, hb⟩
set_option maxRecDepth 100000 in
set_option maxHeartbeats 8000000 in
theorem sure_core (w : World) (Aa Ab Ak : Option Addr) (ca cb ck : Nat) (la lb : List Int) (kp : List Bool) (ha : VI w (.slice Aa la.length ca) la) (hb : VI w (.slice Ab lb.length cb) lb) (hk : VBool w (.slice Ak kp.length ck) kp) :
    Calls Try.prog 3 #[.slice Aa la.length ca, .slice Ab lb.length cb, .slice Ak kp.length ck] w fun e w' => e = .returned (.bool true) ∧ Below w.heap.size w w' := by
  obtain ⟨j0, hj0, hy0, hy1, hy2⟩ := info_parts infoByte
  replace ha := Lib.hid ha
  replace hb := Lib.hid hb
  replace hk := Lib.hid hk
  by_cases hg : 30 < la.length ∨ 30 < lb.length ∨ 40 < kp.length
  · go_enter Try.func3, Try.ntmps3
    go_wp2_with fail
    refine (alive_any _).mono ?_; rintro e w1 ⟨rfl, hb1⟩
    replace hb1 := Lib.hid hb1
    go_wp2_with (at_make; exfalso; omega)
    all_goals
      first
        | (go_ret; exact ⟨rfl, hb1.out⟩)
        | (exfalso; omega)
  · have g1 : (la.length : Int) ≤ 30 := by omega
    have g2 : (lb.length : Int) ≤ 30 := by omega
    have g3 : (kp.length : Int) ≤ 40 := by omega
    clear hg
    go_enter Try.func3, Try.ntmps3
    go_wp2_with fail
    refine (alive_any _).mono ?_; rintro e w1 ⟨rfl, hb1⟩
    go_wp2_with fail
    refine (hd_new hb1 16).mono ?_; rintro e w2 ⟨rfl, h2, _⟩
    rw [show many 16 = 16 from rfl] at h2
    replace h2 := h2.mono (C' := fun _ => False) (fun _ t => t.elim)
    generalize w1.heap.size = p at *
    replace h2 := Lib.hid h2
    clear hb1
    go_upto_region 7 with (at_make; refine wpList_make_full _ rfl _ _ 27 rfl w.heap.size 5 j0 (.int .u8 0) 1 Try.underlying27 hj0 hy0 hy1 .i64 .i64 _ _ 16 rfl rfl rfl rfl (by rw [hy2]; omega) (by unfold maxLen; omega) h2.out.acc.size ?_; intro w3 hown3 hg3; rw [made_bytes] at hown3)
    have h3 := h2.out.client ((Below.refl w2.heap.size w2).grown hg3 (Nat.le_refl _) (by intro k hk; cases hk))
    have hlt3 := own_lt hown3 rfl
    replace h3 := h3.mono (C' := fun b => b = w2.heap.size) (fun b e => .inr ⟨by omega, by rw [e]; exact hlt3.2⟩)
    have hst := s1_start 16 (by decide)
    replace hown3 : w3.ownsRow w.heap.size 5 1 (.slice (some ⟨w2.heap.size, 0, none⟩) 16 16) 16 ((List.replicate 16 (0 : Int)).map bv) := by rw [List.map_replicate]; exact hown3
    generalize w2.heap.size = g at *
    generalize Dk.new 16 = D0 at *
    generalize List.replicate 16 (0 : Int) = W0 at *
    replace h3 := Lib.hid h3
    replace hst := Lib.hid hst
    replace hown3 := Lib.hid hown3
    have hgl := hlt3.1
    clear hg3 h2 hlt3
    go_loopw [10] (fun j wr => ∃ (i : Nat) (D : Dk) (Wn : List Int), i ≤ la.length ∧ j = .int .i64 i ∧ S1 16 i D Wn ∧ Hd w wr p D (fun b => b = g) ∧ wr.ownsRow w.heap.size 5 1 (.slice (some ⟨g, 0, none⟩) 16 16) 16 (Wn.map bv)) (fun j _ => la.length - (intOf j).toNat)
    case atStart => exact ⟨0, D0, W0, by omega, rfl, hst.out, h3.out, hown3.out⟩
    case round =>
      obtain ⟨i, D, Wn, hi, rfl, st, hd, how⟩ := hrel
      by_cases hlt : i < la.length
      · have q1 : (i : Int) < (la.length : Int) := by omega
        have hva := View.below ha.out hd.acc
        obtain ⟨ab, ao, rfl, hab, fa⟩ := vi_at hva (by omega)
        have hab2 : ab < w.heap.size := by
          obtain ⟨ab', ao', e, h, _⟩ := vi_at ha.out (by omega)
          injection e with e
          injection e with e
          omega
        obtain ⟨mk, hmk, hbits⟩ := and15 la[i]
        have ka := Lib.hid (fun W (hW : Below wr.heap.size wr W) => (hW.cell (p := ⟨ab, ao + i, none⟩) hab).trans (fa i hlt))
        have kb := Lib.hid (fun W (hW : Below w.heap.size w W) => (hW.cell (p := ⟨ab, ao + i, none⟩) hab2).trans (by
          obtain ⟨ab', ao', e, h, f⟩ := vi_at ha.out (by omega)
          injection e with e
          injection e with e1 e2
          subst e1 e2
          exact f i hlt))
        have l0 := fa i hlt
        have hw1 : D.written ≤ 1000000000000 := by have := st.written; omega
        have hu1 : D.uns.length ≤ 1000000 := by have := st.uns; omega
        have q4 : IntKind.i64.wrap (1 + (i : Int)) = 1 + i := IntWalk.i64_in _ (by omega)
        have q6 : IntKind.u8.wrap (1 + (i : Int)) = 1 + i := IntWalk.u8_in _ (by omega)
        have q5 : (mk : Int) < 16 := by omega
        obtain ⟨y1, y2⟩ := s1_write st mk (by omega) (1 + i)
        have kW := Lib.hid (fun W C (hW : Hd w W p D C) v hv hC => hd_write hW st.ok (mk : Int) (v := v) (bs := fillL 64 (1 + (i : Int))) hv hC hw1 hu1)
        rw [y1] at kW
        replace y2 := Lib.hid y2
        generalize (D.write (mk : Int) (fillL 64 (1 + (i : Int)))).1 = D' at *
        replace hd := Lib.hid hd
        replace how := Lib.hid how
        clear st y1 hva fa
        generalize la[i] = x at *
        go_wp2_with fail
        clear l0
        refine tl_begin (fun (w' : World) => w'.cell? ⟨ab, ao + i, none⟩ = some (.int .i64 x)) [] (by kernel_rfl) (ka.out _ (Below.drew (Below.refl _ _))) (fun hHeld => ?_)
        refine tl_p (i := 0) (v := ?_) rfl (by rfl) (by kernel_rfl) (by kernel_rfl) (by kernel_rfl) (fun _ _ _ h => h) (by rfl) hHeld ?_ ?_
        rotate_left
        · intro w
          go_simp
          try (with_reducible rfl)
        try simp only [Act.put, List.setIfInBounds_toArray, List.set_cons_zero, List.set_cons_succ]
        refine tl_p (i := 1) (v := ?_) rfl (by rfl) (by kernel_rfl) (by kernel_rfl) (by kernel_rfl) (fun _ _ _ h => h) (by rfl) hHeld ?_ ?_
        rotate_left
        · intro w
          go_simp
          try (with_reducible rfl)
        try simp only [Act.put, List.setIfInBounds_toArray, List.set_cons_zero, List.set_cons_succ]
        refine tl_p (i := 2) (v := ?_) rfl (by rfl) (by kernel_rfl) (by kernel_rfl) (by kernel_rfl) (fun _ _ _ h => h) (by rfl) hHeld ?_ ?_
        rotate_left
        · intro w
          go_simp
          try (with_reducible rfl)
        try simp only [Act.put, List.setIfInBounds_toArray, List.set_cons_zero, List.set_cons_succ]
        refine tl_p (i := 3) (v := ?_) rfl (by rfl) (by kernel_rfl) (by kernel_rfl) (by kernel_rfl) (fun _ _ _ h => h) (by rfl) hHeld ?_ ?_
        rotate_left
        · intro w
          go_simp
          try (with_reducible rfl)
        try simp only [Act.put, List.setIfInBounds_toArray, List.set_cons_zero, List.set_cons_succ]
        refine tl_w (i := 4) (v := ?_) rfl (by rfl) (by kernel_rfl) (by kernel_rfl) (by kernel_rfl) (by kernel_rfl) (by kernel_rfl) (fun _ _ _ h => h) (by rfl) hHeld ?_ ?_
        rotate_left
        · intro w hSw
          try dsimp only at hSw
          go_simp
          try (with_reducible rfl)
        try simp only [Act.put, List.setIfInBounds_toArray, List.set_cons_zero, List.set_cons_succ]
        refine tl_p (i := 5) (v := ?_) rfl (by rfl) (by kernel_rfl) (by kernel_rfl) (by kernel_rfl) (fun _ _ _ h => h) (by rfl) hHeld ?_ ?_
        rotate_left
        · intro w
          go_simp
          try (with_reducible rfl)
        try simp only [Act.put, List.setIfInBounds_toArray, List.set_cons_zero, List.set_cons_succ]
        refine tl_p (i := 6) (v := ?_) rfl (by rfl) (by kernel_rfl) (by kernel_rfl) (by kernel_rfl) (fun _ _ _ h => h) (by rfl) hHeld ?_ ?_
        rotate_left
        · intro w
          go_simp
          try (with_reducible rfl)
        try simp only [Act.put, List.setIfInBounds_toArray, List.set_cons_zero, List.set_cons_succ]
        refine tl_p (i := 7) (v := ?_) rfl (by rfl) (by kernel_rfl) (by kernel_rfl) (by kernel_rfl) (fun _ _ _ h => h) (by rfl) hHeld ?_ ?_
        rotate_left
        · intro w
          go_simp
          try (with_reducible rfl)
        try simp only [Act.put, List.setIfInBounds_toArray, List.set_cons_zero, List.set_cons_succ]
        refine tl_p (i := 8) (v := ?_) rfl (by rfl) (by kernel_rfl) (by kernel_rfl) (by kernel_rfl) (fun _ _ _ h => h) (by rfl) hHeld ?_ ?_
        rotate_left
        · intro w
          go_simp
          try (with_reducible rfl)
        try simp only [Act.put, List.setIfInBounds_toArray, List.set_cons_zero, List.set_cons_succ]
        refine tl_do (i := 9) rfl (by kernel_rfl) (by rfl) (fun K hK => ?_)
        go_simp
        go_at_call 18
        refine (fill_good _ _).mono ?_; rintro e w4 ⟨A4, c4, rfl, ho4, hb4, hc4⟩
        have h4 := hd.out.drew.client hb4
        have hv4 := ho4.view
        try go_wp2_with fail
        refine hK.out _ _ (ka.out _ (below_then (Below.drew (Below.refl _ _)) hb4)) (fun hHeld1 => ?_)
        clear hK K hHeld
        have hHeld := hHeld1
        clear hHeld1
        try simp only [Act.put, List.setIfInBounds_toArray, List.set_cons_zero, List.set_cons_succ]
        refine tl_do (i := 10) rfl (by kernel_rfl) (by rfl) (fun K hK => ?_)
        go_simp
        go_at_call 17
        refine (kW.out w4 _ h4 _ hv4 (fun b e => .inr (hc4 b e))).mono ?_; rintro e w5 ⟨rfl, h5, k5⟩
        try go_wp2_with fail
        refine hK.out _ _ (kb.out _ h5.acc) (fun hHeld1 => ?_)
        clear hK K hHeld
        have hHeld := hHeld1
        clear hHeld1
        try simp only [Act.put, List.setIfInBounds_toArray, List.set_cons_zero, List.set_cons_succ]
        refine till_done (by kernel_rfl) ?_ _
        have hd5 := h5.mono (C' := fun b => b = g) (fun b e => .inl e)
        have how5 := k5.own (own_below how.out (below_then (Below.drew (Below.refl _ _)) hb4)) (fun b e => .inl (by injection e with e; exact e.symm))
        have l1 := kb.out _ h5.acc
        have hmk' : mk < 16 := hmk
        obtain ⟨u1, z1⟩ : ∃ u, w5.cell? ⟨g, mk, none⟩ = some u := ⟨_, own_cell how5 mk (by omega)⟩
        have z2 := own_free how5 mk
        have how6 := own_set how5 mk (by omega) (bv (1 + i))
        rw [← List.map_set] at how6
        have hd6 := hd5.store (a := ⟨g, mk, none⟩) rfl hgl (bv (1 + i))
        unfold bv at how6 hd6
        replace how6 := Lib.hid how6
        replace hd6 := Lib.hid hd6
        clear h5 k5 hb4 h4 hv4 ho4 hc4 hd5 how5 hHeld ka kb kW hd how
        go_wp2_with fail
        go_roundw
        case rel => exact ⟨i + 1, D', _, by omega, by go_num, y2.out, hd6.out, how6.out⟩
        case measure => simp [intOf]; omega
      · have q1 : ¬ (i : Int) < (la.length : Int) := by omega
        obtain rfl : i = la.length := by omega
        obtain ⟨e2, st2⟩ := s2_start (kp := kp) st
        have kS := Lib.hid (hd_sync hd st.ok)
        rw [e2] at kS
        replace st2 := Lib.hid st2
        replace how := Lib.hid how
        generalize D.sync.1 = D1 at *
        clear st hd e2
        go_wp2_with fail
        refine kS.out.mono ?_; rintro e w5 ⟨rfl, h5, k5⟩
        have how5 := k5.own how.out (fun b e => by injection e with e; exact e.symm)
        replace h5 := Lib.hid h5
        replace how5 := Lib.hid how5
        clear kS how k5
        go_upto_region 13 with fail
        go_loopw [12] (fun j wr => ∃ (i : Nat) (D : Dk) (Wn : List Int), i ≤ lb.length ∧ j = .int .i64 i ∧ S2 kp 16 la.length i D Wn ∧ Hd w wr p D (fun b => b = g) ∧ wr.ownsRow w.heap.size 5 1 (.slice (some ⟨g, 0, none⟩) 16 16) 16 (Wn.map bv)) (fun j _ => lb.length - (intOf j).toNat)
        case atStart => exact ⟨0, D1, Wn, by omega, rfl, st2.out, h5.out, how5.out⟩
        clear st2 h5 how5
        case round =>
          obtain ⟨i, D, Wn, hi, rfl, st, hd, how⟩ := hrel
          by_cases hlt : i < lb.length
          · have q1 : (i : Int) < (lb.length : Int) := by omega
            have hva := View.below hb.out hd.acc
            obtain ⟨ab, ao, rfl, hab, fa⟩ := vi_at hva (by omega)
            have hab2 : ab < w.heap.size := by
              obtain ⟨ab', ao', e, h, _⟩ := vi_at hb.out (by omega)
              injection e with e
              injection e with e
              omega
            obtain ⟨mk, hmk, hbits⟩ := and15 lb[i]
            have ka := Lib.hid (fun W (hW : Below wr.heap.size wr W) => (hW.cell (p := ⟨ab, ao + i, none⟩) hab).trans (fa i hlt))
            have kb := Lib.hid (fun W (hW : Below w.heap.size w W) => (hW.cell (p := ⟨ab, ao + i, none⟩) hab2).trans (by
              obtain ⟨ab', ao', e, h, f⟩ := vi_at hb.out (by omega)
              injection e with e
              injection e with e1 e2
              subst e1 e2
              exact f i hlt))
            have l0 := fa i hlt
            have hw1 : D.written ≤ 1000000000000 := by have := st.written; omega
            have hu1 : D.uns.length ≤ 1000000 := by have := st.uns; omega
            have q4 : IntKind.i64.wrap (101 + (i : Int)) = 101 + i := IntWalk.i64_in _ (by omega)
            have q6 : IntKind.u8.wrap (101 + (i : Int)) = 101 + i := IntWalk.u8_in _ (by omega)
            have q5 : (mk : Int) < 16 := by omega
            obtain ⟨y1, y2, y3⟩ := s2_write st mk (by omega) (101 + i)
            have kW := Lib.hid (fun W C (hW : Hd w W p D C) v hv hC => hd_write hW st.ok (mk : Int) (v := v) (bs := fillL 64 (101 + (i : Int))) hv hC hw1 hu1)
            rw [y1] at kW
            replace y2 := Lib.hid y2
            replace y3 := Lib.hid y3
            generalize (D.write (mk : Int) (fillL 64 (101 + (i : Int)))).1 = D' at *
            replace hd := Lib.hid hd
            replace how := Lib.hid how
            clear st y1 hva fa
            generalize lb[i] = x at *
            go_wp2_with fail
            clear l0
            refine tl_begin (fun (w' : World) => w'.cell? ⟨ab, ao + i, none⟩ = some (.int .i64 x)) [] (by kernel_rfl) (ka.out _ (Below.drew (Below.refl _ _))) (fun hHeld => ?_)
            refine tl_p (i := 0) (v := ?_) rfl (by rfl) (by kernel_rfl) (by kernel_rfl) (by kernel_rfl) (fun _ _ _ h => h) (by rfl) hHeld ?_ ?_
            rotate_left
            · intro w
              go_simp
              try (with_reducible rfl)
            try simp only [Act.put, List.setIfInBounds_toArray, List.set_cons_zero, List.set_cons_succ]
            refine tl_p (i := 1) (v := ?_) rfl (by rfl) (by kernel_rfl) (by kernel_rfl) (by kernel_rfl) (fun _ _ _ h => h) (by rfl) hHeld ?_ ?_
            rotate_left
            · intro w
              go_simp
              try (with_reducible rfl)
            try simp only [Act.put, List.setIfInBounds_toArray, List.set_cons_zero, List.set_cons_succ]
            refine tl_p (i := 2) (v := ?_) rfl (by rfl) (by kernel_rfl) (by kernel_rfl) (by kernel_rfl) (fun _ _ _ h => h) (by rfl) hHeld ?_ ?_
            rotate_left
            · intro w
              go_simp
              try (with_reducible rfl)
            try simp only [Act.put, List.setIfInBounds_toArray, List.set_cons_zero, List.set_cons_succ]
            refine tl_p (i := 3) (v := ?_) rfl (by rfl) (by kernel_rfl) (by kernel_rfl) (by kernel_rfl) (fun _ _ _ h => h) (by rfl) hHeld ?_ ?_
            rotate_left
            · intro w
              go_simp
              try (with_reducible rfl)
            try simp only [Act.put, List.setIfInBounds_toArray, List.set_cons_zero, List.set_cons_succ]
            refine tl_w (i := 4) (v := ?_) rfl (by rfl) (by kernel_rfl) (by kernel_rfl) (by kernel_rfl) (by kernel_rfl) (by kernel_rfl) (fun _ _ _ h => h) (by rfl) hHeld ?_ ?_
            rotate_left
            · intro w hSw
              try dsimp only at hSw
              go_simp
              try (with_reducible rfl)
            try simp only [Act.put, List.setIfInBounds_toArray, List.set_cons_zero, List.set_cons_succ]
            refine tl_p (i := 5) (v := ?_) rfl (by rfl) (by kernel_rfl) (by kernel_rfl) (by kernel_rfl) (fun _ _ _ h => h) (by rfl) hHeld ?_ ?_
            rotate_left
            · intro w
              go_simp
              try (with_reducible rfl)
            try simp only [Act.put, List.setIfInBounds_toArray, List.set_cons_zero, List.set_cons_succ]
            refine tl_p (i := 6) (v := ?_) rfl (by rfl) (by kernel_rfl) (by kernel_rfl) (by kernel_rfl) (fun _ _ _ h => h) (by rfl) hHeld ?_ ?_
            rotate_left
            · intro w
              go_simp
              try (with_reducible rfl)
            try simp only [Act.put, List.setIfInBounds_toArray, List.set_cons_zero, List.set_cons_succ]
            refine tl_p (i := 7) (v := ?_) rfl (by rfl) (by kernel_rfl) (by kernel_rfl) (by kernel_rfl) (fun _ _ _ h => h) (by rfl) hHeld ?_ ?_
            rotate_left
            · intro w
              go_simp
              try (with_reducible rfl)
            try simp only [Act.put, List.setIfInBounds_toArray, List.set_cons_zero, List.set_cons_succ]
            refine tl_p (i := 8) (v := ?_) rfl (by rfl) (by kernel_rfl) (by kernel_rfl) (by kernel_rfl) (fun _ _ _ h => h) (by rfl) hHeld ?_ ?_
            rotate_left
            · intro w
              go_simp
              try (with_reducible rfl)
            try simp only [Act.put, List.setIfInBounds_toArray, List.set_cons_zero, List.set_cons_succ]
            refine tl_do (i := 9) rfl (by kernel_rfl) (by rfl) (fun K hK => ?_)
            go_simp
            go_at_call 18
            refine (fill_good _ _).mono ?_; rintro e w4 ⟨A4, c4, rfl, ho4, hb4, hc4⟩
            have h4 := hd.out.drew.client hb4
            have hv4 := ho4.view
            try go_wp2_with fail
            refine hK.out _ _ (ka.out _ (below_then (Below.drew (Below.refl _ _)) hb4)) (fun hHeld1 => ?_)
            clear hK K hHeld
            have hHeld := hHeld1
            clear hHeld1
            try simp only [Act.put, List.setIfInBounds_toArray, List.set_cons_zero, List.set_cons_succ]
            refine tl_do (i := 10) rfl (by kernel_rfl) (by rfl) (fun K hK => ?_)
            go_simp
            go_at_call 17
            refine (kW.out w4 _ h4 _ hv4 (fun b e => .inr (hc4 b e))).mono ?_; rintro e w5 ⟨rfl, h5, k5⟩
            try go_wp2_with fail
            refine hK.out _ _ (kb.out _ h5.acc) (fun hHeld1 => ?_)
            clear hK K hHeld
            have hHeld := hHeld1
            clear hHeld1
            try simp only [Act.put, List.setIfInBounds_toArray, List.set_cons_zero, List.set_cons_succ]
            refine till_done (by kernel_rfl) ?_ _
            have hd5 := h5.mono (C' := fun b => b = g) (fun b e => .inl e)
            have how5 := k5.own (own_below how.out (below_then (Below.drew (Below.refl _ _)) hb4)) (fun b e => .inl (by injection e with e; exact e.symm))
            have l1 := kb.out _ h5.acc
            by_cases hk1 : i < kp.length
            · have q7 : (i : Int) < (kp.length : Int) := by omega
              have hvk := View.below hk.out h5.acc
              obtain ⟨bk, ok, ck', e, _, _, hbl, fk⟩ := hvk.at_ (by omega)
              injection e with e1 e2 e3
              subst e1 e3
              have lk : w5.cell? ⟨bk, ok + i, none⟩ = some (.bool kp[i]) := fk i _ (by simp [List.getElem?_eq_getElem hk1])
              have hkk : kp[i]? = some kp[i] := List.getElem?_eq_getElem hk1
              clear fk hvk
              cases hbb : kp[i] with
              | false =>
                rw [hbb] at lk hkk
                have st5 := y3.out (by rw [hkk]; simp)
                replace st5 := Lib.hid st5
                replace hd5 := Lib.hid hd5
                replace how5 := Lib.hid how5
                clear h5 k5 hb4 h4 hv4 ho4 hc4 hHeld ka kb kW hd how y2 y3 hbb hkk
                go_wp2_with fail
                go_roundw
                case rel => exact ⟨i + 1, D', Wn, by omega, by go_num, st5.out, hd5.out, how5.out⟩
                case measure => simp [intOf]; omega
              | true =>
                rw [hbb] at lk hkk
                have st5 := y2.out hkk
                obtain ⟨u1, z1⟩ : ∃ u, w5.cell? ⟨g, mk, none⟩ = some u := ⟨_, own_cell how5 mk (by omega)⟩
                have z2 := own_free how5 mk
                have how6 := own_set how5 mk (by omega) (bv (101 + i))
                rw [← List.map_set] at how6
                have hd6 := hd5.store (a := ⟨g, mk, none⟩) rfl hgl (bv (101 + i))
                unfold bv at how6 hd6
                replace st5 := Lib.hid st5
                replace how6 := Lib.hid how6
                replace hd6 := Lib.hid hd6
                clear h5 k5 hb4 h4 hv4 ho4 hc4 hd5 how5 hHeld ka kb kW hd how y2 y3 hbb hkk
                go_wp2_with fail
                go_roundw
                case rel => exact ⟨i + 1, D', _, by omega, by go_num, st5.out, hd6.out, how6.out⟩
                case measure => simp [intOf]; omega
            · have q7 : ¬ (i : Int) < (kp.length : Int) := by omega
              have st5 := y3.out (by rw [List.getElem?_eq_none (by omega)]; simp)
              replace st5 := Lib.hid st5
              replace hd5 := Lib.hid hd5
              replace how5 := Lib.hid how5
              clear h5 k5 hb4 h4 hv4 ho4 hc4 hHeld ka kb kW hd how y2 y3
              go_wp2_with fail
              go_roundw
              case rel => exact ⟨i + 1, D', Wn, by omega, by go_num, st5.out, hd5.out, how5.out⟩
              case measure => simp [intOf]; omega
          · have q1 : ¬ (i : Int) < (lb.length : Int) := by omega
            obtain rfl : i = lb.length := by omega
            obtain ⟨hok3, hnow3⟩ := s2_crash st
            have hvk := View.below hk.out hd.acc
            have kC := Lib.hid (hd_crash hd st.ok (kp := kp) hvk (fun hne b e => .inr (by
              obtain ⟨b', o', c', e', _, _, hb', _⟩ := hk.out.at_ (by have := List.length_pos_iff.2 hne; omega)
              injection e' with e1 e2 e3
              subst e1
              injection e with e
              subst e
              exact hb')) (by omega) (by have := st.uns; omega))
            have hwl := st.len
            generalize D.crash kp = D3 at *
            replace how := Lib.hid how
            clear st hd hvk
            go_wp2_with fail
            refine kC.out.mono ?_; rintro e w6 ⟨rfl, h6, k6⟩
            have how6 := Lib.hid (k6.own how.out (fun b e => by injection e with e; exact e.symm))
            replace h6 := Lib.hid h6
            clear kC how k6
            go_upto_region 20 with fail
            go_loopw [13] (fun j wr => ∃ i : Nat, i ≤ 16 ∧ j = .int .i64 i ∧ Hd w wr p D3 (fun b => b = g) ∧ wr.ownsRow w.heap.size 5 1 (.slice (some ⟨g, 0, none⟩) 16 16) 16 (Wn.map bv)) (fun j _ => 16 - (intOf j).toNat)
            case atStart => exact ⟨0, by omega, rfl, h6.out, how6.out⟩
            clear h6 how6
            case round =>
              obtain ⟨i, hi, rfl, hd, how⟩ := hrel
              by_cases hlt : i < 16
              · have q1 : (i : Int) < 16 := by omega
                have hr := read_fill hnow3 i (by omega)
                have hcell := own_cell how i (by omega)
                have hgl2 := own_lt how rfl
                simp only [List.getElem_map] at hcell
                have kR : Hid (∀ W, Below wr.heap.size wr W → _) := Lib.hid (fun W (hW : Below wr.heap.size wr W) => read_good (hd.below hW) hok3 i hr)
                generalize Wn[i] = c at *
                have kc := Lib.hid (fun W (hW : Below wr.heap.size wr W) => (hW.cell (p := ⟨g, i, none⟩) hgl2.2).trans hcell)
                have hacc : Below wr.heap.size wr wr.drew := Below.drew (Below.refl _ _)
                unfold bv at kc hcell
                replace hd := Lib.hid hd
                replace how := Lib.hid how
                clear hcell hr
                go_wp2_with fail
                refine tl_begin (fun (w' : World) => w'.cell? ⟨g, i, none⟩ = some (.int .u8 c)) [] (by kernel_rfl) (kc.out _ (Below.drew (Below.refl _ _))) (fun hHeld => ?_)
                refine tl_p (i := 0) (v := ?_) rfl (by rfl) (by kernel_rfl) (by kernel_rfl) (by kernel_rfl) (fun _ _ _ h => h) (by rfl) hHeld ?_ ?_
                rotate_left
                · intro w
                  go_simp
                  try (with_reducible rfl)
                try simp only [Act.put, List.setIfInBounds_toArray, List.set_cons_zero, List.set_cons_succ]
                refine tl_p (i := 1) (v := ?_) rfl (by rfl) (by kernel_rfl) (by kernel_rfl) (by kernel_rfl) (fun _ _ _ h => h) (by rfl) hHeld ?_ ?_
                rotate_left
                · intro w
                  go_simp
                  try (with_reducible rfl)
                try simp only [Act.put, List.setIfInBounds_toArray, List.set_cons_zero, List.set_cons_succ]
                refine tl_p (i := 4) (v := ?_) rfl (by rfl) (by kernel_rfl) (by kernel_rfl) (by kernel_rfl) (fun _ _ _ h => h) (by rfl) hHeld ?_ ?_
                rotate_left
                · intro w
                  go_simp
                  try (with_reducible rfl)
                try simp only [Act.put, List.setIfInBounds_toArray, List.set_cons_zero, List.set_cons_succ]
                refine tl_p (i := 5) (v := ?_) rfl (by rfl) (by kernel_rfl) (by kernel_rfl) (by kernel_rfl) (fun _ _ _ h => h) (by rfl) hHeld ?_ ?_
                rotate_left
                · intro w
                  go_simp
                  try (with_reducible rfl)
                try simp only [Act.put, List.setIfInBounds_toArray, List.set_cons_zero, List.set_cons_succ]
                refine tl_p (i := 6) (v := ?_) rfl (by rfl) (by kernel_rfl) (by kernel_rfl) (by kernel_rfl) (fun _ _ _ h => h) (by rfl) hHeld ?_ ?_
                rotate_left
                · intro w
                  go_simp
                  try (with_reducible rfl)
                try simp only [Act.put, List.setIfInBounds_toArray, List.set_cons_zero, List.set_cons_succ]
                refine tl_w (i := 7) (v := ?_) rfl (by rfl) (by kernel_rfl) (by kernel_rfl) (by kernel_rfl) (by kernel_rfl) (by kernel_rfl) (fun _ _ _ h => h) (by rfl) hHeld ?_ ?_
                rotate_left
                · intro w hSw
                  try dsimp only at hSw
                  go_simp
                  try (with_reducible rfl)
                try simp only [Act.put, List.setIfInBounds_toArray, List.set_cons_zero, List.set_cons_succ]
                refine tl_do (i := 2) rfl (by kernel_rfl) (by rfl) (fun K hK => ?_)
                go_simp
                go_at_call 21
                refine (kR.out _ hacc).mono ?_; rintro e w2 ⟨A2, c2, rfl, hv2, hb2⟩
                replace hacc := below_then hacc hb2
                try replace hv4 := View.below hv4 hb2
                try go_wp2_with fail
                refine hK.out _ _ (by first | exact kc.out _ hacc | exact ⟨kc.out _ hacc, hv4⟩) (fun hHeld1 => ?_)
                clear hK K hHeld
                have hHeld := hHeld1
                clear hHeld1
                try simp only [Act.put, List.setIfInBounds_toArray, List.set_cons_zero, List.set_cons_succ]
                refine till_more (fun w' => VB w' (.slice A2 64 c2) (fillL 64 c)) ?_
                replace hHeld := And.intro hHeld hv2
                refine tl_w (i := 3) (v := ?_) rfl (by rfl) (by kernel_rfl) (by kernel_rfl) (by kernel_rfl) (by kernel_rfl) (by kernel_rfl) (fun _ _ _ h => h) (by rfl) hHeld ?_ ?_
                rotate_left
                · intro w hSw
                  have hc := conv_any w _ _ hSw.2
                  clear hSw
                  go_simp
                  try (with_reducible rfl)
                try simp only [Act.put, List.setIfInBounds_toArray, List.set_cons_zero, List.set_cons_succ]
                refine tl_do (i := 8) rfl (by kernel_rfl) (by rfl) (fun K hK => ?_)
                go_simp
                go_at_call 18
                refine (fill_good _ _).mono ?_; rintro e w4 ⟨A4, c4, rfl, ho4, hb4, hc4⟩
                have hv4 := ho4.view
                replace hacc := below_then hacc hb4
                try replace hv2 := View.below hv2 hb4
                try go_wp2_with fail
                refine hK.out _ _ (by first | exact kc.out _ hacc | exact ⟨kc.out _ hacc, hv2⟩) (fun hHeld1 => ?_)
                clear hK K hHeld
                have hHeld := hHeld1
                clear hHeld1
                try simp only [Act.put, List.setIfInBounds_toArray, List.set_cons_zero, List.set_cons_succ]
                refine till_more (fun w' => VB w' (.slice A4 64 c4) (fillL 64 c)) ?_
                replace hHeld := And.intro hHeld hv4
                refine tl_w (i := 9) (v := ?_) rfl (by rfl) (by kernel_rfl) (by kernel_rfl) (by kernel_rfl) (by kernel_rfl) (by kernel_rfl) (fun _ _ _ h => h) (by rfl) hHeld ?_ ?_
                rotate_left
                · intro w hSw
                  have hc := conv_any w _ _ hSw.2
                  clear hSw
                  go_simp
                  try (with_reducible rfl)
                try simp only [Act.put, List.setIfInBounds_toArray, List.set_cons_zero, List.set_cons_succ]
                refine tl_p (i := 10) (v := ?_) rfl (by rfl) (by kernel_rfl) (by kernel_rfl) (by kernel_rfl) (fun _ _ _ h => h) (by rfl) hHeld ?_ ?_
                rotate_left
                · intro w
                  go_simp
                  try (with_reducible rfl)
                try simp only [Act.put, List.setIfInBounds_toArray, List.set_cons_zero, List.set_cons_succ]
                refine till_done (by kernel_rfl) ?_ _
                have hd5 := Lib.hid (hd.out.below hacc)
                have how5 := Lib.hid (own_below how.out hacc)
                clear hHeld hv2 hv4 ho4 hacc
                go_wp2_with fail
                go_roundw
                case rel => exact ⟨i + 1, by omega, by go_num, hd5.out, how5.out⟩
                case measure => simp [intOf]; omega
              · have q1 : ¬ (i : Int) < 16 := by omega
                go_wp2_with fail
                go_ret
                exact ⟨rfl, hd.acc⟩

theorem vi_of_rd {W : World} {A : Option Addr} {n c : Nat} {l : List Int} (z : Rd Try.prog W (.sl 3 (.int .i64)) [.slice A n c] l) : n = l.length ∧ VI W (.slice A l.length c) l := by
  have hv := rd_view_flat rfl z
  obtain ⟨A', c', e, _, _⟩ := View.cells hv
  injection e with e1 e2 e3
  subst e1 e2 e3
  have he : ∀ l : List Int, l.flatMap (Kd.enc (.int .i64)) = l.map (.int .i64) := fun l => by
    induction l with
    | nil => rfl
    | cons a l ih => rw [List.flatMap_cons, ih]; rfl
  rw [he l] at hv
  exact ⟨rfl, hv⟩
theorem vb_of_rd {W : World} {A : Option Addr} {n c : Nat} {l : List Bool} (z : Rd Try.prog W (.sl 4 .bool) [.slice A n c] l) : n = l.length ∧ VBool W (.slice A l.length c) l := by
  have hv := rd_view_flat rfl z
  obtain ⟨A', c', e, _, _⟩ := View.cells hv
  injection e with e1 e2 e3
  subst e1 e2 e3
  have he : ∀ l : List Bool, l.flatMap (Kd.enc .bool) = l.map .bool := fun l => by
    induction l with
    | nil => rfl
    | cons a l ih => rw [List.flatMap_cons, ih]; rfl
  rw [he l] at hv
  exact ⟨rfl, hv⟩
theorem sectorsSure_walk (W : World) (Aa : Option Addr) (na ca : Nat) (la : (Kd.sl 3 (.int .i64)).T) (za : Rd Try.prog W (.sl 3 (.int .i64)) [.slice Aa na ca] la) (Ab : Option Addr) (nb cb : Nat) (lb : (Kd.sl 3 (.int .i64)).T) (zb : Rd Try.prog W (.sl 3 (.int .i64)) [.slice Ab nb cb] lb) (Ak : Option Addr) (nk ck : Nat) (kp : (Kd.sl 4 .bool).T) (zk : Rd Try.prog W (.sl 4 .bool) [.slice Ak nk ck] kp) :
    Calls Try.prog 3 #[.slice Aa na ca, .slice Ab nb cb, .slice Ak nk ck] W fun e w' => e = .returned (.bool true) ∧ Below W.heap.size W w' := by
  obtain ⟨rfl, ha⟩ := vi_of_rd za
  obtain ⟨rfl, hb⟩ := vi_of_rd zb
  obtain ⟨rfl, hk⟩ := vb_of_rd zk
  exact sure_core W Aa Ab Ak ca cb ck la lb kp ha hb hk
end Go.Proofs.Ytbfcaapompkjhaa
