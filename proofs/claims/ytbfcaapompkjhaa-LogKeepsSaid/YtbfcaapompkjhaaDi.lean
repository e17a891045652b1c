/-
  SectorsBreak: its walk.
-/
import Derived.Test.YtbfcaapompkjhaaDh
import Derived.Test.YtbfcaapompkjhaaBits
set_option linter.unusedVariables false
set_option linter.unusedSimpArgs false
namespace Go.Proofs.Ytbfcaapompkjhaa
open Go.RowKit Go.Proofs.PosteMem
attribute [local go_sem ↓] Go.wp_at_zero Go.wp_at_succ

/-- A disk of four that breaks behind n writes, i writes later. -/
structure BSt (n i : Nat) (D : Dk) : Prop where
  ok : D.ok
  len : D.now.length = 4
  broken : D.broken = decide (n ≤ i)
  left : D.left = if i ≤ n then (n : Int) - i else 0
  written : D.written = if i ≤ n then i else n
  uns : D.uns.length ≤ i
theorem bst_start (n : Nat) (hn : n ≤ 30) : BSt n 0 ((Dk.new 4).brk n) := by
  refine ⟨brk_ok (new_ok 4 (by decide)) (by omega), ?_, ?_, ?_, ?_, ?_⟩
  all_goals simp [Dk.brk, Dk.new]
  all_goals omega
theorem bst_yes {n i : Nat} {D : Dk} (h : BSt n i D) (hi : i < n) (k : Int) (hk0 : 0 ≤ k) (hk : k < 4) {bs : List Int} (hb : bs.length = 64) : (D.write k bs).2 = true ∧ BSt n (i + 1) (D.write k bs).1 := by
  have hlen := h.len
  have hbr : D.broken = false := by rw [h.broken]; exact decide_eq_false (by omega)
  have hl := h.left
  rw [if_pos (by omega)] at hl
  have hw := h.written
  rw [if_pos (by omega)] at hw
  have hok := write_ok h.ok k bs
  rw [write_yes hk0 (by rw [hlen]; exact hk) hb hbr] at hok ⊢
  refine ⟨rfl, hok, by simpa using hlen, ?_, ?_, ?_, ?_⟩
  · show decide (D.left = 1) = decide (n ≤ i + 1)
    rw [hl, Bool.eq_iff_iff, decide_eq_true_eq, decide_eq_true_eq]
    omega
  · show (if 0 < D.left then D.left - 1 else D.left) = _
    rw [if_pos (by omega), if_pos (by omega), hl]
    omega
  · show D.written + 1 = _
    rw [if_pos (by omega), hw]
  · show (D.uns ++ [_]).length ≤ i + 1
    have := h.uns
    simp
    omega
theorem bst_no {n i : Nat} {D : Dk} (h : BSt n i D) (hi : n ≤ i) (k : Int) (bs : List Int) : D.write k bs = (D, false) ∧ BSt n (i + 1) D := by
  have hbr : D.broken = true := by rw [h.broken]; exact decide_eq_true hi
  refine ⟨write_no (.inr (.inr (.inr hbr))), h.ok, h.len, by rw [hbr, eq_comm]; exact decide_eq_true (by omega), ?_, ?_, by have := h.uns; omega⟩
  · have hl := h.left
    by_cases e : i ≤ n
    · rw [if_pos e] at hl; rw [if_neg (by omega), hl]; omega
    · rw [if_neg e] at hl; rw [if_neg (by omega), hl]
  · have hw := h.written
    by_cases e : i ≤ n
    · rw [if_pos e] at hw; rw [if_neg (by omega), hw]; omega
    · rw [if_neg e] at hw; rw [if_neg (by omega), hw]
theorem fillL_len (n : Nat) (c : Int) : (fillL n c).length = n := by unfold fillL; simp

theorem fill_good (w : World) (c : Int) : Calls Try.prog 18 #[.int .u8 c, .bool false] w fun e w' => ∃ A cap, e = .returned (.slice A 64 cap) ∧ OB w' w.heap.size (.slice A 64 cap) (fillL 64 c) ∧ Below w.heap.size w w' ∧ ∀ b, blockOf (.slice A 64 cap) = some b → w.heap.size ≤ b ∧ b < w'.heap.size :=
  (fill_any w c false).mono fun e w' ⟨v, he, ho, hb⟩ => by
    rw [if_neg (by decide)] at ho
    have ho2 := ho
    unfold OB at ho
    rw [fillL_len] at ho
    obtain ⟨g, cap, rfl, _⟩ := own_some ho (by decide)
    exact ⟨_, _, he, ho2, hb, fun b e => by injection e with e; subst e; exact own_lt ho rfl⟩
set_option maxRecDepth 100000 in
set_option maxHeartbeats 8000000 in
theorem break_core (w : World) (n more : Int) : Calls Try.prog 6 #[.int .i64 n, .int .i64 more] w fun e w' => e = .returned (.bool true) ∧ Below w.heap.size w w' := by
  by_cases hg : n < 0 ∨ 30 < n ∨ more < 0 ∨ 30 < more
  · have hq : (decide (n < 0) || decide (30 < n) || decide (more < 0) || decide (30 < more)) = true := by simp only [Bool.or_eq_true, decide_eq_true_eq]; omega
    go_enter Try.func6, Try.ntmps6
    go_wp2_with fail
    refine (alive_any _).mono ?_; rintro e w1 ⟨rfl, hb1⟩
    go_wp2_with fail
    all_goals
      first
        | (go_ret; exact ⟨rfl, hb1⟩)
        | (exfalso; omega)
  · obtain ⟨n, rfl⟩ : ∃ k : Nat, n = k := ⟨n.toNat, by omega⟩
    obtain ⟨m, rfl⟩ : ∃ k : Nat, more = k := ⟨more.toNat, by omega⟩
    have g1 : (n : Int) ≤ 30 := by omega
    have g2 : (m : Int) ≤ 30 := by omega
    have hn : n ≤ 30 := by omega
    have hm : m ≤ 30 := by omega
    clear hg
    go_enter Try.func6, Try.ntmps6
    go_wp2_with fail
    refine (alive_any _).mono ?_; rintro e w1 ⟨rfl, hb1⟩
    go_wp2_with fail
    refine (hd_new hb1 4).mono ?_; rintro e w2 ⟨rfl, h2, _⟩
    rw [show many 4 = 4 from rfl] at h2
    replace h2 := h2.mono (C' := fun _ => False) (fun _ t => t.elim)
    generalize w1.heap.size = p at *
    replace h2 := Lib.hid h2
    replace hb1 := Lib.hid hb1
    go_wp2_with fail
    refine (hd_break h2.out n).mono ?_; rintro e w3 ⟨rfl, h3, _⟩
    have hst := bst_start n hn
    generalize (Dk.new 4).brk n = D0 at *
    replace h3 := Lib.hid h3
    replace hst := Lib.hid hst
    go_upto_region 7 with fail
    go_loopw [7] (fun j wr => ∃ (i : Nat) (D : Dk), i ≤ n + m ∧ j = .int .i64 i ∧ BSt n i D ∧ Hd w wr p D (fun _ => False)) (fun j _ => n + m - (intOf j).toNat)
    case atStart => exact ⟨0, D0, by omega, rfl, hst.out, h3.out⟩
    case round =>
      obtain ⟨i, D, hi, rfl, st, hd⟩ := hrel
      by_cases hlt : i < n + m
      · have q1 : (i : Int) < (n : Int) + (m : Int) := by omega
        obtain ⟨mk, hmk, hbits⟩ := and3 (i : Int)
        have hw1 : D.written ≤ 1000000000000 := by have := st.written; split at this <;> omega
        have hu1 : D.uns.length ≤ 1000000 := by have := st.uns; omega
        replace hd := Lib.hid hd
        by_cases hin : i < n
        · have q2 : (i : Int) < (n : Int) := by omega
          obtain ⟨y1, y2⟩ := bst_yes st hin (mk : Int) (by omega) (by omega) (fillL_len 64 (i : Int))
          have kW := Lib.hid (fun W (hW : Hd w W p D _) v hv hC => hd_write hW st.ok (mk : Int) (v := v) hv hC hw1 hu1 (C := fun b => False ∨ (wr.heap.size ≤ b ∧ b < W.heap.size)) (bs := fillL 64 (i : Int)))
          rw [y1] at kW
          replace y2 := Lib.hid y2
          generalize (D.write (mk : Int) (fillL 64 (i : Int))).1 = D' at *
          clear st y1
          go_wp2_with fail
          refine (fill_good _ _).mono ?_; rintro e w4 ⟨A4, c4, rfl, ho4, hb4, hc4⟩
          have h4 := hd.out.client hb4
          have hv4 := ho4.view
          go_wp2_with fail
          refine (kW.out w4 h4 _ hv4 (fun b e => .inr (hc4 b e))).mono ?_; rintro e w5 ⟨rfl, h5, _⟩
          replace h5 := Lib.hid (h5.mono (C' := fun _ => False) (fun _ t => t.elim))
          clear h4 ho4 hb4 hc4 hv4
          go_wp2_with fail
          go_roundw
          case rel => exact ⟨i + 1, D', by omega, by go_num, y2.out, h5.out⟩
          case measure => simp [intOf]; omega
        · have q2 : ¬ (i : Int) < (n : Int) := by omega
          obtain ⟨y1, y2⟩ := bst_no st (by omega) (mk : Int) (fillL 64 (i : Int))
          have kW := Lib.hid (fun W (hW : Hd w W p D _) v hv hC => hd_write hW st.ok (mk : Int) (v := v) hv hC hw1 hu1 (C := fun b => False ∨ (wr.heap.size ≤ b ∧ b < W.heap.size)) (bs := fillL 64 (i : Int)))
          rw [y1] at kW
          replace y2 := Lib.hid y2
          clear st y1
          go_wp2_with fail
          refine (fill_good _ _).mono ?_; rintro e w4 ⟨A4, c4, rfl, ho4, hb4, hc4⟩
          have h4 := hd.out.client hb4
          have hv4 := ho4.view
          go_wp2_with fail
          refine (kW.out w4 h4 _ hv4 (fun b e => .inr (hc4 b e))).mono ?_; rintro e w5 ⟨rfl, h5, _⟩
          replace h5 := Lib.hid (h5.mono (C' := fun _ => False) (fun _ t => t.elim))
          clear h4 ho4 hb4 hc4 hv4
          go_wp2_with fail
          go_roundw
          case rel => exact ⟨i + 1, D, by omega, by go_num, y2.out, h5.out⟩
          case measure => simp [intOf]; omega
      · have q1 : ¬ (i : Int) < (n : Int) + (m : Int) := by omega
        obtain rfl : i = n + m := by omega
        have hbr : D.broken = true := by rw [st.broken]; exact decide_eq_true (by omega)
        have hwr : D.written = n := by have := st.written; split at this <;> omega
        have kS := Lib.hid (hd_sync hd st.ok)
        have eS : D.sync = (D, false) := by unfold Dk.sync; rw [if_pos hbr]
        rw [eS] at kS
        have hok := st.ok
        have hu1 : D.uns.length ≤ 1000000 := by have := st.uns; omega
        have hlen := st.len
        have hok2 := crash_ok hok []
        have hc1 : (D.crash []).now.length = 4 := by have := hok.len; simp [Dk.crash, settleN_len]; omega
        have hc2 : (D.crash []).written = n := hwr
        have hc3 : (D.crash []).broken = false := rfl
        have hc4 : (D.crash []).uns = [] := rfl
        have hc5 : (D.crash []).left = -1 := rfl
        replace hd := Lib.hid hd
        replace st := Lib.hid st
        go_wp2_with fail
        refine kS.out.mono ?_; rintro e w5 ⟨rfl, h5, _⟩
        replace h5 := Lib.hid h5
        by_cases hz : m = 0 ∧ n = 0
        · obtain ⟨rfl, rfl⟩ := hz
          go_wp2_with fail
          go_ret
          exact ⟨rfl, h5.out.acc⟩
        · have hzq : ((m : Int) == 0 && (n : Int) == 0) = false := by
            rw [Bool.eq_false_iff]
            intro hh
            simp at hh
            omega
          have kC := Lib.hid (hd_crash h5.out hok (v := .slice none 0 0) (kp := []) (View.nil _ _) (fun h => absurd rfl h) (by simp) hu1)
          generalize D.crash [] = D2 at *
          have kW := Lib.hid (fun W W0 (hW : Hd w W p D2 _) v hv hC => hd_write hW hok2 0 (v := v) hv hC (by omega) (by rw [hc4]; simp) (C := fun b => False ∨ (W0 ≤ b ∧ b < W.heap.size)) (bs := fillL 64 1))
          have e2 : (D2.write 0 (fillL 64 1)).2 = true := by rw [write_yes (by omega) (by omega) (fillL_len 64 1) hc3]
          have hok3 := write_ok hok2 0 (fillL 64 1)
          have hb3 : (D2.write 0 (fillL 64 1)).1.broken = false := by
            rw [write_yes (by omega) (by omega) (fillL_len 64 1) hc3]
            show decide (D2.left = 1) = false
            rw [hc5]
            rfl
          rw [e2] at kW
          generalize (D2.write 0 (fillL 64 1)).1 = D3 at *
          have eS3 : D3.sync.2 = true := by unfold Dk.sync; rw [if_neg (by simp [hb3])]
          go_wp2_with fail
          all_goals
            refine kC.out.mono ?_; rintro e w6 ⟨rfl, h6, _⟩
            have kR := hd_writes h6
            rw [hc2] at kR
            replace kR := Lib.hid kR
            replace h6 := Lib.hid h6
            clear h5 kC kS hc1 hc2 hc3 hc4 hc5
            go_wp2_with fail
            refine kR.out.mono ?_; rintro e w7 ⟨rfl, rfl⟩
            go_wp2_with fail
            refine (fill_good _ _).mono ?_; rintro e w8 ⟨A8, c8, rfl, ho8, hb8, hx8⟩
            have h8 := h6.out.client hb8
            have hv8 := ho8.view
            go_wp2_with fail
            refine (kW.out w8 _ h8 _ hv8 (fun b e => .inr (hx8 b e))).mono ?_; rintro e w9 ⟨rfl, h9, _⟩
            have kS9 := hd_sync h9 hok3
            rw [eS3] at kS9
            replace kS9 := Lib.hid kS9
            clear h9 h8 hv8 ho8 hb8 hx8
            go_wp2_with fail
            refine kS9.out.mono ?_; rintro e w10 ⟨rfl, h10, _⟩
            have hacc := Lib.hid h10.acc
            clear h10
            go_wp2_with fail
            go_ret
            exact ⟨rfl, hacc.out⟩
theorem sectorsBreak_walk (W : World) (n : Int) (_ : (Lit.int .i64 n).wf = true) (more : Int) (_ : (Lit.int .i64 more).wf = true) : Calls Try.prog 6 #[.int .i64 n, .int .i64 more] W fun e w' => e = .returned (.bool true) ∧ Below W.heap.size W w' := break_core W n more
end Go.Proofs.Ytbfcaapompkjhaa
