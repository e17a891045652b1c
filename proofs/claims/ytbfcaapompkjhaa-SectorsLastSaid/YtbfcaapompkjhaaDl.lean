/-
  SectorsLast: its walk.
-/
import Derived.Test.YtbfcaapompkjhaaDk
set_option linter.unusedVariables false
set_option linter.unusedSimpArgs false
namespace Go.Proofs.Ytbfcaapompkjhaa
open Go.RowKit Go.Proofs.PosteMem Go.Proofs.PosteOpen
attribute [local go_sem ↓] Go.wp_at_zero Go.wp_at_succ

/-- A disk of one sector behind its Sync of byte a, j writes later. -/
structure B1 (a j : Nat) (D : Dk) : Prop where
  ok : D.ok
  dlen : D.now.length = 1
  sure : D.sure = [fillL 64 a]
  broken : D.broken = false
  left : D.left = -1
  written : D.written ≤ a + j
  uns : D.uns = (List.range j).map (fun t : Nat => ((0 : Nat), fillL 64 ((a : Int) + (t : Int) + 1)))
theorem b_start {a : Nat} {D : Dk} (h : S1 1 a D [(a : Int)]) : D.sync.2 = true ∧ B1 a 0 D.sync.1 := by
  have hok := sync_ok h.ok
  unfold Dk.sync at hok ⊢
  rw [if_neg (by simp [h.broken])] at hok ⊢
  refine ⟨rfl, hok, ?_, ?_, h.broken, h.left, by have := h.written; simpa using this, rfl⟩
  · show D.now.length = 1
    rw [h.now]; rfl
  · show D.now = _
    rw [h.now]; rfl
theorem b_write {a j : Nat} {D : Dk} (h : B1 a j D) : (D.write 0 (fillL 64 ((a : Int) + j + 1))).2 = true ∧ B1 a (j + 1) (D.write 0 (fillL 64 ((a : Int) + j + 1))).1 := by
  have hok := write_ok h.ok 0 (fillL 64 ((a : Int) + j + 1))
  have hd := h.dlen
  rw [write_yes (by omega) (by omega) (fillL_len 64 _) h.broken] at hok ⊢
  have h1 := h.left
  have h3 := h.written
  have hl : (if 0 < D.left then D.left - 1 else D.left) = -1 := by rw [if_neg (by omega), h1]
  refine ⟨rfl, hok, by simpa using hd, h.sure, by show decide (D.left = 1) = false; rw [h1]; rfl, hl, by show D.written + 1 ≤ _; omega, ?_⟩
  show D.uns ++ [((0 : Int).toNat, fillL 64 ((a : Int) + j + 1))] = _
  rw [h.uns, List.range_succ, List.map_append]
  rfl
theorem b_put {kp : List Bool} {a j t : Nat} {D : Dk} {c : Int} (h : B1 a j D) (ht : t < j) (hc : settleN kp D.uns D.sure t = [fillL 64 c]) (hk : kp[t]? = some true) : settleN kp D.uns D.sure (t + 1) = [fillL 64 ((a : Int) + t + 1)] := by
  have hl : t < D.uns.length := by rw [h.uns]; simpa using ht
  rw [settleN_put hl hk, hc]
  have e : D.uns[t] = (0, fillL 64 ((a : Int) + t + 1)) := by simp [h.uns]
  rw [e]
  rfl
theorem b_crash {kp : List Bool} {a j : Nat} {D : Dk} {c : Int} (h : B1 a j D) (hc : settleN kp D.uns D.sure j = [fillL 64 c]) : (D.crash kp).ok ∧ (D.crash kp).read 0 = fillL 64 c := by
  refine ⟨crash_ok h.ok kp, ?_⟩
  have hl : D.uns.length = j := by rw [h.uns]; simp
  have hn : (D.crash kp).now = [c].map (fillL 64) := by
    show settleN kp D.uns D.sure D.uns.length = _
    rw [hl, hc]; rfl
  exact read_fill hn 0 (by simp)

set_option maxRecDepth 100000 in
set_option maxHeartbeats 8000000 in
theorem last_core (w : World) (n sync : Int) (Ak : Option Addr) (ck : Nat) (kp : List Bool) (hk : VBool w (.slice Ak kp.length ck) kp) :
    Calls Try.prog 4 #[.int .i64 n, .slice Ak kp.length ck, .int .i64 sync] w fun e w' => e = .returned (.bool true) ∧ Below w.heap.size w w' := by
  replace hk := Lib.hid hk
  by_cases hg : n < 1 ∨ 40 < n ∨ 60 < kp.length ∨ sync < 0
  · go_enter Try.func4, Try.ntmps4
    go_wp2_with fail
    refine (alive_any _).mono ?_; rintro e w1 ⟨rfl, hb1⟩
    replace hb1 := Lib.hid hb1
    go_wp2_with fail
    all_goals
      first
        | (go_ret; exact ⟨rfl, hb1.out⟩)
        | (exfalso; omega)
  · obtain ⟨n, rfl⟩ : ∃ k : Nat, n = k := ⟨n.toNat, by omega⟩
    obtain ⟨s, rfl⟩ : ∃ k : Nat, sync = k := ⟨sync.toNat, by omega⟩
    have g1 : (1 : Int) ≤ (n : Int) := by omega
    have g2 : (n : Int) ≤ 40 := by omega
    have g3 : (kp.length : Int) ≤ 60 := by omega
    have g4 : (0 : Int) ≤ (s : Int) := by omega
    clear hg
    go_enter Try.func4, Try.ntmps4
    go_wp2_with fail
    refine (alive_any _).mono ?_; rintro e w1 ⟨rfl, hb1⟩
    go_wp2_with fail
    refine (hd_new hb1 1).mono ?_; rintro e w2 ⟨rfl, h2, _⟩
    rw [show many 1 = 1 from rfl] at h2
    replace h2 := h2.mono (C' := fun _ => False) (fun _ t => t.elim)
    generalize w1.heap.size = p at *
    have hst := s1_start 1 (by decide)
    generalize Dk.new 1 = D0 at *
    replace h2 := Lib.hid h2
    replace hst := Lib.hid hst
    clear hb1
    obtain ⟨a, ha1, ha2⟩ : ∃ a : Nat, (s : Int) % ((n : Int) + 1) = a ∧ a ≤ n := by
      refine ⟨s % (n + 1), by simp, ?_⟩
      have := Nat.mod_lt s (show 0 < n + 1 by omega)
      omega
    go_upto_region 8 with fail
    rw [ha1]
    clear ha1
    go_loopw [9, 11] (fun wt j wr => ∃ (i : Nat) (c : Int) (D : Dk), i ≤ n ∧ j = .int .i64 i ∧ wt = .int .u8 c ∧ Hd w wr p D (fun _ => False) ∧ (i ≤ a ∧ c = i ∧ S1 1 i D [(i : Int)] ∨ a < i ∧ c = a ∧ B1 a (i - a) D)) (fun _ j _ => n - (intOf j).toNat)
    case atStart => exact ⟨0, 0, D0, by omega, rfl, rfl, h2.out, .inl ⟨by omega, rfl, hst.out⟩⟩
    clear h2 hst
    case round =>
      obtain ⟨i, c, D, hi, rfl, rfl, hd, hcase⟩ := hrel
      by_cases hlt : i < n
      · have q1 : (i : Int) < (n : Int) := by omega
        have q4 : IntKind.i64.wrap ((i : Int) + 1) = i + 1 := IntWalk.i64_in _ (by omega)
        have q6 : IntKind.u8.wrap ((i : Int) + 1) = i + 1 := IntWalk.u8_in _ (by omega)
        rcases hcase with ⟨hia, rfl, st⟩ | ⟨hia, rfl, st⟩
        · by_cases hia2 : i = a
          · subst hia2
            have q3 : ¬ (i : Int) < (i : Int) := by omega
            obtain ⟨e2, st2⟩ := b_start st
            have kS := Lib.hid (hd_sync hd st.ok)
            rw [e2] at kS
            obtain ⟨y1, y2⟩ := b_write st2
            simp only [Int.natCast_zero, Int.add_zero] at y1 y2
            have hw1 : D.sync.1.written ≤ 1000000000000 := by have := st2.written; omega
            have hu1 : D.sync.1.uns.length ≤ 1000000 := by rw [st2.uns]; simp
            have kW := Lib.hid (fun W C (hW : Hd w W p D.sync.1 C) v hv hC => hd_write hW st2.ok 0 (v := v) (bs := fillL 64 ((i : Int) + 1)) hv hC hw1 hu1)
            rw [y1] at kW
            replace y2 := Lib.hid y2
            generalize D.sync.1 = D1 at *
            generalize (D1.write 0 (fillL 64 ((i : Int) + 1))).1 = D' at *
            clear st hd e2 y1 st2 hw1 hu1
            go_wp2_with fail
            refine kS.out.mono ?_; rintro e w3 ⟨rfl, hd, _⟩
            replace hd := Lib.hid hd
            go_wp2_with fail
            refine (fill_good _ _).mono ?_; rintro e w4 ⟨A4, c4, rfl, ho4, hb4, hc4⟩
            have h4 := hd.out.client hb4
            have hv4 := ho4.view
            go_wp2_with fail
            refine (kW.out w4 _ h4 _ hv4 (fun b e => .inr (hc4 b e))).mono ?_; rintro e w5 ⟨rfl, h5, _⟩
            replace h5 := Lib.hid (h5.mono (C' := fun _ => False) (fun b e => .inl e))
            clear h4 hv4 ho4 hb4 hc4 kW hd
            go_wp2_with fail
            go_roundw
            case rel => exact ⟨i + 1, (i : Int), D', by omega, by go_num, rfl, h5.out, .inr ⟨by omega, rfl, by rw [show i + 1 - i = 0 + 1 by omega]; exact y2.out⟩⟩
            case measure => simp [intOf]; omega
          · have q2 : ((i : Int) == (a : Int)) = false := beq_eq_false_iff_ne.2 (by omega)
            have q3 : (i : Int) < (a : Int) := by omega
            have hw1 : D.written ≤ 1000000000000 := by have := st.written; omega
            have hu1 : D.uns.length ≤ 1000000 := by have := st.uns; omega
            obtain ⟨y1, y2⟩ : (D.write 0 (fillL 64 ((i : Int) + 1))).2 = true ∧ S1 1 (i + 1) (D.write 0 (fillL 64 ((i : Int) + 1))).1 [(i : Int) + 1] := s1_write st 0 (by decide) ((i : Int) + 1)
            have kW := Lib.hid (fun W C (hW : Hd w W p D C) v hv hC => hd_write hW st.ok 0 (v := v) (bs := fillL 64 ((i : Int) + 1)) hv hC hw1 hu1)
            rw [y1] at kW
            replace y2 := Lib.hid y2
            generalize (D.write 0 (fillL 64 ((i : Int) + 1))).1 = D' at *
            clear st y1 hw1 hu1
            replace hd := Lib.hid hd
            go_wp2_with fail
            refine (fill_good _ _).mono ?_; rintro e w4 ⟨A4, c4, rfl, ho4, hb4, hc4⟩
            have h4 := hd.out.client hb4
            have hv4 := ho4.view
            go_wp2_with fail
            refine (kW.out w4 _ h4 _ hv4 (fun b e => .inr (hc4 b e))).mono ?_; rintro e w5 ⟨rfl, h5, _⟩
            replace h5 := Lib.hid (h5.mono (C' := fun _ => False) (fun b e => .inl e))
            clear h4 hv4 ho4 hb4 hc4 kW hd
            go_wp2_with fail
            go_roundw
            case rel => exact ⟨i + 1, (i : Int) + 1, D', by omega, by go_num, rfl, h5.out, .inl ⟨by omega, by omega, y2.out⟩⟩
            case measure => simp [intOf]; omega
        · have q2 : ((i : Int) == (a : Int)) = false := beq_eq_false_iff_ne.2 (by omega)
          have q3 : ¬ (i : Int) < (a : Int) := by omega
          have hw1 : D.written ≤ 1000000000000 := by have := st.written; omega
          have hu1 : D.uns.length ≤ 1000000 := by rw [st.uns, List.length_map, List.length_range]; omega
          obtain ⟨y1, y2⟩ := b_write st
          have e3 : (a : Int) + ((i - a : Nat) : Int) + 1 = (i : Int) + 1 := by omega
          rw [e3] at y1 y2
          have kW := Lib.hid (fun W C (hW : Hd w W p D C) v hv hC => hd_write hW st.ok 0 (v := v) (bs := fillL 64 ((i : Int) + 1)) hv hC hw1 hu1)
          rw [y1] at kW
          replace y2 := Lib.hid y2
          generalize (D.write 0 (fillL 64 ((i : Int) + 1))).1 = D' at *
          clear st y1 hw1 hu1 e3
          replace hd := Lib.hid hd
          go_wp2_with fail
          refine (fill_good _ _).mono ?_; rintro e w4 ⟨A4, c4, rfl, ho4, hb4, hc4⟩
          have h4 := hd.out.client hb4
          have hv4 := ho4.view
          go_wp2_with fail
          refine (kW.out w4 _ h4 _ hv4 (fun b e => .inr (hc4 b e))).mono ?_; rintro e w5 ⟨rfl, h5, _⟩
          replace h5 := Lib.hid (h5.mono (C' := fun _ => False) (fun b e => .inl e))
          clear h4 hv4 ho4 hb4 hc4 kW hd
          go_wp2_with fail
          go_roundw
          case rel => exact ⟨i + 1, (a : Int), D', by omega, by go_num, rfl, h5.out, .inr ⟨by omega, rfl, by rw [show i + 1 - a = i - a + 1 by omega]; exact y2.out⟩⟩
          case measure => simp [intOf]; omega
      · have q1 : ¬ (i : Int) < (n : Int) := by omega
        obtain rfl : n = i := by omega
        rcases hcase with ⟨hia, rfl, st⟩ | ⟨hia, rfl, st⟩
        · obtain rfl : n = a := by omega
          obtain ⟨e2, st2⟩ := b_start st
          have kS := Lib.hid (hd_sync hd st.ok)
          rw [e2] at kS
          have st3 : B1 n (n - n) D.sync.1 := by rw [Nat.sub_self]; exact st2
          generalize D.sync.1 = D1 at *
          clear st hd e2 st2
          go_wp2_with fail
          refine kS.out.mono ?_; rintro e w5 ⟨rfl, hd, _⟩
          have st := st3
          clear st3 kS
          go_upto_region 19 with fail
          have hsure := st.sure
          have hcr := fun c (hc : settleN kp D1.uns D1.sure (n - n) = [fillL 64 c]) => b_crash (kp := kp) st hc
          replace hcr := Lib.hid hcr
          have hput := Lib.hid (fun t c (ht : t < n - n) hc hk => b_put (kp := kp) (t := t) (c := c) st ht hc hk)
          have hok := st.ok
          have hu1 : D1.uns.length ≤ 1000000 := by rw [st.uns, List.length_map, List.length_range]; omega
          replace st := Lib.hid st
          replace hd := Lib.hid hd
          go_loopw [9, 12] (fun wt j wr => ∃ (t : Nat) (c : Int), t ≤ n - n ∧ 0 ≤ c ∧ c < 256 ∧ j = .int .i64 ((n + t : Nat) : Int) ∧ wt = .int .u8 c ∧ settleN kp D1.uns D1.sure t = [fillL 64 c] ∧ Hd w wr p D1 (fun _ => False)) (fun _ j _ => n - (intOf j).toNat)
          case atStart => exact ⟨0, (n : Int), by omega, by omega, by omega, by simp, rfl, hsure, hd.out⟩
          clear hd
          case round =>
            obtain ⟨t, c, ht, hc0, hc1, rfl, rfl, hse, hd⟩ := hrel
            by_cases hlt : t < n - n
            · have q1 : ((n + t : Nat) : Int) < (n : Int) := by omega
              have q2 : ((n + t : Nat) : Int) - (n : Int) = (t : Int) := by omega
              have q3 : IntKind.i64.wrap (((n + t : Nat) : Int) - (n : Int)) = (t : Int) := by rw [q2]; exact IntWalk.i64_in _ (by omega)
              have q4 : IntKind.i64.wrap (((n + t : Nat) : Int) + 1) = (n : Int) + t + 1 := by rw [IntWalk.i64_in _ (by omega)]; omega
              have q5 : IntKind.u8.wrap ((n : Int) + t + 1) = (n : Int) + t + 1 := IntWalk.u8_in _ (by omega)
              have hwit : ∃ N : Nat, N = n + t := ⟨_, rfl⟩
              obtain ⟨N, hN⟩ := hwit
              rw [← hN] at q1 q2 q3 q4 ⊢
              by_cases hk1 : t < kp.length
              · have q7 : (t : Int) < (kp.length : Int) := by omega
                have hvk := View.below hk.out hd.acc
                obtain ⟨bk, ok, ck', e, _, _, hbl, fk⟩ := hvk.at_ (by omega)
                injection e with e1 e2 e3
                subst e1 e3
                have lk : wr.cell? ⟨bk, ok + t, none⟩ = some (.bool kp[t]) := fk t _ (by simp [List.getElem?_eq_getElem hk1])
                have hkk : kp[t]? = some kp[t] := List.getElem?_eq_getElem hk1
                clear fk hvk
                cases hbb : kp[t] with
                | false =>
                  rw [hbb] at lk hkk
                  have hse2 := Lib.hid ((settleN_skip (kp := kp) (U := D1.uns) (S := D1.sure) (i := t) (by rw [hkk]; simp)).trans hse)
                  replace hd := Lib.hid hd
                  replace hN := Lib.hid hN
                  clear hbb hkk hse q2 q4 q5
                  go_wp2_with fail
                  go_roundw
                  case rel => exact ⟨t + 1, c, by omega, hc0, hc1, by have := hN.out; subst this; go_num, rfl, hse2.out, hd.out⟩
                  case measure => have := hN.out; simp [intOf]; omega
                | true =>
                  rw [hbb] at lk hkk
                  have hse2 := Lib.hid (hput.out t c hlt hse hkk)
                  replace hd := Lib.hid hd
                  replace hN := Lib.hid hN
                  clear hbb hkk hse q2
                  go_wp2_with fail
                  go_roundw
                  case rel => exact ⟨t + 1, (n : Int) + t + 1, by omega, by omega, by omega, by have := hN.out; subst this; go_num, rfl, hse2.out, hd.out⟩
                  case measure => have := hN.out; simp [intOf]; omega
              · have q7 : ¬ (t : Int) < (kp.length : Int) := by omega
                have hse2 := Lib.hid ((settleN_skip (kp := kp) (U := D1.uns) (S := D1.sure) (i := t) (by rw [List.getElem?_eq_none (by omega)]; simp)).trans hse)
                replace hd := Lib.hid hd
                replace hN := Lib.hid hN
                clear hse q2 q4 q5
                go_wp2_with fail
                go_roundw
                case rel => exact ⟨t + 1, c, by omega, hc0, hc1, by have := hN.out; subst this; go_num, rfl, hse2.out, hd.out⟩
                case measure => have := hN.out; simp [intOf]; omega
            · obtain rfl : t = n - n := by omega
              have q1 : ¬ ((n + (n - n) : Nat) : Int) < (n : Int) := by omega
              obtain ⟨hok3, hrd⟩ := hcr.out c hse
              have hvk := View.below hk.out hd.acc
              have kC := Lib.hid (hd_crash hd hok (kp := kp) hvk (fun hne b e => .inr (by
                obtain ⟨b', o', c', e', _, _, hb', _⟩ := hk.out.at_ (by have := List.length_pos_iff.2 hne; omega)
                injection e' with e1 e2 e3
                subst e1
                injection e with e
                subst e
                exact hb')) (by omega) hu1)
              generalize D1.crash kp = D3 at *
              clear hd hvk hse
              go_wp2_with fail
              refine kC.out.mono ?_; rintro e w6 ⟨rfl, hd6, _⟩
              have kR := Lib.hid (fun W (hW : Below w6.heap.size w6 W) => read_good (hd6.below hW) hok3 0 hrd)
              have hacc : Below w6.heap.size w6 w6.drew := Below.drew (Below.refl _ _)
              replace hd6 := Lib.hid hd6
              clear kC
              go_wp2_with fail
              refine tl_begin (fun (w' : World) => True) [] (by kernel_rfl) (trivial) (fun hHeld => ?_)
              refine tl_p (i := 0) (v := ?_) rfl (by rfl) (by kernel_rfl) (by kernel_rfl) (by kernel_rfl) (fun _ _ _ h => h) (by rfl) hHeld ?_ ?_
              rotate_left
              · intro w
                go_simp
                try (with_reducible rfl)
              try simp only [Act.put, List.setIfInBounds_toArray, List.set_cons_zero, List.set_cons_succ]
              refine tl_p (i := 3) (v := ?_) rfl (by rfl) (by kernel_rfl) (by kernel_rfl) (by kernel_rfl) (fun _ _ _ h => h) (by rfl) hHeld ?_ ?_
              rotate_left
              · intro w
                go_simp
                try (with_reducible rfl)
              try simp only [Act.put, List.setIfInBounds_toArray, List.set_cons_zero, List.set_cons_succ]
              refine tl_do (i := 1) rfl (by kernel_rfl) (by rfl) (fun K hK => ?_)
              go_simp
              go_at_call 21
              refine (kR.out _ hacc).mono ?_; rintro e w2 ⟨A2, c2, rfl, hv2, hb2⟩
              replace hacc := below_then hacc hb2
              try go_wp2_with fail
              refine hK.out _ _ (trivial) (fun hHeld1 => ?_)
              clear hK K hHeld
              have hHeld := hHeld1
              clear hHeld1
              try simp only [Act.put, List.setIfInBounds_toArray, List.set_cons_zero, List.set_cons_succ]
              refine till_more (fun w' => VB w' (.slice A2 64 c2) (fillL 64 c)) ?_
              replace hHeld := And.intro hHeld hv2
              refine tl_w (i := 2) (v := ?_) rfl (by rfl) (by kernel_rfl) (by kernel_rfl) (by kernel_rfl) (by kernel_rfl) (by kernel_rfl) (fun _ _ _ h => h) (by rfl) hHeld ?_ ?_
              rotate_left
              · intro w hSw
                have hc := conv_any w _ _ hSw.2
                clear hSw
                go_simp
                try (with_reducible rfl)
              try simp only [Act.put, List.setIfInBounds_toArray, List.set_cons_zero, List.set_cons_succ]
              refine tl_do (i := 4) rfl (by kernel_rfl) (by rfl) (fun K hK => ?_)
              go_simp
              go_at_call 18
              refine (fill_good _ _).mono ?_; rintro e w4 ⟨A4, c4, rfl, ho4, hb4, hc4⟩
              have hv4 := ho4.view
              replace hacc := below_then hacc hb4
              replace hv2 := View.below hv2 hb4
              try go_wp2_with fail
              refine hK.out _ _ (⟨trivial, hv2⟩) (fun hHeld1 => ?_)
              clear hK K hHeld
              have hHeld := hHeld1
              clear hHeld1
              try simp only [Act.put, List.setIfInBounds_toArray, List.set_cons_zero, List.set_cons_succ]
              refine till_more (fun w' => VB w' (.slice A4 64 c4) (fillL 64 c)) ?_
              replace hHeld := And.intro hHeld hv4
              refine tl_w (i := 5) (v := ?_) rfl (by rfl) (by kernel_rfl) (by kernel_rfl) (by kernel_rfl) (by kernel_rfl) (by kernel_rfl) (fun _ _ _ h => h) (by rfl) hHeld ?_ ?_
              rotate_left
              · intro w hSw
                have hc := conv_any w _ _ hSw.2
                clear hSw
                go_simp
                try (with_reducible rfl)
              try simp only [Act.put, List.setIfInBounds_toArray, List.set_cons_zero, List.set_cons_succ]
              refine tl_p (i := 6) (v := ?_) rfl (by rfl) (by kernel_rfl) (by kernel_rfl) (by kernel_rfl) (fun _ _ _ h => h) (by rfl) hHeld ?_ ?_
              rotate_left
              · intro w
                go_simp
                try (with_reducible rfl)
              try simp only [Act.put, List.setIfInBounds_toArray, List.set_cons_zero, List.set_cons_succ]
              refine tl_p (i := 7) (v := ?_) rfl (by rfl) (by kernel_rfl) (by kernel_rfl) (by kernel_rfl) (fun _ _ _ h => h) (by rfl) hHeld ?_ ?_
              rotate_left
              · intro w
                go_simp
                try (with_reducible rfl)
              try simp only [Act.put, List.setIfInBounds_toArray, List.set_cons_zero, List.set_cons_succ]
              refine till_done (by kernel_rfl) ?_ _
              have hd5 := Lib.hid (hd6.out.below hacc)
              clear hHeld hv2 hv4 ho4 hacc
              go_wp2_with fail
              go_ret
              exact ⟨rfl, hd5.out.acc⟩
        · have q2 : ((a : Int) == (n : Int)) = false := beq_eq_false_iff_ne.2 (by omega)
          replace hd := Lib.hid hd
          replace st := Lib.hid st
          go_upto_region 18 with fail
          replace hd := hd.out
          replace st := st.out
          go_upto_region 19 with fail
          have hsure := st.sure
          have hcr := fun c (hc : settleN kp D.uns D.sure (n - a) = [fillL 64 c]) => b_crash (kp := kp) st hc
          replace hcr := Lib.hid hcr
          have hput := Lib.hid (fun t c (ht : t < n - a) hc hk => b_put (kp := kp) (t := t) (c := c) st ht hc hk)
          have hok := st.ok
          have hu1 : D.uns.length ≤ 1000000 := by rw [st.uns, List.length_map, List.length_range]; omega
          replace st := Lib.hid st
          replace hd := Lib.hid hd
          go_loopw [9, 12] (fun wt j wr => ∃ (t : Nat) (c : Int), t ≤ n - a ∧ 0 ≤ c ∧ c < 256 ∧ j = .int .i64 ((a + t : Nat) : Int) ∧ wt = .int .u8 c ∧ settleN kp D.uns D.sure t = [fillL 64 c] ∧ Hd w wr p D (fun _ => False)) (fun _ j _ => n - (intOf j).toNat)
          case atStart => exact ⟨0, (a : Int), by omega, by omega, by omega, by simp, rfl, hsure, hd.out⟩
          clear hd
          case round =>
            obtain ⟨t, c, ht, hc0, hc1, rfl, rfl, hse, hd⟩ := hrel
            by_cases hlt : t < n - a
            · have q1 : ((a + t : Nat) : Int) < (n : Int) := by omega
              have q2 : ((a + t : Nat) : Int) - (a : Int) = (t : Int) := by omega
              have q3 : IntKind.i64.wrap (((a + t : Nat) : Int) - (a : Int)) = (t : Int) := by rw [q2]; exact IntWalk.i64_in _ (by omega)
              have q4 : IntKind.i64.wrap (((a + t : Nat) : Int) + 1) = (a : Int) + t + 1 := by rw [IntWalk.i64_in _ (by omega)]; omega
              have q5 : IntKind.u8.wrap ((a : Int) + t + 1) = (a : Int) + t + 1 := IntWalk.u8_in _ (by omega)
              have hwit : ∃ N : Nat, N = a + t := ⟨_, rfl⟩
              obtain ⟨N, hN⟩ := hwit
              rw [← hN] at q1 q2 q3 q4 ⊢
              by_cases hk1 : t < kp.length
              · have q7 : (t : Int) < (kp.length : Int) := by omega
                have hvk := View.below hk.out hd.acc
                obtain ⟨bk, ok, ck', e, _, _, hbl, fk⟩ := hvk.at_ (by omega)
                injection e with e1 e2 e3
                subst e1 e3
                have lk : wr.cell? ⟨bk, ok + t, none⟩ = some (.bool kp[t]) := fk t _ (by simp [List.getElem?_eq_getElem hk1])
                have hkk : kp[t]? = some kp[t] := List.getElem?_eq_getElem hk1
                clear fk hvk
                cases hbb : kp[t] with
                | false =>
                  rw [hbb] at lk hkk
                  have hse2 := Lib.hid ((settleN_skip (kp := kp) (U := D.uns) (S := D.sure) (i := t) (by rw [hkk]; simp)).trans hse)
                  replace hd := Lib.hid hd
                  replace hN := Lib.hid hN
                  clear hbb hkk hse q2 q4 q5
                  go_wp2_with fail
                  go_roundw
                  case rel => exact ⟨t + 1, c, by omega, hc0, hc1, by have := hN.out; subst this; go_num, rfl, hse2.out, hd.out⟩
                  case measure => have := hN.out; simp [intOf]; omega
                | true =>
                  rw [hbb] at lk hkk
                  have hse2 := Lib.hid (hput.out t c hlt hse hkk)
                  replace hd := Lib.hid hd
                  replace hN := Lib.hid hN
                  clear hbb hkk hse q2
                  go_wp2_with fail
                  go_roundw
                  case rel => exact ⟨t + 1, (a : Int) + t + 1, by omega, by omega, by omega, by have := hN.out; subst this; go_num, rfl, hse2.out, hd.out⟩
                  case measure => have := hN.out; simp [intOf]; omega
              · have q7 : ¬ (t : Int) < (kp.length : Int) := by omega
                have hse2 := Lib.hid ((settleN_skip (kp := kp) (U := D.uns) (S := D.sure) (i := t) (by rw [List.getElem?_eq_none (by omega)]; simp)).trans hse)
                replace hd := Lib.hid hd
                replace hN := Lib.hid hN
                clear hse q2 q4 q5
                go_wp2_with fail
                go_roundw
                case rel => exact ⟨t + 1, c, by omega, hc0, hc1, by have := hN.out; subst this; go_num, rfl, hse2.out, hd.out⟩
                case measure => have := hN.out; simp [intOf]; omega
            · obtain rfl : t = n - a := by omega
              have q1 : ¬ ((a + (n - a) : Nat) : Int) < (n : Int) := by omega
              obtain ⟨hok3, hrd⟩ := hcr.out c hse
              have hvk := View.below hk.out hd.acc
              have kC := Lib.hid (hd_crash hd hok (kp := kp) hvk (fun hne b e => .inr (by
                obtain ⟨b', o', c', e', _, _, hb', _⟩ := hk.out.at_ (by have := List.length_pos_iff.2 hne; omega)
                injection e' with e1 e2 e3
                subst e1
                injection e with e
                subst e
                exact hb')) (by omega) hu1)
              generalize D.crash kp = D3 at *
              clear hd hvk hse
              go_wp2_with fail
              refine kC.out.mono ?_; rintro e w6 ⟨rfl, hd6, _⟩
              have kR := Lib.hid (fun W (hW : Below w6.heap.size w6 W) => read_good (hd6.below hW) hok3 0 hrd)
              have hacc : Below w6.heap.size w6 w6.drew := Below.drew (Below.refl _ _)
              replace hd6 := Lib.hid hd6
              clear kC
              go_wp2_with fail
              refine tl_begin (fun (w' : World) => True) [] (by kernel_rfl) (trivial) (fun hHeld => ?_)
              refine tl_p (i := 0) (v := ?_) rfl (by rfl) (by kernel_rfl) (by kernel_rfl) (by kernel_rfl) (fun _ _ _ h => h) (by rfl) hHeld ?_ ?_
              rotate_left
              · intro w
                go_simp
                try (with_reducible rfl)
              try simp only [Act.put, List.setIfInBounds_toArray, List.set_cons_zero, List.set_cons_succ]
              refine tl_p (i := 3) (v := ?_) rfl (by rfl) (by kernel_rfl) (by kernel_rfl) (by kernel_rfl) (fun _ _ _ h => h) (by rfl) hHeld ?_ ?_
              rotate_left
              · intro w
                go_simp
                try (with_reducible rfl)
              try simp only [Act.put, List.setIfInBounds_toArray, List.set_cons_zero, List.set_cons_succ]
              refine tl_do (i := 1) rfl (by kernel_rfl) (by rfl) (fun K hK => ?_)
              go_simp
              go_at_call 21
              refine (kR.out _ hacc).mono ?_; rintro e w2 ⟨A2, c2, rfl, hv2, hb2⟩
              replace hacc := below_then hacc hb2
              try go_wp2_with fail
              refine hK.out _ _ (trivial) (fun hHeld1 => ?_)
              clear hK K hHeld
              have hHeld := hHeld1
              clear hHeld1
              try simp only [Act.put, List.setIfInBounds_toArray, List.set_cons_zero, List.set_cons_succ]
              refine till_more (fun w' => VB w' (.slice A2 64 c2) (fillL 64 c)) ?_
              replace hHeld := And.intro hHeld hv2
              refine tl_w (i := 2) (v := ?_) rfl (by rfl) (by kernel_rfl) (by kernel_rfl) (by kernel_rfl) (by kernel_rfl) (by kernel_rfl) (fun _ _ _ h => h) (by rfl) hHeld ?_ ?_
              rotate_left
              · intro w hSw
                have hc := conv_any w _ _ hSw.2
                clear hSw
                go_simp
                try (with_reducible rfl)
              try simp only [Act.put, List.setIfInBounds_toArray, List.set_cons_zero, List.set_cons_succ]
              refine tl_do (i := 4) rfl (by kernel_rfl) (by rfl) (fun K hK => ?_)
              go_simp
              go_at_call 18
              refine (fill_good _ _).mono ?_; rintro e w4 ⟨A4, c4, rfl, ho4, hb4, hc4⟩
              have hv4 := ho4.view
              replace hacc := below_then hacc hb4
              replace hv2 := View.below hv2 hb4
              try go_wp2_with fail
              refine hK.out _ _ (⟨trivial, hv2⟩) (fun hHeld1 => ?_)
              clear hK K hHeld
              have hHeld := hHeld1
              clear hHeld1
              try simp only [Act.put, List.setIfInBounds_toArray, List.set_cons_zero, List.set_cons_succ]
              refine till_more (fun w' => VB w' (.slice A4 64 c4) (fillL 64 c)) ?_
              replace hHeld := And.intro hHeld hv4
              refine tl_w (i := 5) (v := ?_) rfl (by rfl) (by kernel_rfl) (by kernel_rfl) (by kernel_rfl) (by kernel_rfl) (by kernel_rfl) (fun _ _ _ h => h) (by rfl) hHeld ?_ ?_
              rotate_left
              · intro w hSw
                have hc := conv_any w _ _ hSw.2
                clear hSw
                go_simp
                try (with_reducible rfl)
              try simp only [Act.put, List.setIfInBounds_toArray, List.set_cons_zero, List.set_cons_succ]
              refine tl_p (i := 6) (v := ?_) rfl (by rfl) (by kernel_rfl) (by kernel_rfl) (by kernel_rfl) (fun _ _ _ h => h) (by rfl) hHeld ?_ ?_
              rotate_left
              · intro w
                go_simp
                try (with_reducible rfl)
              try simp only [Act.put, List.setIfInBounds_toArray, List.set_cons_zero, List.set_cons_succ]
              refine tl_p (i := 7) (v := ?_) rfl (by rfl) (by kernel_rfl) (by kernel_rfl) (by kernel_rfl) (fun _ _ _ h => h) (by rfl) hHeld ?_ ?_
              rotate_left
              · intro w
                go_simp
                try (with_reducible rfl)
              try simp only [Act.put, List.setIfInBounds_toArray, List.set_cons_zero, List.set_cons_succ]
              refine till_done (by kernel_rfl) ?_ _
              have hd5 := Lib.hid (hd6.out.below hacc)
              clear hHeld hv2 hv4 ho4 hacc
              go_wp2_with fail
              go_ret
              exact ⟨rfl, hd5.out.acc⟩

theorem sectorsLast_walk (W : World) (n : Int) (_ : (Lit.int .i64 n).wf = true) (Ak : Option Addr) (nk ck : Nat) (kp : (Kd.sl 4 .bool).T) (zk : Rd Try.prog W (.sl 4 .bool) [.slice Ak nk ck] kp) (sync : Int) (_ : (Lit.int .i64 sync).wf = true) :
    Calls Try.prog 4 #[.int .i64 n, .slice Ak nk ck, .int .i64 sync] W fun e w' => e = .returned (.bool true) ∧ Below W.heap.size W w' := by
  obtain ⟨rfl, hk⟩ := vb_of_rd zk
  exact last_core W n sync Ak ck kp hk
end Go.Proofs.Ytbfcaapompkjhaa
