/-
  LogRoom: its walk.
-/
import Derived.Test.YtbfcaapompkjhaaHi
import Derived.Test.YtbfcaapompkjhaaGh
set_option linter.unusedVariables false
set_option linter.unusedSimpArgs false
namespace Go.Proofs.Ytbfcaapompkjhaa
open Go.RowKit Go.Proofs.PosteMem Go.Proofs.PosteOpen
attribute [local go_sem ↓] Go.wp_at_zero Go.wp_at_succ

/-- A log of which k records were tried, over a whole disk of N sectors. -/
structure Rm (D : Dk) (g : Lg) (N k : Nat) : Prop where
  free : Free D
  len : D.now.length = N
  uns : D.uns = []
  few : D.written ≤ 10 * k
  en : g.en = N
  nx0 : 0 ≤ g.nx
  nx1 : g.nx ≤ N
  ok : g.failed = false
  recs : g.recs.length ≤ k
  short : ∀ b ∈ g.recs, b.length ≤ 10000
theorem Rm.small {D : Dk} {g : Lg} {N k : Nat} (h : Rm D g N k) (hN : N ≤ 1000) (hk : k ≤ 1000) : Small g := ⟨by rw [h.en]; omega, by rw [h.en]; omega, h.nx0, by have := h.nx1; omega, by have := h.recs; omega⟩
theorem Rm.next {D : Dk} {g : Lg} {N k : Nat} (h : Rm D g N k) {b : List Int} (hb : b.length ≤ 127) (hfit : fitsB g.en g.nx b.length = true) : Rm (lputD D g b) (g.with b b.length) N (k + 1) := by
  have P := lput_facts h.free h.nx0 hfit (by rw [h.en, h.len]; omega) (by omega)
  obtain ⟨f1, f2⟩ := fitsB_iff.1 hfit
  have hn := needI_nn (n := (b.length : Int))
  have h2 := h.few
  have h3 := P.few
  have h4 : need b.length ≤ 2 := by unfold need; omega
  have h5 := h.en
  have h6 := h.nx0
  refine ⟨P.free, by rw [P.len, h.len], P.uns, by omega, h.en, ?_, ?_, h.ok, ?_, fun b' hb' => ?_⟩
  · unfold Lg.with; simp only; omega
  · unfold Lg.with; simp only; omega
  · unfold Lg.with; simp only [List.length_append, List.length_singleton]; have := h.recs; omega
  · unfold Lg.with at hb'
    simp only at hb'
    rcases List.mem_append.1 hb' with hb' | hb'
    · exact h.short b' hb'
    · rw [List.mem_singleton] at hb'; subst hb'; omega
theorem Rm.skip {D : Dk} {g : Lg} {N k : Nat} (h : Rm D g N k) : Rm D g N (k + 1) := ⟨h.free, h.len, h.uns, by have := h.few; omega, h.en, h.nx0, h.nx1, h.ok, by have := h.recs; omega, h.short⟩

set_option maxRecDepth 100000 in
set_option maxHeartbeats 8000000 in
theorem room_core (w : World) (n more : Int) (A : Option Addr) (cap : Nat) (l : List Int) (h : View w 1 (.slice A l.length cap) l.length (l.map (.int .i64))) :
    Calls Try.prog 13 #[.int .i64 n, .slice A l.length cap, .int .i64 more] w fun e w' => e = .returned (.bool true) ∧ Below w.heap.size w w' := by
  obtain ⟨j0, hj0, hy0, hy1, hy2⟩ := info_parts infoByte
  replace h := Lib.hid h
  have hcases : n < 2 ∨ (2 ≤ n ∧ 50 < n) ∨ (2 ≤ n ∧ n ≤ 50 ∧ 10 < l.length) ∨ (2 ≤ n ∧ n ≤ 50 ∧ l.length ≤ 10 ∧ more < 0) ∨ (2 ≤ n ∧ n ≤ 50 ∧ l.length ≤ 10 ∧ 0 ≤ more ∧ 5 < more) ∨ (2 ≤ n ∧ n ≤ 50 ∧ l.length ≤ 10 ∧ 0 ≤ more ∧ more ≤ 5) := by omega
  rcases hcases with g1 | ⟨g1, g2⟩ | ⟨g1, g2, g3⟩ | ⟨g1, g2, g3, g4⟩ | ⟨g1, g2, g3, g4, g5⟩ | ⟨g1, g2, g3, g4, g5⟩
  · go_enter Try.func13, Try.ntmps13
    go_wp2_with fail
    refine (alive5 _).mono ?_; rintro e w1 ⟨rfl, hb1⟩
    go_wp2
    go_ret
    exact ⟨rfl, hb1⟩
  · have q1 : ¬ n < 2 := by omega
    go_enter Try.func13, Try.ntmps13
    go_wp2_with fail
    refine (alive5 _).mono ?_; rintro e w1 ⟨rfl, hb1⟩
    go_wp2
    go_ret
    exact ⟨rfl, hb1⟩
  · have q1 : ¬ n < 2 := by omega
    have q2 : ¬ 50 < n := by omega
    have q3 : (10 : Int) < (l.length : Int) := by omega
    go_enter Try.func13, Try.ntmps13
    go_wp2_with fail
    refine (alive5 _).mono ?_; rintro e w1 ⟨rfl, hb1⟩
    go_wp2
    go_ret
    exact ⟨rfl, hb1⟩
  · have q1 : ¬ n < 2 := by omega
    have q2 : ¬ 50 < n := by omega
    have q3 : ¬ (10 : Int) < (l.length : Int) := by omega
    go_enter Try.func13, Try.ntmps13
    go_wp2_with fail
    refine (alive5 _).mono ?_; rintro e w1 ⟨rfl, hb1⟩
    go_wp2
    go_ret
    exact ⟨rfl, hb1⟩
  · have q1 : ¬ n < 2 := by omega
    have q2 : ¬ 50 < n := by omega
    have q3 : ¬ (10 : Int) < (l.length : Int) := by omega
    have q4 : ¬ more < 0 := by omega
    go_enter Try.func13, Try.ntmps13
    go_wp2_with fail
    refine (alive5 _).mono ?_; rintro e w1 ⟨rfl, hb1⟩
    go_wp2
    go_ret
    exact ⟨rfl, hb1⟩
  obtain ⟨N, rfl⟩ : ∃ N : Nat, n = N := ⟨n.toNat, by omega⟩
  obtain ⟨M, rfl⟩ : ∃ M : Nat, more = M := ⟨more.toNat, by omega⟩
  have hN1 : 2 ≤ N := by omega
  have hN2 : N ≤ 50 := by omega
  have hM : M ≤ 5 := by omega
  have q1 : ¬ (N : Int) < 2 := by omega
  have q2 : ¬ (50 : Int) < (N : Int) := by omega
  have q3 : ¬ (10 : Int) < (l.length : Int) := by omega
  have q4 : ¬ (M : Int) < 0 := by omega
  have q5 : ¬ (5 : Int) < (M : Int) := by omega
  have hmany : many (N : Int) = N := by unfold many; rw [if_neg (by omega), if_neg (by omega), Int.toNat_natCast]
  replace hmany := Lib.hid hmany
  go_enter Try.func13, Try.ntmps13
  go_wp2_with fail
  refine (alive5 _).mono ?_; rintro e w1 ⟨rfl, hb1⟩
  go_wp2_with fail
  refine (hd_new hb1 (N : Int)).mono ?_; rintro e w2 ⟨rfl, hd2, hb2⟩
  rw [hmany.out] at hd2
  have h2' : Hd w w2 w1.heap.size (Dk.new N) (fun _ => False) := hd2.mono (fun _ hh => hh.elim)
  generalize w1.heap.size = p at *
  have kO := open_any h2' (free_new N (by omega)).ok (Fit.new N) 0 N 3 (by decide) (by omega) (by rw [new_len]; omega)
  rw [Int.zero_add] at kO
  replace kO := Lib.hid kO
  clear hd2 hb2 h2'
  go_wp2_with fail
  refine kO.out.mono ?_; rintro e w3 ⟨q, g, rfl, hO, hL, _⟩
  have hno : lnext (Dk.new N) ⟨0, N, 0, 3, [], false⟩ = none := lnext_no fun hh => by
    simp only at hh
    rcases new_read N 0 with h1 | h1
    · rw [h1] at hh; exact head_not_zero _ _ _ hh.symm
    · rw [h1] at hh; exact head_not_nil _ _ _ hh.symm
  obtain rfl := opens_none hO hno
  have hR0 : Rm (Dk.new N) ⟨0, N, 0, 3, [], false⟩ N 0 := ⟨free_new N (by omega), new_len N, rfl, by simp [Dk.new], rfl, by show (0 : Int) ≤ 0; decide, by show (0 : Int) ≤ N; omega, rfl, by simp, fun b hb => by cases hb⟩
  clear kO hO hno
  go_upto_region 9 with fail
  have e1 : decide ((N : Int) < 2) = false := decide_eq_false (by omega)
  have e2 : decide ((50 : Int) < (N : Int)) = false := decide_eq_false (by omega)
  have e3 : decide ((10 : Int) < (l.length : Int)) = false := decide_eq_false (by omega)
  have e4 : decide ((M : Int) < 0) = false := decide_eq_false (by omega)
  have e5 : decide ((5 : Int) < (M : Int)) = false := decide_eq_false (by omega)
  simp only [e1, e2, e3, e4, e5, Bool.or_false]
  clear e1 e2 e3 e4 e5 q1 q2 q3 q4 q5
  go_loopw [10] (fun i wr => ∃ (k : Nat) (D : Dk) (g : Lg), k ≤ l.length ∧ i = .int .i64 k ∧ Lo w wr p q D g (fun _ => False) ∧ Rm D g N k) (fun i _ => l.length - (intOf i).toNat)
  case atStart => exact ⟨0, _, _, by omega, rfl, hL, hR0⟩
  case round =>
    clear hL hR0
    obtain ⟨k, D, g, hk, rfl, hL, hR⟩ := hrel
    by_cases hlt : k < l.length
    · have q1 : (k : Int) < (l.length : Int) := by omega
      obtain ⟨lb, lo, rfl, hll, hlc⟩ := ints_at (View.below h.out hL.acc) k hlt
      have hm0 : ∃ m : Nat, bits .and .i64 (l.getD k 0) 127 = (m : Int) ∧ m ≤ 127 := by
        have e : bits .and .i64 (l.getD k 0) 127 = l.getD k 0 % 128 := Go.Proofs.PosteMem.bits_mask _ 7 (by decide)
        exact ⟨(l.getD k 0 % 128).toNat, by rw [e]; omega, by omega⟩
      obtain ⟨m, hm, hm2⟩ := hm0
      generalize l.getD k 0 = x at *
      have kT := Lib.hid (text5_any wr m 5 (by omega))
      have hSm := hR.small (by omega) (by omega)
      have hbl : (fillL m 5).length ≤ 127 := by rw [fillL_len]; exact hm2
      generalize fillL m 5 = b at *
      replace hL := Lib.hid hL
      have hR' := Lib.hid hR
      clear hR
      go_wp2_with fail
      refine kT.out.mono ?_; rintro e w4 ⟨v4, rfl, ho4, hb4⟩
      have hL4 := hL.out.client hb4
      have hCa := fun x (hx : blockOf v4 = some x) => own_lt ho4 ((block_own v4).symm.trans hx)
      have hv4 := ho4.view
      cases hfit : fitsB g.en g.nx b.length with
      | true =>
        have hR := hR'.out
        have hN := hR.next hbl hfit
        have kA := Lib.hid (lappend_free hL4 hR.free hSm hR.ok hv4 (fun x hx => .inr ⟨(hCa x hx).1, (hCa x hx).2⟩) (by omega) (by have := hR.few; omega) (by rw [hR.uns]; simp) hfit (by rw [hR.en, hR.len]; omega))
        obtain ⟨A4, c4, rfl, _, _, _⟩ := own_shape ho4
        clear hL4 ho4 hv4 hR hfit hSm
        replace hN := Lib.hid hN
        go_wp2_with fail
        refine kA.out.mono ?_; rintro e w5 ⟨rfl, hL5, _, _⟩
        have hL6 := Lib.hid (hL5.mono (K' := fun _ => False) (fun _ hh => hh.elim))
        clear kA hL5
        go_wp2_with fail
        go_roundw
        case rel => exact ⟨k + 1, _, _, by omega, by go_num, hL6.out, hN.out⟩
        case measure => simp [intOf]; omega
      | false =>
        have hR := hR'.out
        have kA := Lib.hid (lappend_no hL4 hSm hR.ok hv4 (by omega) hfit)
        have hN := Lib.hid hR.skip
        obtain ⟨A4, c4, rfl, _, _, _⟩ := own_shape ho4
        clear hL4 ho4 hv4 hR hfit hSm
        go_wp2_with fail
        refine kA.out.mono ?_; rintro e w5 ⟨rfl, hL5, _⟩
        have hL6 := Lib.hid (hL5.mono (K' := fun _ => False) (fun _ hh => hh.elim))
        clear kA hL5
        go_wp2_with fail
        go_roundw
        case rel => exact ⟨k + 1, _, _, by omega, by go_num, hL6.out, hN.out⟩
        case measure => simp [intOf]; omega
    · have q1 : ¬ (k : Int) < (l.length : Int) := by omega
      obtain ⟨v0, hs0, M0, hLa⟩ := hL
      have c2 : wr.cell? ⟨q, 2, none⟩ = some (.int .i64 g.en) := hLa.box.cell 2
      have c3 : wr.cell? ⟨q, 3, none⟩ = some (.int .i64 g.nx) := hLa.box.cell 3
      have hL' := Lib.hid (⟨v0, hs0, M0, hLa⟩ : Lo w wr p q D g (fun _ => False))
      have hen := hR.en
      have hx0 := hR.nx0
      have hx1 := hR.nx1
      have kRm := Lib.hid (room_any wr q g.en g.nx c2 c3 (by omega) (by omega) hx0 (by omega))
      have hRI : roomI g.en g.nx = (if g.en - g.nx - 1 < 0 then 0 else g.en - g.nx - 1) * 64 := rfl
      have hRb : 0 ≤ roomI g.en g.nx ∧ roomI g.en g.nx ≤ 64 * (N : Int) := by rw [hRI]; split <;> omega
      obtain ⟨R, hR1⟩ : ∃ R : Nat, roomI g.en g.nx = R := ⟨(roomI g.en g.nx).toNat, by omega⟩
      rw [hR1] at kRm hRI hRb
      have hcs : (M = 0 ∧ fitsB g.en g.nx ((R + M : Nat) : Int) = true) ∨ (M = 0 ∧ R = 0 ∧ fitsB g.en g.nx ((R + M : Nat) : Int) = false) ∨ (0 < M ∧ fitsB g.en g.nx ((R + M : Nat) : Int) = false) := by
        have hnd := needI_nat (R + M)
        by_cases hM0 : M = 0
        · by_cases hd : 1 ≤ g.en - g.nx
          · left
            refine ⟨hM0, fitsB_iff.2 ⟨hd, ?_⟩⟩
            rw [hnd]
            unfold need
            rw [if_neg (by omega)] at hRI
            omega
          · right; left
            rw [if_pos (by omega)] at hRI
            refine ⟨hM0, by omega, ?_⟩
            rw [Bool.eq_false_iff]
            exact fun hh => hd (fitsB_iff.1 hh).1
        · right; right
          refine ⟨by omega, ?_⟩
          rw [Bool.eq_false_iff]
          intro hh
          obtain ⟨f1, f2⟩ := fitsB_iff.1 hh
          rw [hnd] at f2
          rw [if_neg (by omega)] at hRI
          unfold need at f2
          omega
      have hSm := hR.small (by omega) (by omega)
      replace hRI := Lib.hid hRI
      have hR' := Lib.hid hR
      have q2 : ¬ (R : Int) < 0 := by omega
      have q3 : ¬ 64 * (N : Int) < (R : Int) := by omega
      have hRN : R + M ≤ 3205 := by omega
      replace hcs := Lib.hid hcs
      clear hLa c2 c3 hR hen hx0 hx1 hR1
      go_wp2_with fail
      refine kRm.out.mono ?_; rintro e w4 ⟨rfl, hb4⟩
      have hL4 := Lib.hid (Lo.below hL'.out hb4)
      clear kRm hb4
      go_upto_region 16 with (at_make; refine wpList_make_full _ rfl _ _ 27 rfl w.heap.size 5 j0 (.int .u8 0) 1 Try.underlying27 hj0 hy0 hy1 .i64 .i64 _ _ (R + M) rfl rfl (by omega) (by omega) (by rw [hy2]; omega) (by unfold maxLen; omega) (Lo.acc hL4.out).size ?_; intro w5 hown5 hg5)
      rw [made_bytes] at hown5
      have hb5 : Below w4.heap.size w4 w5 := (Below.refl _ _).grown hg5 (Nat.le_refl _) (fun j hj => by cases hj)
      have hL5 := Lo.client hL4.out hb5
      have hv5 : VB w5 (.slice (some ⟨w4.heap.size, 0, none⟩) (R + M) (R + M)) (fillL (R + M) 0) := by
        have := View.of_own hown5
        unfold VB fillL
        rw [List.length_replicate, List.map_replicate]
        exact this
      have hgl := (hown5.lt _ rfl).2
      have hfl := fillL_len (R + M) 0
      have hbs : ∃ b, fillL (R + M) 0 = b := ⟨_, rfl⟩
      obtain ⟨b, hb⟩ := hbs
      rw [hb] at hv5 hfl
      clear hown5 hg5 hb
      rcases hcs.out with ⟨hM0, hfit⟩ | ⟨hM0, hRz, hfit⟩ | ⟨hM0, hfit⟩
      · rw [← hfl] at hfit
        have kA := Lib.hid (lappend_free hL5 hR'.out.free hSm hR'.out.ok hv5 (fun x hx => by injection hx with hx; subst hx; exact .inr ⟨Nat.le_refl _, hgl⟩) (by omega) (by have := hR'.out.few; omega) (by rw [hR'.out.uns]; simp) hfit (by rw [hR'.out.en, hR'.out.len]; omega))
        have hrl : ∀ b' ∈ (g.with b b.length).recs, b'.length ≤ 1000000 := fun b' hb' => by
          unfold Lg.with at hb'
          simp only at hb'
          rcases List.mem_append.1 hb' with hb' | hb'
          · have := hR'.out.short b' hb'; omega
          · rw [List.mem_singleton] at hb'; subst hb'; omega
        have hrn : (g.with b b.length).recs.length ≤ 10000 ∧ 0 < (g.with b b.length).recs.length := by
          unfold Lg.with
          simp only [List.length_append, List.length_singleton]
          have := hR'.out.recs
          omega
        generalize lputD D g b = D' at *
        generalize (g.with b (b.length : Int)) = g' at *
        subst hM0
        simp only [Nat.add_zero] at kA ⊢
        replace hrl := Lib.hid hrl
        clear hL5 hv5 hfit hcs
        go_wp2_with fail
        refine kA.out.mono ?_; rintro e w6 ⟨rfl, hL6, _, _⟩
        have kR := Lib.hid (records_any hL6 hrn.1 hrl.out)
        have hn0 : (0 : Int) < (g'.recs.length : Int) := by omega
        have hac6 := Lib.hid hL6.acc
        clear kA hL6
        by_cases hRz : R = 0
        · have q5 : ((R : Int) == 0) = true := by simp [hRz]
          replace hRz := Lib.hid hRz
          go_wp2_with fail
          refine (num5_any _ 0).mono ?_; rintro x9 w9 ⟨rfl, hw1⟩
          have hw2 := hw1.symm
          subst hw2
          clear hw1
          go_wp2_with fail
          go_ret
          exact ⟨rfl, hac6.out⟩
        · have q5 : ((R : Int) == 0) = false := by simp; omega
          replace hRz := Lib.hid hRz
          go_wp2_with fail
          refine (num5_any _ 0).mono ?_; rintro x9 w9 ⟨rfl, hw1⟩
          have hw2 := hw1.symm
          subst hw2
          clear hw1
          go_wp2_with fail
          refine (num5_any _ 0).mono ?_; rintro x9 w9 ⟨rfl, hw1⟩
          have hw2 := hw1.symm
          subst hw2
          clear hw1
          go_wp2_with fail
          refine kR.out.mono ?_; rintro e w10 ⟨v10, rfl, hB10, hb10⟩
          obtain ⟨hs10, ho10, _⟩ := hB10
          obtain ⟨A10, c10, rfl, _, _, _⟩ := own_shape ho10
          have hfin := Lib.hid (below_then hac6.out hb10)
          clear ho10 hb10 kR
          go_wp2_with fail
          go_ret
          exact ⟨rfl, hfin.out⟩
      · rw [← hfl] at hfit
        have kA := Lib.hid (lappend_no hL5 hSm hR'.out.ok hv5 (by omega) hfit)
        subst hM0
        subst hRz
        simp only [Nat.add_zero] at kA ⊢
        clear hL5 hv5 hfit hcs
        go_wp2_with fail
        refine kA.out.mono ?_; rintro e w6 ⟨rfl, hL6, _⟩
        have hac6 := Lib.hid hL6.acc
        clear kA hL6
        go_wp2_with fail
        refine (num5_any _ 6).mono ?_; rintro x9 w9 ⟨rfl, hw1⟩
        have hw2 := hw1.symm
        subst hw2
        clear hw1
        go_wp2_with fail
        refine (num5_any _ 6).mono ?_; rintro x9 w9 ⟨rfl, hw1⟩
        have hw2 := hw1.symm
        subst hw2
        clear hw1
        go_wp2_with fail
        go_ret
        exact ⟨rfl, hac6.out⟩
      · rw [← hfl] at hfit
        have kA := Lib.hid (lappend_no hL5 hSm hR'.out.ok hv5 (by omega) hfit)
        have q6 : ((M : Int) == 0) = false := by simp; omega
        clear hL5 hv5 hfit hcs
        go_wp2_with fail
        refine kA.out.mono ?_; rintro e w6 ⟨rfl, hL6, _⟩
        have hac6 := Lib.hid hL6.acc
        clear kA hL6
        by_cases hRz : R = 0
        · have q5 : ((R : Int) == 0) = true := by simp [hRz]
          replace hRz := Lib.hid hRz
          go_wp2_with fail
          refine (num5_any _ 6).mono ?_; rintro x9 w9 ⟨rfl, hw1⟩
          have hw2 := hw1.symm
          subst hw2
          clear hw1
          go_wp2_with fail
          refine (num5_any _ 6).mono ?_; rintro x9 w9 ⟨rfl, hw1⟩
          have hw2 := hw1.symm
          subst hw2
          clear hw1
          go_wp2_with fail
          refine (num5_any _ 6).mono ?_; rintro x9 w9 ⟨rfl, hw1⟩
          have hw2 := hw1.symm
          subst hw2
          clear hw1
          go_wp2_with fail
          go_ret
          exact ⟨rfl, hac6.out⟩
        · have q5 : ((R : Int) == 0) = false := by simp; omega
          replace hRz := Lib.hid hRz
          go_wp2_with fail
          refine (num5_any _ 6).mono ?_; rintro x9 w9 ⟨rfl, hw1⟩
          have hw2 := hw1.symm
          subst hw2
          clear hw1
          go_wp2_with fail
          refine (num5_any _ 6).mono ?_; rintro x9 w9 ⟨rfl, hw1⟩
          have hw2 := hw1.symm
          subst hw2
          clear hw1
          go_wp2_with fail
          refine (num5_any _ 6).mono ?_; rintro x9 w9 ⟨rfl, hw1⟩
          have hw2 := hw1.symm
          subst hw2
          clear hw1
          go_wp2_with fail
          go_ret
          exact ⟨rfl, hac6.out⟩
theorem logRoom_walk (W : World) (n : Int) (_ : (Lit.int .i64 n).wf = true) (A : Option Addr) (m c : Nat) (x : (Kd.sl 3 (.int .i64)).T) (z : Rd Try.prog W (.sl 3 (.int .i64)) [.slice A m c] x) (more : Int) (_ : (Lit.int .i64 more).wf = true) :
    Calls Try.prog 13 #[.int .i64 n, .slice A m c, .int .i64 more] W fun e w' => e = .returned (.bool true) ∧ Below W.heap.size W w' := by
  have hv := rd_view_flat rfl z
  obtain ⟨A', c', e, _, _⟩ := View.cells hv
  injection e with e1 e2 e3
  subst e1 e2 e3
  rw [int_enc x] at hv
  exact room_core W n more A c x hv
end Go.Proofs.Ytbfcaapompkjhaa
