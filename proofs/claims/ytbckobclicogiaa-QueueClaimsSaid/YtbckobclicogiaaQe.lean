/-
  QueueClaims: its walk.
-/
import Derived.Test.YtbckobclicogiaaQd
import Derived.Test.YtbckobclicogiaaOpenV
import Derived.Deep.DeepCutAuto
import Derived.Test.YtbckobclicogiaaBits
set_option linter.unusedVariables false
set_option linter.unusedSimpArgs false
namespace Go.Proofs.Ytbckobclicogiaa
open Go.RowKit Go.Proofs.PosteMem Go.Proofs.PosteOpen

def qC : Nat → Bool := fun _ => false
theorem bool_at {W : World} {A : Option Addr} {cap : Nat} {l : List Bool} (h : View W 1 (.slice A l.length cap) l.length (l.map .bool)) (k : Nat) (hk : k < l.length) :
    ∃ b off, A = some ⟨b, off, none⟩ ∧ b < W.heap.size ∧ W.cell? ⟨b, off + k, none⟩ = some (.bool (l.getD k false)) := by
  obtain ⟨lb, lo, lc, e2, _, _, hll, hlc⟩ := h.at_ (show 0 < l.length * 1 by omega)
  injection e2 with e2 e3 e4
  exact ⟨lb, lo, e2, hll, hlc k _ (by simp [List.getElem?_eq_getElem hk, List.getD_eq_getElem?_getD])⟩

theorem tmod3 (x : Int) : ∃ C : Nat, Int.tmod (bits .and .i64 x 1023) 3 = (C : Int) ∧ C < 3 := by
  have h : bits .and .i64 x 1023 = x % 1024 := Go.Proofs.PosteMem.bits_mask x 10 (by decide)
  rw [h, Int.tmod_eq_emod_of_nonneg (by omega)]
  exact ⟨(x % 1024 % 3).toNat, by omega, by omega⟩
theorem qL_start (l : List Bool) (n : Nat) : qL n qC = qL n (above l n) := by
  unfold qL
  refine List.map_congr_left fun j hj => ?_
  rw [List.mem_range] at hj
  unfold qm qC above
  rw [if_neg (by omega)]

set_option maxRecDepth 100000 in
set_option maxHeartbeats 8000000 in
theorem claims_core (w : World) (n corr : Int) (A : Option Addr) (cap : Nat) (l : List Bool) (h : View w 1 (.slice A l.length cap) l.length (l.map .bool)) :
    Calls Try.prog 10 #[.int .i64 n, .slice A l.length cap, .int .i64 corr] w fun e w' => e = .returned (.bool true) ∧ Below w.heap.size w w' := by
  obtain ⟨i0, hi0, hz0, hz1, hz2⟩ := info_parts infoMsg
  replace h := Lib.hid h
  by_cases g1 : n < 1
  · go_enter Try.func10, Try.ntmps10
    go_wp2_with fail
    refine (alive15 _).mono ?_; rintro e w1 ⟨rfl, hb1⟩
    go_wp2
    go_ret
    exact ⟨rfl, hb1⟩
  by_cases g2 : 30 < n
  · go_enter Try.func10, Try.ntmps10
    go_wp2_with fail
    refine (alive15 _).mono ?_; rintro e w1 ⟨rfl, hb1⟩
    go_wp2
    go_ret
    exact ⟨rfl, hb1⟩
  by_cases g3 : (l.length : Int) < n
  · go_enter Try.func10, Try.ntmps10
    go_wp2_with fail
    refine (alive15 _).mono ?_; rintro e w1 ⟨rfl, hb1⟩
    go_wp2
    go_ret
    exact ⟨rfl, hb1⟩
  obtain ⟨N, rfl⟩ : ∃ N : Nat, n = N := ⟨n.toNat, by omega⟩
  have hN1 : 1 ≤ N := by omega
  have hN2 : N ≤ 30 := by omega
  have hN3 : N ≤ l.length := by omega
  go_enter Try.func10, Try.ntmps10
  go_wp2_with fail
  refine (alive15 _).mono ?_; rintro e w1 ⟨rfl, hb1⟩
  go_upto_region 6 with fail
  have e1 : decide ((N : Int) < 1) = false := decide_eq_false (by omega)
  have e2 : decide ((30 : Int) < (N : Int)) = false := decide_eq_false (by omega)
  have e3 : decide (l.length < N) = false := decide_eq_false (by omega)
  simp only [e1, e2, e3, Bool.or_false]
  clear e1 e2 e3
  go_loopw [8, 9] (fun v i wr => ∃ k : Nat, k ≤ N ∧ i = .int .i64 k ∧ OMsgs wr w.heap.size v (qL k qC) ∧ Below w.heap.size w wr) (fun _ i _ => N - (intOf i).toNat)
  case atStart => exact ⟨0, by omega, rfl, World.ownsRow_nil _ _ _ _, hb1⟩
  case round =>
    obtain ⟨k, hk, rfl, ho, hb⟩ := hrel
    by_cases hlt : k < N
    · have q1 : (k : Int) < (N : Int) := by omega
      have hrem : Int.tmod (k : Int) 3 = ((k % 3 : Nat) : Int) := by rw [Int.tmod_eq_emod_of_nonneg (by omega)]; omega
      have hm3 : k % 3 < 3 := Nat.mod_lt _ (by decide)
      have ho' := ho
      unfold OMsgs at ho'
      rw [qL_len] at ho'
      obtain ⟨A1, c1, rfl, _, _, _⟩ := own_shape ho'
      replace ho := Lib.hid ho
      replace ho' := Lib.hid ho'
      have hbs := hb.size
      have hbx := Lib.hid (hb.alloc hbs (.cells (qm qC k).cells.toArray 34))
      have hsn := Lib.hid (fun (W : World) (v : Value) (h : W.ownsRow w.heap.size 34 6 v (k + 1) ((qL k qC).flatMap Msg.cells ++ (qm qC k).cells)) => (show OMsgs W w.heap.size v (qL (k + 1) qC) by
        rw [qL_snoc]
        exact msgs_snoc (by rw [qL_len]; exact h)))
      go_wp2_with (at_builtin; refine wpList_append_view _ rfl (.tmp 43) (.tmp 53) _ rfl w.heap.size 34 i0 zMsg 6 64 Try.underlying23 hi0 hz0 hz1 hz2 rfl (by omega) (.slice A1 k c1) k _ rfl (ho'.out.alloc _) (.slice (some ⟨wr.heap.size, 0, none⟩) 1 1) 1 (qm qC k).cells rfl (View.boxAt _ (qm qC k).cells _ _ rfl rfl) (fun u hu => Msg.one [qm qC k] u (by simpa using hu)) (by omega) (by simp only [maxLen]; omega) (by simp; omega) ?_; intro v1 w2 hown hg hat)
      go_roundw
      case rel => exact ⟨k + 1, by omega, by go_num, hsn.out _ _ hown, hbx.out.grown hg (by simp; omega) (fun j hj => (ho'.out.lt j hj).1)⟩
      case measure => simp [intOf]; omega
    · obtain rfl : k = N := by omega
      have q1 : ¬ (k : Int) < (k : Int) := by omega
      go_upto_region 13 with fail
      obtain ⟨C, hC, hC3⟩ := tmod3 corr
      rw [hC]
      clear hC q1
      replace ho : OMsgs wr w.heap.size u8 (qL k (above l k)) := by rw [← qL_start]; exact ho
      go_loopw [8, 11, 12, 13] (fun v r m z wx => ∃ (i : Nat) (r' m' z' : Int), i ≤ k ∧ z = .int .i64 z' ∧ z' = (i : Int) - 1 ∧ r = .int .i64 r' ∧ m = .int .i64 m' ∧ OMsgs wx w.heap.size v (qL k (above l i)) ∧ Fst (pLeast l) i k r' ∧ Fst (pMatch l C) i k m' ∧ Below w.heap.size w wx) (fun _ _ _ z _ => (intOf z + 1).toNat)
      case atStart => exact ⟨k, -1, -1, _, by omega, rfl, rfl, rfl, rfl, ho, .start _ _, .start _ _, hb⟩
      case round =>
        clear ho hb
        obtain ⟨i, r', m', z', hi, rfl, hz, rfl, rfl, ho, hr, hm, hb⟩ := hrel
        have hk6 : (qL k (above l i)).length = k := qL_len _ _
        have ho' := ho
        unfold OMsgs at ho'
        rw [hk6] at ho'
        obtain ⟨A1, c1, rfl, _, _, _⟩ := own_shape ho'
        clear ho'
        rcases i with _ | i
        · have q0 : z' < 0 := by omega
          have q9 : ¬ (0 : Int) ≤ z' := by omega
          clear hk6
          have kl := Lib.hid (fun W (hW : Below wr.heap.size wr W) => least_any W _ _ (View.below ho.view hW) (by rw [qL_len]; omega))
          have km := Lib.hid (fun W (hW : Below wr.heap.size wr W) => match_any W _ _ (abcAt C) (View.below ho.view hW) (by rw [qL_len]; omega))
          rw [least_of hr] at kl
          rw [match_of hC3 hm] at km
          unfold abcAt at km
          obtain ⟨lb, lo, rfl, hll, hlc⟩ := bool_at (View.below h.out hb) 0 (by omega)
          rw [Nat.add_zero] at hlc
          have kc : ∃ x ok, Claimed (qL k (above l 0)) 1 false (qL k x) ok ∧ x 0 = false ∧ ok = l.getD 0 false := by
            cases h0 : l.getD 0 false with
            | true => exact ⟨_, true, (q_claim (i := 0) (by omega) false (by unfold above; simpa using h0) : Claimed _ (((0 : Nat) : Int) + 1) _ _ _), by unfold upto; simp, rfl⟩
            | false => exact ⟨_, false, (q_again (i := 0) (by omega) false (by unfold above; simpa using h0) : Claimed _ (((0 : Nat) : Int) + 1) _ _ _), by unfold above; simpa using h0, rfl⟩
          obtain ⟨x, ok, hcl, hx0, hok⟩ := kc
          rw [← hok] at hlc
          have kq := Lib.hid (fun W (hW : Below wr.heap.size wr W) => claim_any W _ _ _ 1 false ok (View.below ho.view hW) (by rw [qL_len]; omega) hcl)
          have hf0 := first_free (n := k) (c := x) (by omega) hx0
          clear hr hm hcl hok hx0 ho
          go_wp2_with fail
          refine (kl.out _ (Below.refl _ _)).mono ?_; rintro e w2 ⟨rfl, hb2⟩
          have hB2 := Lib.hid hb2
          go_wp2_with fail
          refine (km.out _ hB2.out).mono ?_; rintro e w3 ⟨rfl, hb3⟩
          have hB3 := Lib.hid (below_then hB2.out hb3)
          go_wp2_with fail
          refine (kq.out _ hB3.out).mono ?_; rintro e w4 ⟨v4, rfl, ho4, hb4⟩
          have hB4 := Lib.hid (below_then hB3.out hb4)
          have hk4 : (qL k x).length = k := qL_len _ _
          have ho4' := ho4
          unfold OMsgs at ho4'
          rw [hk4] at ho4'
          obtain ⟨A4, c4, rfl, _, _, _⟩ := own_shape ho4'
          have hv4 := Lib.hid ho4.view
          have hl4 := (hB4.out.cell (p := ⟨lb, lo, none⟩) hll).trans hlc
          clear ho4 ho4' hlc
          go_wp2_with fail
          refine (least_any _ _ _ hv4.out (by rw [qL_len]; omega)).mono ?_; rintro e w5 ⟨rfl, hb5⟩
          rw [hf0]
          go_wp2_with fail
          go_ret
          exact ⟨rfl, hb.trans ((below_then hB4.out hb5).mono hb.size)⟩
        · obtain rfl : z' = (i : Int) := by omega
          clear hz
          have q2 : (i : Int) < (l.length : Int) := by omega
          obtain ⟨lb, lo, rfl, hll, hlc⟩ := bool_at (View.below h.out hb) i (by omega)
          cases hcc : l.getD i false with
          | true =>
            rw [hcc] at hlc
            have hcl := q_claim (n := k) (c := above l (i + 1)) (i := i) (by omega) true (above_none l i)
            rw [above_hit hcc] at hcl
            have hag := q_again (n := k) (c := above l i) (i := i) (by omega) true (by unfold above; simpa using hcc)
            have h1 := hr.pass (by unfold pLeast; rw [hcc]; rfl)
            have h2 := hm.pass (by unfold pMatch; rw [hcc]; rfl)
            have kq := Lib.hid (claim_any wr _ _ _ _ true true ho.view (by rw [qL_len]; omega) hcl)
            clear hcl hr hm ho
            go_wp2_with fail
            refine kq.out.mono ?_; rintro e w4 ⟨v4, rfl, ho4, hb4⟩
            have hk4 : (qL k (above l i)).length = k := qL_len _ _
            have ho4' := ho4
            unfold OMsgs at ho4'
            rw [hk4] at ho4'
            obtain ⟨A4, c4, rfl, _, _, _⟩ := own_shape ho4'
            clear ho4'
            have kq2 := Lib.hid (claim_any w4 _ _ _ _ true false ho4.view (by rw [qL_len]; omega) hag)
            have hB4 := Lib.hid (below_then hb hb4)
            replace ho4 := Lib.hid (own_mono ho4 hb.size)
            go_wp2_with fail
            refine kq2.out.mono ?_; rintro e w5 ⟨v5, rfl, ho5, hb5⟩
            have ho6 := Lib.hid (own_below ho4.out hb5)
            have hB5 := Lib.hid (below_then hB4.out hb5)
            have hk5 : (qL k (above l i)).length = k := qL_len _ _
            have ho5' := ho5
            unfold OMsgs at ho5'
            rw [hk5] at ho5'
            obtain ⟨A5, c5, rfl, _, _, _⟩ := own_shape ho5'
            clear ho5 ho5'
            go_wp2_with fail
            go_roundw
            case rel => exact ⟨i, _, _, _, by omega, by go_num, rfl, rfl, rfl, ho6.out, h1, h2, hB5.out⟩
            case measure => simp [intOf]
          | false =>
            rw [hcc] at hlc
            rw [← above_pass hcc] at ho
            have h1 : Fst (pLeast l) i k i := .hit (by omega) (by unfold pLeast; rw [hcc]; rfl)
            have hrem : Int.tmod (i : Int) 3 = ((i % 3 : Nat) : Int) := by rw [Int.tmod_eq_emod_of_nonneg (by omega)]; omega
            by_cases hiC : i % 3 = C
            · have h2 : Fst (pMatch l C) i k i := .hit (by omega) (by unfold pMatch; rw [hcc, hiC]; simp)
              have q3 : (((i % 3 : Nat) : Int) == (C : Int)) = true := by simpa using (by omega : ((i % 3 : Nat) : Int) = (C : Int))
              go_wp2_with fail
              go_roundw
              case rel => exact ⟨i, _, _, _, by omega, by go_num, rfl, rfl, rfl, ho, h1, h2, hb⟩
              case measure => simp [intOf]
            · have h2 := hm.pass (by unfold pMatch; rw [decide_eq_false hiC, Bool.and_false])
              have q3 : (((i % 3 : Nat) : Int) == (C : Int)) = false := by simpa using (by omega : ¬ ((i % 3 : Nat) : Int) = (C : Int))
              go_wp2_with fail
              go_roundw
              case rel => exact ⟨i, _, _, _, by omega, by go_num, rfl, rfl, rfl, ho, h1, h2, hb⟩
              case measure => simp [intOf]

theorem bool_enc (l : List Bool) : l.flatMap (Kd.enc .bool) = l.map .bool := by
  induction l with
  | nil => rfl
  | cons a l ih => rw [List.flatMap_cons, ih]; rfl
theorem queueClaims_walk (W : World) (n : Int) (_ : (Lit.int .i64 n).wf = true) (A : Option Addr) (m c : Nat) (x : (Kd.sl 4 .bool).T) (z : Rd Try.prog W (.sl 4 .bool) [.slice A m c] x) (corr : Int) (_ : (Lit.int .i64 corr).wf = true) :
    Calls Try.prog 10 #[.int .i64 n, .slice A m c, .int .i64 corr] W fun e w' => e = .returned (.bool true) ∧ Below W.heap.size W w' := by
  have hv := rd_view_flat rfl z
  obtain ⟨A', c', e, _, _⟩ := View.cells hv
  injection e with e1 e2 e3
  subst e1 e2 e3
  rw [bool_enc x] at hv
  exact claims_core W n corr A c x hv
end Go.Proofs.Ytbckobclicogiaa
