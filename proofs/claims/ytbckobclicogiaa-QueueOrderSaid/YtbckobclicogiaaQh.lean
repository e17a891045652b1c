/-
  QueueOrder: its walk.
-/
import Derived.Test.YtbckobclicogiaaQf
import Derived.Test.YtbckobclicogiaaQg
import Derived.Test.YtbckobclicogiaaQa
import Derived.Test.YtbckobclicogiaaBits
import Derived.Test.YtbckobclicogiaaOpenV
set_option linter.unusedVariables false
set_option linter.unusedSimpArgs false
namespace Go.Proofs.Ytbckobclicogiaa
open Go.RowKit Go.Proofs.PosteMem Go.Proofs.PosteOpen

/-- Bools in a row of the call's own, as they were made. -/
def OB (w : World) (B g n : Nat) (l : List Bool) : Prop := w.ownsRow B 4 1 (.slice (some ⟨g, 0, none⟩) n n) n (l.map .bool)
theorem OB.set {w : World} {B g n : Nat} {l : List Bool} (h : OB w B g n l) (k : Nat) (hk : k < n) (b : Bool) : OB (w.setCell ⟨g, k, none⟩ (.bool b)) B g n (l.set k b) := by
  unfold OB at h ⊢
  rw [List.map_set]
  exact own_set h k (by omega) _
theorem OB.len {w : World} {B g n : Nat} {l : List Bool} (h : OB w B g n l) : l.length = n := by
  have := h.1
  simpa using this
theorem OB.cell {w : World} {B g n : Nat} {l : List Bool} (h : OB w B g n l) (k : Nat) (hk : k < n) : w.cell? ⟨g, k, none⟩ = some (.bool (l.getD k true)) := by
  have h1 := own_cell h k (by omega)
  have h2 : k < l.length := by rw [h.len]; exact hk
  rw [h1]
  simp [List.getD_eq_getElem?_getD, h2]
theorem ints_at {W : World} {A : Option Addr} {cap : Nat} {l : List Int} (h : View W 1 (.slice A l.length cap) l.length (l.map (.int .i64))) (k : Nat) (hk : k < l.length) :
    ∃ b off, A = some ⟨b, off, none⟩ ∧ b < W.heap.size ∧ W.cell? ⟨b, off + k, none⟩ = some (.int .i64 (l.getD k 0)) := by
  obtain ⟨lb, lo, lc, e2, _, _, hll, hlc⟩ := h.at_ (show 0 < l.length * 1 by omega)
  injection e2 with e2 e3 e4
  exact ⟨lb, lo, e2, hll, hlc k _ (by simp [hk, List.getD_eq_getElem?_getD])⟩
theorem set_row (k n : Nat) (h : k < n) : (List.replicate k true ++ List.replicate (n - k) false).set k true = List.replicate (k + 1) true ++ List.replicate (n - (k + 1)) false := by
  rw [List.set_append_right _ _ (by simp), List.length_replicate, Nat.sub_self, show n - k = (n - (k + 1)) + 1 by omega, List.replicate_succ, List.set_cons_zero, List.replicate_succ', List.append_assoc]
  rfl
theorem made_one (n : Nat) : (madeCells (Value.bool false).cells (n * 1)).toList = List.replicate n (.bool false) := by
  rw [Nat.mul_one]
  exact toList_madeCells_one _ _
theorem tmodn (x : Int) (n : Nat) (h : 0 < n) : ∃ K : Nat, Int.tmod (bits .and .i64 x 1023) (n : Int) = (K : Int) ∧ K < n := by
  have e : bits .and .i64 x 1023 = x % 1024 := Go.Proofs.PosteMem.bits_mask x 10 (by decide)
  rw [e, Int.tmod_eq_emod_of_nonneg (by omega)]
  have h1 := Int.emod_nonneg (x % 1024) (show (n : Int) ≠ 0 by omega)
  have h2 := Int.emod_lt_of_pos (x % 1024) (show (0 : Int) < n by omega)
  exact ⟨(x % 1024 % n).toNat, by omega, by omega⟩
/-- Messages that come out one by one. -/
structure Good (L : List Msg) : Prop where
  up : Up L
  low : ∀ x ∈ L, unclaimed x = true ∧ 0 ≤ x.pri ∧ 0 < x.id ∧ x.id ≤ 30
theorem Good.near {L : List Msg} (h : Good L) : ∀ j (hj : j + 1 < L.length), ordM L[j] L[j + 1] < 0 := fun j hj => ((List.pairwise_iff_getElem.1 h.up) j (j + 1) (by omega) hj (by omega)).1
theorem Good.once {L : List Msg} (h : Good L) : ∀ k (hk : k < L.length) j (hj : j < L.length), j < k → L[j].id ≠ L[k].id := fun k hk j hj hjk => ((List.pairwise_iff_getElem.1 h.up) j k hj hk hjk).2
theorem Good.wf {L : List Msg} (h : Good L) : ∀ k (hk : k < L.length), (Lit.int .i64 L[k].id).wf = true := fun k hk => by
  obtain ⟨_, _, h1, h2⟩ := h.low _ (List.getElem_mem hk)
  exact WalkArith.wf_i64 (by omega)
theorem Good.tail {x : Msg} {L : List Msg} (h : Good (x :: L)) : Good L := ⟨(List.pairwise_cons.1 h.up).2, fun y hy => h.low y (List.mem_cons_of_mem _ hy)⟩
theorem Put.good {pris : List Int} {left : List Bool} {L : List Msg} (h : Put pris left L) (hl : left.length ≤ 30) : Good L := ⟨h.up, fun x hx => by
  obtain ⟨k, hk, _, rfl⟩ := h.all x hx
  exact ⟨rfl, Int.emod_nonneg _ (by decide), by show (0 : Int) < (k : Int) + 1; omega, by show (k : Int) + 1 ≤ 30; omega⟩⟩
def set6 (w : World) (g : Nat) (a b c x y z : Value) : World := (((((w.setCell ⟨g, 0, none⟩ a).setCell ⟨g, 1, none⟩ b).setCell ⟨g, 2, none⟩ c).setCell ⟨g, 3, none⟩ x).setCell ⟨g, 4, none⟩ y).setCell ⟨g, 5, none⟩ z
theorem set6_whole {w : World} {g : Nat} {T : TypeId} {a' b' c' d' e' f' : Value} (a b c x y z : Value) (h : Whole w g T #[a', b', c', d', e', f']) : Whole (set6 w g a b c x y z) g T #[a, b, c, x, y, z] := (((((h.set 0 a).set 1 b).set 2 c).set 3 x).set 4 y).set 5 z
theorem set6_upd (w : World) (g : Nat) (a b c x y z : Value) : Upd (fun b => b = g) w (set6 w g a b c x y z) := by
  unfold set6
  exact ((((((Upd.refl (fun b => b = g) w).setCell (p := ⟨g, 0, none⟩) (.inr rfl) a).setCell (p := ⟨g, 1, none⟩) (.inr rfl) b).setCell (p := ⟨g, 2, none⟩) (.inr rfl) c).setCell (p := ⟨g, 3, none⟩) (.inr rfl) x).setCell (p := ⟨g, 4, none⟩) (.inr rfl) y).setCell (p := ⟨g, 5, none⟩) (.inr rfl) z
theorem cmpM_ord (x y : Msg) : cmpM x y = ordM x y := by
  rcases ordM_cases x y with ⟨h1, h⟩ | ⟨h1, h⟩ | ⟨h1, h2, h⟩ | ⟨h1, h2, h⟩ | ⟨h1, h2, h⟩ <;> rw [h] <;> unfold cmpM
  · rw [if_pos h1]
  · rw [if_neg (by omega), if_pos h1]
  · rw [if_neg (by omega), if_neg (by omega), if_pos h2]
  · rw [if_neg (by omega), if_neg (by omega), if_neg (by omega), if_pos h2]
  · rw [if_neg (by omega), if_neg (by omega), if_neg (by omega), if_neg (by omega)]
def lenV : Value → Nat
  | .slice _ n _ => n
  | _ => 0

set_option maxRecDepth 100000 in
set_option maxHeartbeats 8000000 in
theorem order_core (w : World) (A A2 : Option Addr) (cap cap2 : Nat) (pris order : List Int) (h : View w 1 (.slice A pris.length cap) pris.length (pris.map (.int .i64))) (h2 : View w 1 (.slice A2 order.length cap2) order.length (order.map (.int .i64))) :
    Calls Try.prog 11 #[.slice A pris.length cap, .slice A2 order.length cap2] w fun e w' => e = .returned (.bool true) ∧ Below w.heap.size w w' := by
  obtain ⟨i0, hi0, hz0, hz1, hz2⟩ := info_parts (show (Try.prog.info? 4).map (fun i => (i.zero, i.size, i.bytes)) = some (some (.bool false), 1, 1) by kernel_rfl)
  replace h := Lib.hid h
  replace h2 := Lib.hid h2
  by_cases g1 : 30 < pris.length
  · go_enter Try.func11, Try.ntmps11
    go_wp2_with fail
    refine (alive15 _).mono ?_; rintro e w1 ⟨rfl, hb1⟩
    have g2 : (30 : Int) < (pris.length : Int) := by omega
    go_wp2
    go_ret
    exact ⟨rfl, hb1⟩
  by_cases g3 : order.length < pris.length
  · go_enter Try.func11, Try.ntmps11
    go_wp2_with fail
    refine (alive15 _).mono ?_; rintro e w1 ⟨rfl, hb1⟩
    have g2 : (order.length : Int) < (pris.length : Int) := by omega
    go_wp2
    go_ret
    exact ⟨rfl, hb1⟩
  go_enter Try.func11, Try.ntmps11
  go_wp2_with fail
  refine (alive15 _).mono ?_; rintro e w1 ⟨rfl, hb1⟩
  have g2 : ¬ (30 : Int) < (pris.length : Int) := by omega
  have g4 : ¬ (order.length : Int) < (pris.length : Int) := by omega
  go_upto_region 7 with (at_make; refine wpList_make_full _ rfl _ _ 32 rfl w.heap.size 4 i0 (.bool false) 1 Try.underlying32 hi0 hz0 hz1 .i64 .i64 _ _ pris.length rfl rfl rfl rfl (by rw [hz2]; omega) (by unfold maxLen; omega) hb1.size ?_; intro w2 hown2 hg2)
  have e1 : decide ((30 : Int) < (pris.length : Int)) = false := decide_eq_false (by omega)
  simp only [e1]
  clear e1 g2 g4
  have hm2 : OB w2 w.heap.size w1.heap.size pris.length (List.replicate 0 true ++ List.replicate (pris.length - 0) false) := by
    unfold OB
    have e2 : (madeCells (Value.bool false).cells (pris.length * 1)).toList = (List.replicate 0 true ++ List.replicate (pris.length - 0) false).map .bool := by
      rw [List.replicate_zero, List.nil_append, Nat.sub_zero, List.map_replicate]
      exact made_one _
    rw [← e2]
    exact hown2
  have hB2 : Below w.heap.size w w2 := hb1.grown hg2 hb1.size (fun j hj => by cases hj)
  clear hown2 hg2
  generalize w1.heap.size = g at *
  clear hb1
  go_loopw [8] (fun i wr => ∃ k : Nat, k ≤ pris.length ∧ i = .int .i64 k ∧ OB wr w.heap.size g pris.length (List.replicate k true ++ List.replicate (pris.length - k) false) ∧ Below w.heap.size w wr) (fun i _ => pris.length - (intOf i).toNat)
  case atStart => exact ⟨0, by omega, rfl, hm2, hB2⟩
  case round =>
    clear hm2 hB2
    obtain ⟨k, hk, rfl, ho, hb⟩ := hrel
    by_cases hlt : k < pris.length
    · have q1 : (k : Int) < (pris.length : Int) := by omega
      have ho1 := ho.set k hlt true
      rw [set_row k _ hlt] at ho1
      have hgg := (own_block ho).1
      have d0 := ho.cell k hlt
      have f0 := own_free ho k
      have hb1 := hb.setCell (p := ⟨g, k, none⟩) hgg (.bool true)
      replace ho1 := Lib.hid ho1
      replace hb1 := Lib.hid hb1
      replace ho := Lib.hid ho
      go_wp2_with fail
      go_roundw
      case rel => exact ⟨k + 1, by omega, by go_num, ho1.out, hb1.out⟩
      case measure => simp [intOf]; omega
    · obtain rfl : k = pris.length := by omega
      rw [Nat.sub_self, List.replicate_zero, List.append_nil] at ho
      have q1 : ¬ (pris.length : Int) < (pris.length : Int) := by omega
      go_upto_region 11 with fail
      have hP := Put.start pris pris.length
      have hO0 : OMsgs wr w.heap.size (.slice none 0 0) [] := World.ownsRow_nil _ _ _ _
      go_loopw [6, 9] (fun v i wx => ∃ (k : Nat) (left : List Bool) (L : List Msg), k ≤ pris.length ∧ i = .int .i64 k ∧ L.length = k ∧ Put pris left L ∧ OB wx w.heap.size g pris.length left ∧ OMsgs wx w.heap.size v L ∧ Below w.heap.size w wx) (fun _ i _ => pris.length - (intOf i).toNat)
      case atStart => exact ⟨0, _, [], by omega, rfl, rfl, hP, ho, hO0, hb⟩
      case round =>
        clear hP hO0 ho hb
        obtain ⟨k, left, L, hk, rfl, hL, hP, ho, hO, hb⟩ := hrel
        subst hL
        have hll := ho.len
        obtain ⟨A1, c1, rfl, _, _, _⟩ := own_shape hO
        by_cases hlt : L.length < pris.length
        · have q3 : (L.length : Int) < (pris.length : Int) := by omega
          have q4 : (L.length : Int) < (order.length : Int) := by omega
          have q5 : ¬ (pris.length : Int) = 0 := by omega
          have hex := hP.some_left (by omega)
          obtain ⟨ob, oo, rfl, hobl, hoc⟩ := ints_at (View.below h2.out hb) L.length (by omega)
          obtain ⟨K, hK, hKl⟩ := tmodn (order.getD L.length 0) pris.length (by omega)
          generalize order.getD L.length 0 = od at *
          replace hP := Lib.hid hP
          go_upto_region 14 with fail
          clear hK hoc
          go_loop [10] (fun a => ∃ kk : Nat, kk < pris.length ∧ a = .int .i64 kk) (fun a => far left (intOf a).toNat)
          case atStart => exact ⟨K, hKl, rfl⟩
          case round =>
            obtain ⟨kk, hkk, rfl⟩ := hrel
            have q6 : (kk : Int) < (pris.length : Int) := by omega
            have d0 := ho.cell kk hkk
            cases hlf : left.getD kk true with
            | false =>
              rw [hlf] at d0
              have hst := far_step (k := kk) (by omega) hex hlf
              rw [hll] at hst
              have hmod : Int.tmod ((kk : Int) + 1) (pris.length : Int) = (((kk + 1) % pris.length : Nat) : Int) := by
                rw [Int.tmod_eq_emod_of_nonneg (by omega)]; push_cast; rfl
              go_wp2_with fail
              go_round
              case rel => exact ⟨(kk + 1) % pris.length, Nat.mod_lt _ (by omega), rfl⟩
              case measure => simp [intOf]; exact hst
            | true =>
              rw [hlf] at d0
              have hP1 := Lib.hid (hP.out.add (k := kk) (by omega) hlf)
              obtain ⟨pb, po, rfl, hpbl, hpc⟩ := ints_at (View.below h.out hb) kk (by omega)
              have hb3 : bits .and .i64 (pris.getD kk 0) 3 = pris.getD kk 0 % 4 := Go.Proofs.PosteMem.bits_mask (pris.getD kk 0) 2 (by decide)
              have hgg := (own_block ho).1
              have ho1 := ho.set kk hkk false
              have f0 := own_free ho kk
              have hO1 : OMsgs (wr.setCell ⟨g, kk, none⟩ (.bool false)) w.heap.size (.slice A1 L.length c1) L := by
                unfold OMsgs
                refine own_setCell hO (fun e => ?_) _
                exact own_ne_own hO ho (by decide) g e rfl
              have hb1 := hb.setCell (p := ⟨g, kk, none⟩) hgg (.bool false)
              go_upto_region 17 with fail
              generalize hW : wr.setCell ⟨g, kk, none⟩ (.bool false) = W at *
              have hps : ∃ pb2 po2, (some ⟨pb, po, none⟩ : Option Addr) = some ⟨pb2, po2, none⟩ ∧ pb2 < W.heap.size ∧ W.cell? ⟨pb2, po2 + kk, none⟩ = some (.int .i64 (pris.getD kk 0)) := ints_at (View.below h.out hb1) kk (by omega)
              obtain ⟨pb2, po2, epp, hpbl2, hpc2⟩ := hps
              injection epp with epp
              injection epp with ep1 ep2 ep3
              subst ep1 ep2
              clear hpc hpbl d0 f0 ho hO hgg hW
              have hsz := hb1.size
              have ka : Calls Try.prog 32 #[.slice A1 L.length c1, .agg #[.int .i64 ((kk : Int) + 1), .int .i64 (pris.getD kk 0 % 4), .int .i64 0, .bool false, .string ⟨#[]⟩, .string ⟨#[]⟩]] W fun e w' => ∃ v', e = .returned v' ∧ OMsgs w' W.heap.size v' (addM L (mkM pris kk)) ∧ Below W.heap.size W w' := add_any W _ L (mkM pris kk) hO1.view (by omega)
              have hL5 := add_len L (mkM pris kk)
              generalize addM L (mkM pris kk) = L' at *
              generalize pris.getD kk 0 = pv at *
              replace ka := Lib.hid ka
              replace hL5 := Lib.hid hL5
              go_wp2_with fail
              refine ka.out.mono ?_; rintro e w5 ⟨v5, rfl, ho5, hb5⟩
              unfold OMsgs at ho5
              rw [hL5.out] at ho5
              obtain ⟨A5, c5, rfl, _, _, _⟩ := own_shape ho5
              have ho6 := Lib.hid (own_below ho1 hb5)
              have hB5 := Lib.hid (below_then hb1 hb5)
              have ho7 := Lib.hid (own_mono ho5 hsz)
              clear ho5
              go_wp2_with fail
              go_roundw
              case rel => exact ⟨L.length + 1, _, _, by omega, by go_num, hL5.out, hP1.out, ho6.out, by unfold OMsgs; rw [hL5.out]; exact ho7.out, hB5.out⟩
              case measure => simp [intOf]; omega
        · have hle : L.length = pris.length := by omega
          have hG := Lib.hid (hP.good (by omega))
          clear hlt hk h h2 ho hll hP
          have kr := Lib.hid (fun W (hW : Below wr.heap.size wr W) => rises_sorted W _ L (View.below hO.view hW) (by omega) hG.out.near hG.out.once hG.out.wf)
          generalize pris.length = n at *
          subst hle
          have q1 : ¬ (L.length : Int) < (L.length : Int) := by omega
          replace hO := Lib.hid hO
          go_wp2_with fail
          refine (kr.out _ (Below.refl _ _)).mono ?_; rintro e w5 ⟨rfl, hb5⟩
          have hO5 := own_below hO.out hb5
          have hB5 := below_then hb hb5
          clear hb5 kr hO
          go_upto_region 21 with fail
          have hbx := Whole.new w5 34 #[.int .i64 0, .int .i64 (-1), .int .i64 0, .bool false, .string ⟨#[]⟩, .string ⟨#[]⟩]
          have hO6 : OMsgs (w5.alloc (.cells #[.int .i64 0, .int .i64 (-1), .int .i64 0, .bool false, .string ⟨#[]⟩, .string ⟨#[]⟩] 34)) w.heap.size (.slice A1 L.length c1) L := hO5.alloc _
          have hnq : (Value.slice A1 L.length c1).ownBlock ≠ some w5.heap.size := fun e => by have := (hO5.lt _ e).2; omega
          have hB6 := hB5.alloc hB5.size (.cells #[.int .i64 0, .int .i64 (-1), .int .i64 0, .bool false, .string ⟨#[]⟩, .string ⟨#[]⟩] 34)
          have hlo : ∀ x ∈ L, cmpM ⟨0, -1, 0, false, ⟨#[]⟩, ⟨#[]⟩⟩ x < 0 := fun x hx => by
            have := (hG.out.low x hx).2.1
            unfold cmpM
            rw [if_pos (by show (-1 : Int) < x.pri; omega)]
            decide
          have hqs := hB5.size
          generalize w5.alloc (.cells #[.int .i64 0, .int .i64 (-1), .int .i64 0, .bool false, .string ⟨#[]⟩, .string ⟨#[]⟩] 34) = w6 at *
          generalize w5.heap.size = q at *
          clear hO5 hB5
          go_loopw [6] (fun v wx => ∃ (M : List Msg) (y : Msg), Good M ∧ M.length ≤ 30 ∧ OMsgs wx w.heap.size v M ∧ (∀ x ∈ M, cmpM y x < 0) ∧ Whole wx q 34 #[.int .i64 y.id, .int .i64 y.pri, .int .i64 y.retry, .bool y.claimed, .string y.corr, .string y.body] ∧ v.ownBlock ≠ some q ∧ Below w.heap.size w wx) (fun v _ => lenV v)
          case atStart => exact ⟨L, _, hG.out, by omega, hO6, hlo, hbx, hnq, hB6⟩
          case round =>
            clear hO6 hlo hbx hnq hB6 hG q1 g1 g3
            obtain ⟨M, y, hG, hM, hO, hy, hbx, hnq, hb⟩ := hrel
            have hG' := Lib.hid hG
            replace hy := Lib.hid hy
            cases M with
            | nil =>
              obtain ⟨A6, c6, rfl, _, _, _⟩ := own_shape hO
              clear hG
              replace hO := Lib.hid hO
              go_wp2_with fail
              go_ret
              exact ⟨rfl, hb⟩
            | cons x T =>
              obtain ⟨b, c6, rfl, hc1, hc2, hc3, hc4⟩ := own_some hO (by simp)
              obtain ⟨_, _, _, e, _, _, _, f⟩ := msgs_at hO.view (by simp)
              injection e with e1 e2 e3
              injection e1 with e1
              injection e1 with e4 e5 e6
              subst e4 e5 e3
              obtain ⟨r0, r1, r2, r3, r4, r5⟩ := f 0 (by simp)
              simp only [List.getElem_cons_zero, Nat.zero_mul, Nat.zero_add] at r0 r1 r2 r3 r4 r5
              have hid0 : idxI unclaimed (x :: T) = ((0 : Nat) : Int) := idxI_at (by simp) (hG.low x (List.mem_cons_self ..)).1 (fun j _ h => by omega)
              have hid1 : idxI (byId x.id) (x :: T) = ((0 : Nat) : Int) := idxI_at (by simp) (by simp [byId]) (fun j _ h => by omega)
              have hbq : b ≠ q := fun e => hnq (by rw [e]; rfl)
              have hql := hbx.lt
              have hlen : (x :: T).length = T.length + 1 := rfl
              have hcc := hy.out x (List.mem_cons_self ..)
              have hms := Lib.hid (fun W => refMsgs_any W y x)
              unfold Msg.cells at hms
              generalize cmpM y x = cc at *
              have q5 : ¬ (0 : Int) ≤ cc := by omega
              have q6 : decide (0 ≤ cc) = false := decide_eq_false q5
              have kl := Lib.hid (least_any wr _ (x :: T) hO.view (by omega))
              rw [hid0] at kl
              have hS0 : ∀ W, Below wr.heap.size wr W → _ := fun W (hW : Below wr.heap.size wr W) =>
                (⟨⟨(hbx.below hW).cell 0, (hbx.below hW).cell 1, (hbx.below hW).cell 2, (hbx.below hW).cell 3, (hbx.below hW).cell 4, (hbx.below hW).cell 5⟩,
                  (hW.cell (p := ⟨b, _, none⟩) hc4).trans r0, (hW.cell (p := ⟨b, _, none⟩) hc4).trans r1, (hW.cell (p := ⟨b, _, none⟩) hc4).trans r2, (hW.cell (p := ⟨b, _, none⟩) hc4).trans r3, (hW.cell (p := ⟨b, _, none⟩) hc4).trans r4, (hW.cell (p := ⟨b, _, none⟩) hc4).trans r5⟩ :
                (W.cell? ⟨q, 0, none⟩ = some (.int .i64 y.id) ∧ W.cell? ⟨q, 1, none⟩ = some (.int .i64 y.pri) ∧ W.cell? ⟨q, 2, none⟩ = some (.int .i64 y.retry) ∧ W.cell? ⟨q, 3, none⟩ = some (.bool y.claimed) ∧ W.cell? ⟨q, 4, none⟩ = some (.string y.corr) ∧ W.cell? ⟨q, 5, none⟩ = some (.string y.body)) ∧ (W.cell? ⟨b, 0, none⟩ = some (.int .i64 x.id) ∧ W.cell? ⟨b, 1, none⟩ = some (.int .i64 x.pri) ∧ W.cell? ⟨b, 2, none⟩ = some (.int .i64 x.retry) ∧ W.cell? ⟨b, 3, none⟩ = some (.bool x.claimed) ∧ W.cell? ⟨b, 4, none⟩ = some (.string x.corr) ∧ W.cell? ⟨b, 5, none⟩ = some (.string x.body)))
              replace hS0 := Lib.hid hS0
              clear f r0 r1 r2 r3 r4 r5 hG
              replace hO := Lib.hid hO
              replace hbx := Lib.hid hbx
              replace hid1 := Lib.hid hid1
              go_wp2_with fail
              refine kl.out.mono ?_; rintro e w6 ⟨rfl, hb6⟩
              have hb6' := Lib.hid hb6
              have hS := Lib.hid (fun W (hW : Below w6.heap.size w6 W) => hS0.out W (below_then hb6'.out hW))
              clear hS0 hb6 kl
              go_upto_region 23 with fail
              refine tl_begin (fun (w' : World) => (w'.cell? ⟨q, 0, none⟩ = some (.int .i64 y.id) ∧ w'.cell? ⟨q, 1, none⟩ = some (.int .i64 y.pri) ∧ w'.cell? ⟨q, 2, none⟩ = some (.int .i64 y.retry) ∧ w'.cell? ⟨q, 3, none⟩ = some (.bool y.claimed) ∧ w'.cell? ⟨q, 4, none⟩ = some (.string y.corr) ∧ w'.cell? ⟨q, 5, none⟩ = some (.string y.body)) ∧ (w'.cell? ⟨b, 0, none⟩ = some (.int .i64 x.id) ∧ w'.cell? ⟨b, 1, none⟩ = some (.int .i64 x.pri) ∧ w'.cell? ⟨b, 2, none⟩ = some (.int .i64 x.retry) ∧ w'.cell? ⟨b, 3, none⟩ = some (.bool x.claimed) ∧ w'.cell? ⟨b, 4, none⟩ = some (.string x.corr) ∧ w'.cell? ⟨b, 5, none⟩ = some (.string x.body))) [] (by kernel_rfl) (hS.out _ (Below.drew (Below.refl _ _))) (fun hHeld => ?_)
              refine tl_p (i := 0) (v := ?_) rfl (by rfl) (by kernel_rfl) (by kernel_rfl) (by kernel_rfl) (fun _ _ _ h => h) (by rfl) hHeld ?_ ?_
              rotate_left
              · intro w
                go_simp
                try (with_reducible rfl)
              try simp only [Act.put, List.setIfInBounds_toArray, List.set_cons_zero, List.set_cons_succ]
              refine tl_p (i := 1) (v := ?_) rfl (by rfl) (by kernel_rfl) (by kernel_rfl) (by kernel_rfl) (fun _ _ _ h => h) (by rfl) hHeld ?_ ?_
              rotate_left
              · intro w
                go_simp
                try (with_reducible rfl)
              try simp only [Act.put, List.setIfInBounds_toArray, List.set_cons_zero, List.set_cons_succ]
              refine tl_p (i := 2) (v := ?_) rfl (by rfl) (by kernel_rfl) (by kernel_rfl) (by kernel_rfl) (fun _ _ _ h => h) (by rfl) hHeld ?_ ?_
              rotate_left
              · intro w
                go_simp
                try (with_reducible rfl)
              try simp only [Act.put, List.setIfInBounds_toArray, List.set_cons_zero, List.set_cons_succ]
              refine tl_w (i := 3) (v := ?_) rfl (by rfl) (by kernel_rfl) (by kernel_rfl) (by kernel_rfl) (by kernel_rfl) (by kernel_rfl) (fun _ _ _ h => h) (by rfl) hHeld ?_ ?_
              rotate_left
              · intro w hSw
                try dsimp only at hSw
                go_simp
                try (with_reducible rfl)
              try simp only [Act.put, List.setIfInBounds_toArray, List.set_cons_zero, List.set_cons_succ]
              refine tl_p (i := 4) (v := ?_) rfl (by rfl) (by kernel_rfl) (by kernel_rfl) (by kernel_rfl) (fun _ _ _ h => h) (by rfl) hHeld ?_ ?_
              rotate_left
              · intro w
                go_simp
                try (with_reducible rfl)
              try simp only [Act.put, List.setIfInBounds_toArray, List.set_cons_zero, List.set_cons_succ]
              refine tl_p (i := 5) (v := ?_) rfl (by rfl) (by kernel_rfl) (by kernel_rfl) (by kernel_rfl) (fun _ _ _ h => h) (by rfl) hHeld ?_ ?_
              rotate_left
              · intro w
                go_simp
                try (with_reducible rfl)
              try simp only [Act.put, List.setIfInBounds_toArray, List.set_cons_zero, List.set_cons_succ]
              refine tl_w (i := 6) (v := ?_) rfl (by rfl) (by kernel_rfl) (by kernel_rfl) (by kernel_rfl) (by kernel_rfl) (by kernel_rfl) (fun _ _ _ h => h) (by rfl) hHeld ?_ ?_
              rotate_left
              · intro w hSw
                try dsimp only at hSw
                go_simp
                try (with_reducible rfl)
              try simp only [Act.put, List.setIfInBounds_toArray, List.set_cons_zero, List.set_cons_succ]
              refine tl_do (i := 7) rfl (by kernel_rfl) (by rfl) (fun K hK => ?_)
              go_simp
              go_at_call 34
              refine (hms.out _).mono ?_; rintro e w7 ⟨rfl, hb7⟩
              have hbd := Lib.hid (below_then (Below.drew (Below.refl _ _)) hb7)
              try go_wp2_with fail
              refine hK.out _ _ (hS.out _ hbd.out) (fun hHeld1 => ?_)
              clear hK K hHeld
              have hHeld := hHeld1
              clear hHeld1
              try simp only [Act.put, List.setIfInBounds_toArray, List.set_cons_zero, List.set_cons_succ]
              refine tl_p (i := 8) (v := ?_) rfl (by rfl) (by kernel_rfl) (by kernel_rfl) (by kernel_rfl) (fun _ _ _ h => h) (by rfl) hHeld ?_ ?_
              rotate_left
              · intro w
                go_simp
                try (with_reducible rfl)
              try simp only [Act.put, List.setIfInBounds_toArray, List.set_cons_zero, List.set_cons_succ]
              refine tl_p (i := 9) (v := ?_) rfl (by rfl) (by kernel_rfl) (by kernel_rfl) (by kernel_rfl) (fun _ _ _ h => h) (by rfl) hHeld ?_ ?_
              rotate_left
              · intro w
                go_simp
                try (with_reducible rfl)
              try simp only [Act.put, List.setIfInBounds_toArray, List.set_cons_zero, List.set_cons_succ]
              refine till_done (by kernel_rfl) ?_ _
              obtain ⟨⟨c0, c1', c2', c3', c4', c5'⟩, d0, d1, d2, d3, d4, d5⟩ := hS.out _ hbd.out
              have hb7' := below_then hb6'.out hbd.out
              have hbx7 := hbx.out.below hb7'
              have hO7 := own_below hO.out hb7'
              have f0 := hbx7.frozen 0
              have f1 := hbx7.frozen 1
              have f2 := hbx7.frozen 2
              have f3 := hbx7.frozen 3
              have f4 := hbx7.frozen 4
              have f5 := hbx7.frozen 5
              have hbB := below_then hb hb7'
              have hql7 := hbx7.lt
              clear hHeld hbd hb7 hS hb7' hb6' hms hO hbx hb
              replace hO7 := Lib.hid hO7
              replace hbB := Lib.hid hbB
              replace hbx7 := Lib.hid hbx7
              go_upto_region 26 with fail
              have hW8 : Whole (set6 w7 q (.int .i64 x.id) (.int .i64 x.pri) (.int .i64 x.retry) (.bool x.claimed) (.string x.corr) (.string x.body)) q 34 #[.int .i64 x.id, .int .i64 x.pri, .int .i64 x.retry, .bool x.claimed, .string x.corr, .string x.body] := set6_whole _ _ _ _ _ _ hbx7.out
              have hup := set6_upd w7 q (.int .i64 x.id) (.int .i64 x.pri) (.int .i64 x.retry) (.bool x.claimed) (.string x.corr) (.string x.body)
              have hO8 : OMsgs (set6 w7 q (.int .i64 x.id) (.int .i64 x.pri) (.int .i64 x.retry) (.bool x.claimed) (.string x.corr) (.string x.body)) w.heap.size (.slice (some ⟨b, 0, none⟩) (T.length + 1) c6) (x :: T) := own_upd hO7.out hup (fun b' hb' e => hnq (by subst e; exact hb'))
              have hB8 := hbB.out.trans (hup.below hbB.out.size (fun b' e => by rw [e]; exact hqs))
              have hq8 := hW8.lt
              unfold set6 at hW8 hO8 hB8 hq8
              clear hup
              generalize (((((w7.setCell { block := q, off := 0 } (Value.int IntKind.i64 x.id)).setCell { block := q, off := 1 } (Value.int IntKind.i64 x.pri)).setCell { block := q, off := 2 } (Value.int IntKind.i64 x.retry)).setCell { block := q, off := 3 } (Value.bool x.claimed)).setCell { block := q, off := 4 } (Value.string x.corr)).setCell { block := q, off := 5 } (Value.string x.body) = w8 at *
              clear c0 c1' c2' c3' c4' c5' d0 d1 d2 d3 d4 d5 f0 f1 f2 f3 f4 f5 hbx7 hO7 hbB hql7
              have z0 : w8.cell? ⟨q, 0, none⟩ = some (.int .i64 x.id) := hW8.cell 0
              have kq := Lib.hid (cut_any w8 _ (x :: T) x.id hO8.view (by omega) 0 (by simp) hid1.out)
              replace hW8 := Lib.hid hW8
              replace hO8 := Lib.hid hO8
              go_wp2_with fail
              refine kq.out.mono ?_; rintro e w9 ⟨v9, rfl, ho9, hb9⟩
              have hW9 := Lib.hid (hW8.out.below hb9)
              have hB9 := Lib.hid (below_then hB8 hb9)
              replace ho9 : OMsgs w9 w8.heap.size v9 T := ho9
              have hnq9 : v9.ownBlock ≠ some q := fun e => by have := (ho9.lt _ e).1; omega
              have ho10 := Lib.hid (own_mono ho9 hB8.size)
              obtain ⟨A9, c9, rfl, _, _, _⟩ := own_shape ho9
              have hup := (List.pairwise_cons.1 hG'.out.up).1
              clear ho9 z0
              replace hup := Lib.hid hup
              go_wp2_with fail
              go_roundw
              case rel => exact ⟨T, x, hG'.out.tail, by omega, ho10.out, fun z hz => by rw [cmpM_ord]; exact (hup.out z hz).1, hW9.out, hnq9, hB9.out⟩
              case measure => simp [lenV]
theorem int_enc (l : List Int) : l.flatMap (Kd.enc (.int .i64)) = l.map (.int .i64) := by
  induction l with
  | nil => rfl
  | cons a l ih => rw [List.flatMap_cons, ih]; rfl
theorem queueOrder_walk (W : World) (A : Option Addr) (n c : Nat) (x : (Kd.sl 3 (.int .i64)).T) (z : Rd Try.prog W (.sl 3 (.int .i64)) [.slice A n c] x) (A2 : Option Addr) (n2 c2 : Nat) (x2 : (Kd.sl 3 (.int .i64)).T) (z2 : Rd Try.prog W (.sl 3 (.int .i64)) [.slice A2 n2 c2] x2) :
    Calls Try.prog 11 #[.slice A n c, .slice A2 n2 c2] W fun e w' => e = .returned (.bool true) ∧ Below W.heap.size W w' := by
  have hv := rd_view_flat rfl z
  obtain ⟨A', c', e, _, _⟩ := View.cells hv
  injection e with e1 e2 e3
  subst e1 e2 e3
  rw [int_enc x] at hv
  have hv2 := rd_view_flat rfl z2
  obtain ⟨A', c', e, _, _⟩ := View.cells hv2
  injection e with e1 e2 e3
  subst e1 e2 e3
  rw [int_enc x2] at hv2
  exact order_core W A A2 c c2 x x2 hv hv2
end Go.Proofs.Ytbckobclicogiaa
