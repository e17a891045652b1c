/-
  log.Records, posteref1.SameBytes; postelaw5's text and num, each by its contract.
-/
import Derived.Test.YtbfcaapompkjhaaHf
import Derived.Test.YtbfcaapompkjhaaGg
set_option linter.unusedVariables false
set_option linter.unusedSimpArgs false
namespace Go.Proofs.Ytbfcaapompkjhaa
open Go.RowKit Go.Proofs.PosteMem
attribute [local go_sem ↓] Go.wp_at_zero Go.wp_at_succ

/-- A row of texts of its own. -/
def BL (W : World) (B : Nat) (v : Value) (L : List (List Int)) : Prop := ∃ hs, W.ownsRow B 27 1 v L.length hs ∧ hs.length = L.length ∧ (∀ i (h1 : i < hs.length) (h2 : i < L.length), VB W hs[i] L[i]) ∧ ∀ i (h1 : i < hs.length) x, blockOf hs[i] = some x → B ≤ x ∧ v.ownBlock ≠ some x ∧ x < W.heap.size
/-- Texts that are read. -/
def VL (W : World) (v : Value) (L : List (List Int)) : Prop := ∃ hs, View W 1 v L.length hs ∧ hs.length = L.length ∧ ∀ i (h1 : i < hs.length) (h2 : i < L.length), VB W hs[i] L[i]
theorem BL.vl {W : World} {B : Nat} {v : Value} {L : List (List Int)} (h : BL W B v L) : VL W v L := by
  obtain ⟨hs, h1, h2, h3, _⟩ := h
  exact ⟨hs, View.of_own h1, h2, h3⟩
theorem BL.below {W W' : World} {B : Nat} {v : Value} {L : List (List Int)} (h : BL W B v L) (k : Below W.heap.size W W') : BL W' B v L := by
  obtain ⟨hs, h1, h2, h3, h4⟩ := h
  exact ⟨hs, own_below h1 k, h2, fun i a b => View.below (h3 i a b) k, fun i a x hx => ⟨(h4 i a x hx).1, (h4 i a x hx).2.1, Nat.lt_of_lt_of_le (h4 i a x hx).2.2 k.size⟩⟩
theorem VL.below {W W' : World} {v : Value} {L : List (List Int)} (h : VL W v L) (k : Below W.heap.size W W') : VL W' v L := by
  obtain ⟨hs, h1, h2, h3⟩ := h
  exact ⟨hs, View.below h1 k, h2, fun i a b => View.below (h3 i a b) k⟩
theorem BL.add {W W' : World} {B : Nat} {v v' hd : Value} {L : List (List Int)} {b : List Int} {hs : List Value} (h2 : hs.length = L.length) (h3 : ∀ i (h1 : i < hs.length) (h2 : i < L.length), VB W hs[i] L[i]) (h4 : ∀ i (h1 : i < hs.length) x, blockOf hs[i] = some x → B ≤ x ∧ v.ownBlock ≠ some x ∧ x < W.heap.size)
    (hg : W.grownBy W' v.ownBlock) (ho : W'.ownsRow B 27 1 v' (L.length + 1) (hs ++ [hd])) (hat : v'.ownBlock = v.ownBlock ∨ v'.ownBlock = some W.heap.size) (hv : VB W hd b) (hx : ∀ x, blockOf hd = some x → B ≤ x ∧ v.ownBlock ≠ some x ∧ x < W.heap.size) : BL W' B v' (L ++ [b]) := by
  have hup : Upd (fun b => v.ownBlock = some b) W W' := Upd.of_grown hg (fun _ e => e)
  have hne : ∀ x, v.ownBlock ≠ some x → x < W.heap.size → v'.ownBlock ≠ some x := fun x hn hl e => by
    rcases hat with e2 | e2
    · exact hn (e2 ▸ e)
    · rw [e2] at e; injection e with e; omega
  refine ⟨hs ++ [hd], by simpa using ho, by simp [h2], fun i a c => ?_, fun i a x hx2 => ?_⟩
  · by_cases hi : i < hs.length
    · rw [List.getElem_append_left hi, List.getElem_append_left (by omega)]
      exact View.upd (h3 i hi (by omega)) hup fun b hb e => (h4 i hi b hb).2.1 e
    · have e : i = hs.length := by simp at a; omega
      subst e
      rw [List.getElem_append_right (Nat.le_refl _), List.getElem_append_right (by omega)]
      simp only [Nat.sub_self, h2, List.getElem_cons_zero]
      exact View.upd hv hup fun b hb e => (hx b hb).2.1 e
  · by_cases hi : i < hs.length
    · rw [List.getElem_append_left hi] at hx2
      have o := h4 i hi x hx2
      exact ⟨o.1, hne x o.2.1 o.2.2, Nat.lt_of_lt_of_le o.2.2 hup.size⟩
    · have e : i = hs.length := by simp at a; omega
      subst e
      rw [List.getElem_append_right (Nat.le_refl _)] at hx2
      simp only [Nat.sub_self, List.getElem_cons_zero] at hx2
      have o := hx x hx2
      exact ⟨o.1, hne x o.2.1 o.2.2, Nat.lt_of_lt_of_le o.2.2 hup.size⟩

set_option maxRecDepth 100000 in
set_option maxHeartbeats 8000000 in
theorem records_any {w W : World} {p q : Nat} {D : Dk} {g : Lg} {K : Nat → Prop} (h : Lo w W p q D g K) (hs5 : g.recs.length ≤ 10000) (hrl : ∀ b ∈ g.recs, b.length ≤ 1000000) :
    Calls Try.prog 47 #[.pointer (some ⟨q, 0, none⟩)] W fun e w' => ∃ v, e = .returned v ∧ BL w' W.heap.size v g.recs ∧ Below W.heap.size W w' := by
  obtain ⟨i0, hi0, hz0, hz1, hz2⟩ := info_parts infoBs
  obtain ⟨v0, hs, M, hL⟩ := h
  have hrv := View.of_own hL.row
  obtain ⟨Av, cv, rfl, _, _⟩ := hrv.cells
  have c5 : W.cell? ⟨q, 5, none⟩ = some (.slice Av g.recs.length cv) := hL.box.cell 5
  have hrs := hL.rs
  generalize g.recs = L at *
  have hql := hL.box.lt
  replace hrs := Lib.hid hrs
  replace hrv := Lib.hid hrv
  replace hrl := Lib.hid hrl
  clear hL
  go_enter Try.func47, Try.ntmps47
  go_wp2_with fail
  go_loopw [3, 13] (fun v i wr => ∃ k : Nat, k ≤ L.length ∧ i = .int .i64 k ∧ BL wr W.heap.size v (L.take k) ∧ Below W.heap.size W wr) (fun _ i _ => L.length - (intOf i).toNat)
  case atStart => exact ⟨0, by omega, rfl, ⟨[], World.ownsRow_nil _ _ _ _, rfl, fun i h1 => (by cases h1), fun i h1 => (by cases h1)⟩, Below.refl _ _⟩
  case round =>
    obtain ⟨k, hk, rfl, hB, hb⟩ := hrel
    by_cases hlt : k < L.length
    · have q1 : (k : Int) < (L.length : Int) := by omega
      have hkh : k < hs.length := by rw [hrs.out.len]; exact hlt
      obtain ⟨lb, lo, lc, e2, _, _, hll, hlc⟩ := View.at_ (View.below hrv.out hb) (by omega)
      injection e2 with e2 e3 e4
      subst e2 e4
      have d0 := hlc k hs[k] (List.getElem?_eq_getElem hkh)
      have hvk := View.below (hrs.out.view k hkh hlt) hb
      have hkl := hrl.out _ (List.getElem_mem hlt)
      have htk : L.take (k + 1) = L.take k ++ [L[k]] := by rw [List.take_add_one, List.getElem?_eq_getElem hlt]; rfl
      have htl : (L.take k).length = k := by rw [List.length_take]; omega
      generalize L[k] = b at *
      generalize hs[k] = hv at *
      obtain ⟨Ab, cb, rfl, _, _⟩ := hvk.cells
      have kC := Lib.hid (cloneB wr _ b hvk hkl)
      obtain ⟨hs1, g1, g2, g3, g4⟩ := hB
      rw [htl] at g1
      obtain ⟨Ao, co, rfl, _, _, _⟩ := own_shape g1
      have hbs := hb.size
      replace g1 := Lib.hid g1
      replace g3 := Lib.hid g3
      replace g4 := Lib.hid g4
      replace htk := Lib.hid htk
      clear hlc hvk
      go_wp2_with fail
      refine kC.out.mono ?_; rintro e w9 ⟨v9, rfl, ho9, hb9⟩
      have hx9 := Lib.hid (fun x (hx : blockOf v9 = some x) => own_lt ho9 ((block_own v9).symm.trans hx))
      have hv9' := ho9.view
      obtain ⟨A9, c9, rfl, _, _, _⟩ := own_shape ho9
      have hv9 := Lib.hid (show VB w9 (.slice A9 b.length c9) b from hv9')
      have g1' := Lib.hid (own_below g1.out hb9)
      have hb9s := hb9.size
      clear ho9 hv9'
      go_wp2_with (at_builtin; refine wpList_append_view _ rfl (.tmp 17) (.tmp 20) _ rfl W.heap.size 27 i0 (.slice none 0 0) 1 24 Try.underlying41 hi0 hz0 hz1 hz2 rfl (by omega) (.slice Ao k co) k hs1 rfl (g1'.out.alloc _) (.slice (some ⟨w9.heap.size, 0, none⟩) 1 1) 1 [.slice A9 b.length c9] rfl (View.boxAt _ _ _ _ rfl rfl) (by intro u hu; simp only [List.mem_cons, List.not_mem_nil, or_false] at hu; rcases hu with rfl; rfl) (by omega) (by simp only [maxLen]; omega) (by simp; omega) ?_; intro v2 w2 hown2 hg2 hat2)
      have hfin : BL w2 W.heap.size v2 (L.take (k + 1)) := by
        rw [htk.out]
        refine BL.add (W := w9.alloc (.cells #[.slice A9 b.length c9] 27)) g2 (fun i h1 h2 => View.alloc (View.below (g3.out i h1 h2) hb9) _) (fun i h1 x hx => ?_) hg2 (by rw [htl]; exact hown2) hat2 (View.alloc hv9.out _) (fun x hx => ?_)
        · have o := g4.out i h1 x hx
          exact ⟨o.1, o.2.1, by have := o.2.2; simp; omega⟩
        · have h1 := hx9.out x hx
          refine ⟨by omega, fun e => ?_, by simp; omega⟩
          have := (g1.out.lt x e).2
          omega
      have hbF := ((below_then hb hb9).alloc (by omega) (.cells #[.slice A9 b.length c9] 27)).grown hg2 (by simp; omega) (fun j hj => (g1.out.lt j hj).1)
      replace hfin := Lib.hid hfin
      replace hbF := Lib.hid hbF
      clear hown2 hg2 hat2
      go_roundw
      case rel => exact ⟨k + 1, by omega, by go_num, hfin.out, hbF.out⟩
      case measure => simp [intOf]; omega
    · obtain rfl : k = L.length := by omega
      rw [List.take_length] at hB
      have q1 : ¬ (L.length : Int) < (L.length : Int) := by omega
      replace hB := Lib.hid hB
      go_wp2_with fail
      go_ret
      exact ⟨_, rfl, hB.out, hb⟩

theorem strOf_same {a b : List Int} (h : a = b) : ((strOf a).toList != (strOf b).toList) = false := by rw [h]; simp
set_option maxRecDepth 100000 in
set_option maxHeartbeats 8000000 in
theorem sameBytes_any (w : World) (v1 v2 : Value) (a : List (List Int)) (h1 : VL w v1 a) (h2 : VL w v2 a) (hla : a.length ≤ 1000000) :
    Calls Try.prog 51 #[v1, v2] w fun e w' => e = .returned (.bool true) ∧ Below w.heap.size w w' := by
  obtain ⟨hs1, g1, g2, g3⟩ := h1
  obtain ⟨hs2, k1, k2, k3⟩ := h2
  obtain ⟨A1, c1, rfl, _, _⟩ := g1.cells
  obtain ⟨A2, c2, rfl, _, _⟩ := k1.cells
  replace g1 := Lib.hid g1
  replace k1 := Lib.hid k1
  replace g3 := Lib.hid g3
  replace k3 := Lib.hid k3
  go_enter Try.func51, Try.ntmps51
  go_wp2_with fail
  go_loopw [5] (fun i wr => ∃ k : Nat, k ≤ a.length ∧ i = .int .i64 k ∧ Below w.heap.size w wr) (fun i _ => a.length - (intOf i).toNat)
  case atStart => exact ⟨0, by omega, rfl, Below.refl _ _⟩
  case round =>
    obtain ⟨k, hk, rfl, hb⟩ := hrel
    by_cases hlt : k < a.length
    · have q1 : (k : Int) < (a.length : Int) := by omega
      have hk1 : k < hs1.length := by omega
      have hk2 : k < hs2.length := by omega
      obtain ⟨b1, o1, lc1, e2, _, _, hl1, hlc1⟩ := View.at_ (View.below g1.out hb) (by omega)
      injection e2 with e2 e3 e4
      subst e2 e4
      obtain ⟨b2, o2, lc2, e2, _, _, hl2, hlc2⟩ := View.at_ (View.below k1.out hb) (by omega)
      injection e2 with e2 e3 e4
      subst e2 e4
      have hcc1 := hlc1 k hs1[k] (List.getElem?_eq_getElem hk1)
      have hcc2 := hlc2 k hs2[k] (List.getElem?_eq_getElem hk2)
      have hx1 := View.below (g3.out k hk1 hlt) hb
      have hx2 := View.below (k3.out k hk2 hlt) hb
      generalize hs1[k] = u1 at *
      generalize hs2[k] = u2 at *
      generalize a[k] = x at *
      obtain ⟨X1, e1, rfl, _, _⟩ := hx1.cells
      obtain ⟨X2, e2, rfl, _, _⟩ := hx2.cells
      obtain ⟨y, hy⟩ : ∃ y, y = x := ⟨x, rfl⟩
      clear hlc1 hlc2
      go_wp2_with fail
      have hcv1 := fun n => conv_any (wr.drewN n) _ _ (View.drewN hx1 n)
      have hcv2 := fun n => conv_any (wr.drewN n) _ _ (View.drewN hx2 n)
      go_quiet (fail)
      go_wp2_with fail
      go_roundw
      case rel => exact ⟨k + 1, by omega, by go_num, below_dn _ hb⟩
      case measure => simp [intOf]; omega
    · obtain rfl : k = a.length := by omega
      have q1 : ¬ (a.length : Int) < (a.length : Int) := by omega
      go_wp2_with fail
      go_ret
      exact ⟨rfl, hb⟩
end Go.Proofs.Ytbfcaapompkjhaa
