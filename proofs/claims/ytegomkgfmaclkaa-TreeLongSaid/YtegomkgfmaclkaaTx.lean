/-
  TreeOrder: plain facts and its walk.
-/
import Derived.Test.YtegomkgfmaclkaaTw
import Derived.Test.YtegomkgfmaclkaaBits
import Derived.Test.YtegomkgfmaclkaaMk
import Derived.Test.YtegomkgfmaclkaaOpenV
set_option linter.unusedVariables false
set_option linter.unusedSimpArgs false
namespace Go.Proofs.Ytegomkgfmaclkaa
open Go.RowKit Go.Proofs.PosteOrd Go.Proofs.PosteMem Go.Proofs.PosteOpen

def far (left : List Bool) (k : Nat) : Nat := (List.range left.length).findIdx fun d => left.getD ((k + d) % left.length) true
theorem far_lt {left : List Bool} {k : Nat} (hk : k < left.length) (h : ∃ j, j < left.length ∧ left.getD j true = true) : far left k < left.length ∧ left.getD ((k + far left k) % left.length) true = true := by
  obtain ⟨j, hj, hl⟩ := h
  have h1 : far left k < (List.range left.length).length := by
    refine List.findIdx_lt_length_of_exists ⟨(j + left.length - k) % left.length, ?_, ?_⟩
    · rw [List.mem_range]; exact Nat.mod_lt _ (by omega)
    · have : (k + (j + left.length - k) % left.length) % left.length = j := by
        rw [Nat.add_mod_mod, show k + (j + left.length - k) = j + left.length by omega, Nat.add_mod_right, Nat.mod_eq_of_lt hj]
      show left.getD _ true = true
      rw [this]; exact hl
  refine ⟨by simpa using h1, ?_⟩
  have h2 := List.findIdx_getElem (p := fun d => left.getD ((k + d) % left.length) true) (xs := List.range left.length) (w := h1)
  simpa [far] using h2
theorem far_step {left : List Bool} {k : Nat} (hk : k < left.length) (h : ∃ j, j < left.length ∧ left.getD j true = true) (hl : left.getD k true = false) : far left ((k + 1) % left.length) < far left k := by
  obtain ⟨h1, h2⟩ := far_lt hk h
  have h0 : far left k ≠ 0 := fun e => by
    rw [e, Nat.add_zero, Nat.mod_eq_of_lt hk, hl] at h2
    cases h2
  have h3 : far left ((k + 1) % left.length) ≤ far left k - 1 := by
    rcases Nat.lt_or_ge (far left k - 1) (far left ((k + 1) % left.length)) with h4 | h4
    · have h5 := List.not_of_lt_findIdx (p := fun d => left.getD (((k + 1) % left.length + d) % left.length) true) (xs := List.range left.length) (i := far left k - 1) h4
      simp only [List.getElem_range, Nat.mod_add_mod] at h5
      rw [show k + 1 + (far left k - 1) = k + far left k by omega] at h5
      exact absurd h2 (by simpa using h5)
    · exact h4
  omega
/-- Bools in a row of the call's own, as they were made. -/
def OB (w : World) (B g n : Nat) (l : List Bool) : Prop := w.ownsRow B 4 1 (.slice (some ⟨g, 0, none⟩) n n) n (l.map .bool)
theorem OB.set {w : World} {B g n : Nat} {l : List Bool} (h : OB w B g n l) (k : Nat) (hk : k < n) (b : Bool) : OB (w.setCell ⟨g, k, none⟩ (.bool b)) B g n (l.set k b) := by
  unfold OB at h ⊢
  rw [List.map_set]
  exact own_set h k (by omega) _
theorem OB.len {w : World} {B g n : Nat} {l : List Bool} (h : OB w B g n l) : l.length = n := by
  have := h.1
  simpa using this
theorem OB.cell {w : World} {B g n : Nat} {l : List Bool} (h : OB w B g n l) (k : Nat) (hk : k < n) : w.cell? ⟨g, k, none⟩ = some (.bool (l.getD k true)) := by
  have h1 := own_cell h k (by omega)
  have h2 : k < l.length := by rw [h.len]; exact hk
  rw [h1]
  simp [List.getD_eq_getElem?_getD, h2]
theorem ints_at {W : World} {A : Option Addr} {cap : Nat} {l : List Int} (h : View W 1 (.slice A l.length cap) l.length (l.map (.int .i64))) (k : Nat) (hk : k < l.length) :
    ∃ b off, A = some ⟨b, off, none⟩ ∧ b < W.heap.size ∧ W.cell? ⟨b, off + k, none⟩ = some (.int .i64 (l.getD k 0)) := by
  obtain ⟨lb, lo, lc, e2, _, _, hll, hlc⟩ := h.at_ (show 0 < l.length * 1 by omega)
  injection e2 with e2 e3 e4
  exact ⟨lb, lo, e2, hll, hlc k _ (by simp [hk, List.getD_eq_getElem?_getD])⟩
theorem made_one (n : Nat) : (madeCells (Value.bool false).cells (n * 1)).toList = List.replicate n (.bool false) := by
  rw [Nat.mul_one]
  exact toList_madeCells_one _ _
theorem tmodn (x : Int) (n : Nat) (h : 0 < n) : ∃ K : Nat, Int.tmod (bits .and .i64 x 1023) (n : Int) = (K : Int) ∧ K < n := by
  have e : bits .and .i64 x 1023 = x % 1024 := Go.Proofs.PosteMem.bits_mask x 10 (by decide)
  rw [e, Int.tmod_eq_emod_of_nonneg (by omega)]
  have h1 := Int.emod_nonneg (x % 1024) (show (n : Int) ≠ 0 by omega)
  have h2 := Int.emod_lt_of_pos (x % 1024) (show (0 : Int) < n by omega)
  exact ⟨(x % 1024 % n).toNat, by omega, by omega⟩
theorem getD_not {l : List Bool} {k : Nat} (hk : k < l.length) : (l.map (fun b => !b)).getD k true = !(l.getD k true) := by
  simp [List.getD_eq_getElem?_getD, hk]
theorem some_free {l : List Bool} (h : l.count true < l.length) : ∃ k, k < (l.map (fun b => !b)).length ∧ (l.map (fun b => !b)).getD k true = true := by
  have h2 : ¬ ∀ b ∈ l, true = b := fun h3 => by
    have : l.count true = l.length := List.count_eq_length.2 h3
    omega
  simp only [Classical.not_forall] at h2
  obtain ⟨b, hb, hb2⟩ := h2
  obtain ⟨k, hk, rfl⟩ := List.getElem_of_mem hb
  refine ⟨k, by simpa using hk, ?_⟩
  rw [getD_not hk]
  simp [List.getD_eq_getElem?_getD, hk]
  simpa using hb2
def RK (j : Nat) : Row := ⟨keyN (7 * j), ⟨#[118]⟩⟩
def Fill (P : Nat → Prop) (L : List Row) : Prop := ∀ y, y ∈ L ↔ ∃ j, j < 100 ∧ P j ∧ y = RK j
theorem RK_inj {i j : Nat} (hi : i < 100) (hj : j < 100) (h : (RK i).key = (RK j).key) : i = j := by
  have := keyN_inj (a := 7 * i) (b := 7 * j) (by omega) (by omega) h
  omega
theorem Fill.put {P : Nat → Prop} {L : List Row} {k : Nat} (hs : Srt L) (hF : Fill P L) (hk : k < 100) (hn : ¬ P k) : Fill (fun j => P j ∨ j = k) (putS L (RK k)) ∧ (putS L (RK k)).length = L.length + 1 := by
  have hne : ∀ y ∈ L, y.key ≠ (RK k).key := fun y hy e => by
    obtain ⟨j, hj, hp, rfl⟩ := (hF y).1 hy
    obtain rfl := RK_inj hj hk e
    exact hn hp
  refine ⟨fun y => ⟨fun hy => ?_, ?_⟩, ?_⟩
  · rcases putS_mem hy with rfl | hy
    · exact ⟨k, hk, .inr rfl, rfl⟩
    · obtain ⟨j, hj, hp, e⟩ := (hF y).1 hy
      exact ⟨j, hj, .inl hp, e⟩
  · rintro ⟨j, hj, hp | rfl, rfl⟩
    · have hm := (hF (RK j)).2 ⟨j, hj, hp, rfl⟩
      rcases putS_old (x := RK k) hm with h | h
      · exact h
      · exact absurd h (hne _ hm)
    · exact putS_has L _
  · rw [putS_len, if_neg]
    intro hh
    obtain ⟨r, h1, h2⟩ := (hit_mem hs).1 hh
    exact hne r h1 h2
theorem Fill.congr {P Q : Nat → Prop} {L : List Row} (h : Fill P L) (e : ∀ j, j < 100 → (P j ↔ Q j)) : Fill Q L := fun y => by
  rw [h y]
  constructor
  · rintro ⟨j, a, b, c⟩; exact ⟨j, a, (e j a).1 b, c⟩
  · rintro ⟨j, a, b, c⟩; exact ⟨j, a, (e j a).2 b, c⟩
theorem Fill.none : Fill (fun _ => False) [] := fun y => ⟨fun h => (by cases h), fun ⟨_, _, h, _⟩ => h.elim⟩
theorem used_set {l : List Bool} {k : Nat} (hk : k < l.length) (hf : l.getD k true = false) : (∀ j, (j < l.length ∧ l.getD j true = true) ∨ j = k ↔ (j < (l.set k true).length ∧ (l.set k true).getD j true = true)) ∧ (l.set k true).count true = l.count true + 1 := by
  have hk' : l[k] = false := by simpa [List.getD_eq_getElem?_getD, List.getElem?_eq_getElem hk] using hf
  constructor
  · intro j
    rw [List.length_set, List.getD_eq_getElem?_getD, List.getD_eq_getElem?_getD, List.getElem?_set]
    by_cases e : k = j
    · subst e
      simp [hk]
    · simp only [e, if_false]
      constructor
      · rintro (h | h)
        · exact h
        · exact absurd h.symm e
      · exact fun h => .inl h
  · rw [List.count_set (by exact hk), hk']
    simp
/-- A tree of which no block is at c or behind it, nor gu. -/
def TF (W : World) (c g gu : Nat) (L : List Row) : Prop := ∃ h, ∃ t : T h, ∃ q, Whole W g 111 #[.pointer (pa h q), .pointer (pb h q), .int .i64 ((h : Int) + 1)] ∧ PAt W (fun b => b < c ∧ b ≠ g ∧ b ≠ gu) h q t ∧ Top h t ∧ rowsT h t = L ∧ g < c ∧ g ≠ gu
theorem TF.tr {W : World} {c g gu : Nat} {L : List Row} (H : TF W c g gu L) : Tr W g L := by
  obtain ⟨h, t, q, h1, h2, h3, h4, _⟩ := H
  exact ⟨h, t, ⟨q, h1, PAt.mono (fun b hb => hb.2.1) h q t h2, h3⟩, h4⟩
theorem Tr2.tf {W : World} {g gu : Nat} {L : List Row} (H : Tr2 W g gu L) (hne : g ≠ gu) : TF W W.heap.size g gu L := by
  obtain ⟨h, t, ⟨q, h1, h2, h3⟩, h4⟩ := H
  exact ⟨h, t, q, h1, PAt.mono (fun b hb => ⟨hb.2, hb.1⟩) h q t (PAt.lt h q t h2), h3, h4, h1.lt, hne⟩
theorem TF.keep {W W' : World} {c g gu : Nat} {L : List Row} (H : TF W c g gu L) {S : Nat → Prop} (k : Upd S W W') (hS : ∀ b, S b → c ≤ b ∨ b = gu) : TF W' c g gu L := by
  obtain ⟨h, t, q, h1, h2, h3, h4, h5, h6⟩ := H
  refine ⟨h, t, q, h1.upd k (fun hs => ?_), PAt.keep ⟨S, k, fun b hb hs => ?_⟩ h q t h2, h3, h4, h5, h6⟩
  · rcases hS _ hs with h7 | h7
    · omega
    · exact h6 h7
  · rcases hS _ hs with h7 | h7
    · have := hb.1; omega
    · exact hb.2.2 h7
theorem TF.below {W W' : World} {c g gu : Nat} {L : List Row} (H : TF W c g gu L) (k : Below W.heap.size W W') : TF W' c g gu L := H.keep (Upd.of_below (S := fun _ => False) k) (fun b hb => hb.elim)
theorem Tr2.below' {W W' : World} {g g2 : Nat} {L : List Row} (H : Tr2 W g g2 L) (k : Below W.heap.size W W') : Tr2 W' g g2 L := by
  obtain ⟨h, t, H, e⟩ := H
  exact ⟨h, t, H.below k, e⟩
theorem keyI_any (w : World) (k : Nat) (hk : k < 100) : Calls Try.prog 47 #[.int .i64 (7 * (k : Int))] w fun e w' => e = .returned (.string (keyN (7 * k))) ∧ Same w w' := by
  have := keyN_any w (7 * k) (by omega)
  rw [show ((7 * k : Nat) : Int) = 7 * (k : Int) by omega] at this
  exact this

set_option maxRecDepth 100000 in
set_option maxHeartbeats 8000000 in
theorem treeOrder_core (w : World) (n : Int) (A : Option Addr) (cap : Nat) (picks : List Int) (h : View w 1 (.slice A picks.length cap) picks.length (picks.map (.int .i64))) :
    Calls Try.prog 10 #[.int .i64 n, .slice A picks.length cap] w fun e w' => e = .returned (.bool true) ∧ Below w.heap.size w w' := by
  obtain ⟨i0, hi0, hz0, hz1, hz2⟩ := info_parts (show (Try.prog.info? 4).map (fun i => (i.zero, i.size, i.bytes)) = some (some (.bool false), 1, 1) by kernel_rfl)
  replace h := Lib.hid h
  by_cases g1 : n < 0
  · have qz : True := trivial
    go_enter Try.func10, Try.ntmps10
    go_wp2_with fail
    refine (alive8 _).mono ?_; rintro e w1 ⟨rfl, hb1⟩
    go_wp2
    go_ret
    exact ⟨rfl, hb1⟩
  by_cases g2 : 100 < n
  · have qz : True := trivial
    go_enter Try.func10, Try.ntmps10
    go_wp2_with fail
    refine (alive8 _).mono ?_; rintro e w1 ⟨rfl, hb1⟩
    go_wp2
    go_ret
    exact ⟨rfl, hb1⟩
  by_cases g3 : (picks.length : Int) < n
  · have qz : True := trivial
    go_enter Try.func10, Try.ntmps10
    go_wp2_with fail
    refine (alive8 _).mono ?_; rintro e w1 ⟨rfl, hb1⟩
    go_wp2
    go_ret
    exact ⟨rfl, hb1⟩
  obtain ⟨N, rfl⟩ := Int.eq_ofNat_of_zero_le (by omega : 0 ≤ n)
  have hN : N ≤ 100 := by omega
  have hNl : N ≤ picks.length := by omega
  go_enter Try.func10, Try.ntmps10
  go_wp2_with fail
  refine (alive8 _).mono ?_; rintro e w1 ⟨rfl, hb1⟩
  have kN := Lib.hid (tnew_any (w := w1) (v := .slice none 0 0) (L := []) (View.nil _ _) (by decide))
  replace hb1 := Lib.hid hb1
  go_wp2_with fail
  refine kN.out.mono ?_; rintro e w2 ⟨gt, rfl, hg, hT, hb2⟩
  have hT : Tr w2 gt [] := hT
  have kN2 := Lib.hid (tnew_any (w := w2) (v := .slice none 0 0) (L := []) (View.nil _ _) (by decide))
  have hB2 := Lib.hid (hb1.out.trans (hb2.mono hb1.out.size))
  have hgw : w.heap.size ≤ gt := Nat.le_trans hb1.out.size hg
  clear kN hb2 hb1 hg
  go_wp2_with fail
  refine kN2.out.mono ?_; rintro e w3 ⟨gu, rfl, hg, hU, hb3⟩
  have hgt := hT.lt
  have hne : gt ≠ gu := by omega
  have hT3 := (hT.ahead hg).below hne hb3
  obtain ⟨cs, hx⟩ := hT3.tr.whole
  have hU3 : Tr2 w3 gu gt [] := Tr.empty2 hU hx
  have hB3 := hB2.out.trans (hb3.mono hB2.out.size)
  have hgw2 : w.heap.size ≤ gu := by omega
  clear kN2 hB2 hb3 hg hgt hT hU hx
  go_upto_region 7 with fail
  have e1 : decide ((N : Int) < 0) = false := decide_eq_false (by omega)
  have e2 : decide ((100 : Int) < (N : Int)) = false := decide_eq_false (by omega)
  have e3 : decide ((picks.length : Int) < (N : Int)) = false := decide_eq_false (by omega)
  simp only [e1, e2, e3, Bool.or_self]
  clear e1 e2 e3 g1 g2 g3
  have hF0 : Fill (fun j => j < 0) [] := Fill.none.congr fun j _ => ⟨fun h => h.elim, fun h => absurd h (Nat.not_lt_zero _)⟩
  go_loopw [8] (fun i wr => ∃ (k : Nat) (L : List Row), k ≤ N ∧ i = .int .i64 k ∧ L.length = k ∧ Fill (fun j => j < k) L ∧ Tr2 wr gt gu L ∧ Tr2 wr gu gt [] ∧ Below w.heap.size w wr) (fun i _ => N - (intOf i).toNat)
  case atStart => exact ⟨0, [], by omega, rfl, rfl, hF0, hT3, hU3, hB3⟩
  case round =>
    clear hF0 hT3 hU3 hB3
    obtain ⟨k, L, hk, rfl, hL, hF, hT, hU, hB⟩ := hrel
    by_cases hlt : k < N
    · have q1 : (k : Int) < (N : Int) := by omega
      have ew : IntKind.i64.wrap (7 * (k : Int)) = 7 * (k : Int) := by rw [IntKind.wrap_i64]; omega
      have kK := Lib.hid (keyI_any wr k (by omega))
      have hP := Lib.hid (hF.put hT.tr.srt (k := k) (by omega) (Nat.lt_irrefl k))
      have hL' := Lib.hid hL
      replace hT := Lib.hid hT
      replace hU := Lib.hid hU
      replace hB := Lib.hid hB
      clear hF hL
      go_wp2_with fail
      refine kK.out.mono ?_; rintro e w5 ⟨rfl, m5, rfl⟩
      have hb5 := below_dn m5 (Below.refl wr.heap.size wr)
      have hT5 := hT.out.below' hb5
      have hU5 := hU.out.below' hb5
      have hB5 := Lib.hid (hB.out.trans (hb5.mono hB.out.size))
      have kP := Lib.hid (tput2_any hU5.tr.lt hT5 ⟨keyN (7 * k), ⟨#[118]⟩⟩ (by have := hL'.out; omega))
      replace hU5 := Lib.hid hU5
      clear hT hU hB kK hb5 hT5
      generalize wr.drewN m5 = w6 at *
      go_wp2_with fail
      refine kP.out.mono ?_; rintro e w7 ⟨rfl, hT7, hu7⟩
      have hU7 := Lib.hid (hU5.out.upd (fun e => hne e.symm) hu7)
      have hB7 := Lib.hid (hB5.out.trans (hu7.below hB5.out.size (fun b hb => by omega)))
      replace hT7 := Lib.hid hT7
      clear hU5 hB5 kP hu7
      go_wp2_with fail
      go_roundw
      case rel => exact ⟨k + 1, _, by omega, by go_num, hP.out.2.trans (by rw [hL'.out]), hP.out.1.congr (fun j _ => by constructor <;> intro <;> omega), hT7.out, hU7.out, hB7.out⟩
      case measure => simp [intOf]; omega
    · obtain rfl : N = k := by omega
      have q1 : ¬ (N : Int) < (N : Int) := by omega
      have hgu : gu < wr.heap.size := hU.tr.lt
      have hgt : gt < wr.heap.size := hT.tr.lt
      have hTF := hT.tf hne
      have hUg := hU.tr.ahead (Nat.le_refl wr.heap.size)
      clear hT hU
      go_upto_region 12 with (at_make; refine wpList_make_full _ rfl _ _ 39 rfl w.heap.size 4 i0 (.bool false) 1 Try.underlying39 hi0 hz0 hz1 .i64 .i64 _ _ N rfl rfl rfl rfl (by rw [hz2]; omega) (by unfold maxLen; omega) hB.size ?_; intro w2 hown2 hg2)
      have hgb := grown_none hg2
      have hO2 : OB w2 w.heap.size wr.heap.size N (List.replicate N false) := by
        unfold OB
        rw [List.map_replicate, ← made_one]
        exact hown2
      have hTF2 := hTF.below hgb
      have hU2 := hUg.below' hgb
      have hB2 := hB.trans (hgb.mono hB.size)
      clear hown2 hg2 hgb hTF hUg hB q1
      generalize wr.heap.size = g at *
      have hF0 : Fill (fun j => j < (List.replicate N false).length ∧ (List.replicate N false).getD j true = true) [] := Fill.none.congr fun j _ => ⟨fun h => h.elim, fun ⟨h1, h2⟩ => by
        rw [List.length_replicate] at h1
        simp [List.getD_eq_getElem?_getD, h1] at h2⟩
      have hc0 : (List.replicate N false).count true = 0 := by rw [List.count_replicate]; rfl
      go_loopw [10] (fun i wx => ∃ (k : Nat) (used : List Bool) (M : List Row), k ≤ N ∧ i = .int .i64 k ∧ used.count true = k ∧ M.length = k ∧ Fill (fun j => j < used.length ∧ used.getD j true = true) M ∧ OB wx w.heap.size g N used ∧ Tr2 wx gu g M ∧ TF wx g gt gu L ∧ Below w.heap.size w wx) (fun i _ => N - (intOf i).toNat)
      case atStart => exact ⟨0, _, [], by omega, rfl, hc0, rfl, hF0, hO2, hU2, hTF2, hB2⟩
      case round =>
        clear hF0 hO2 hU2 hTF2 hB2 hc0
        obtain ⟨k, used, M, hk, rfl, hc, hM, hFM, ho, hU, hT, hb⟩ := hrel
        have hul := ho.len
        have hL' := Lib.hid hL
        have hF' := Lib.hid hF
        have hM' := Lib.hid hM
        have hFM' := Lib.hid hFM
        have hc' := Lib.hid hc
        clear hL hF hM hFM hc
        by_cases hlt : k < N
        · have q3 : (k : Int) < (N : Int) := by omega
          have q4 : (k : Int) < (picks.length : Int) := by omega
          have q5 : ¬ (N : Int) = 0 := by omega
          have hex := some_free (l := used) (by have := hc'.out; omega)
          obtain ⟨ob, oo, rfl, hobl, hoc⟩ := ints_at (View.below h.out hb) k (by omega)
          obtain ⟨K, hK, hKl⟩ := tmodn (picks.getD k 0) N (by omega)
          generalize picks.getD k 0 = od at *
          replace hex := Lib.hid hex
          replace hU := Lib.hid hU
          replace hT := Lib.hid hT
          go_upto_region 15 with fail
          clear hK hoc
          go_loop [11] (fun a => ∃ kk : Nat, kk < N ∧ a = .int .i64 kk) (fun a => far (used.map (fun b => !b)) (intOf a).toNat)
          case atStart => exact ⟨K, hKl, rfl⟩
          case round =>
            obtain ⟨kk, hkk, rfl⟩ := hrel
            have q6 : (kk : Int) < (N : Int) := by omega
            have d0 := ho.cell kk hkk
            cases hlf : used.getD kk true with
            | true =>
              rw [hlf] at d0
              have hst := far_step (k := kk) (by rw [List.length_map]; omega) hex.out (by rw [getD_not (by omega), hlf]; rfl)
              rw [List.length_map, hul] at hst
              have hmod : Int.tmod ((kk : Int) + 1) (N : Int) = (((kk + 1) % N : Nat) : Int) := by
                rw [Int.tmod_eq_emod_of_nonneg (by omega)]; push_cast; rfl
              replace hst := Lib.hid hst
              go_wp2_with fail
              go_round
              case rel => exact ⟨(kk + 1) % N, Nat.mod_lt _ (by omega), rfl⟩
              case measure => simp [intOf]; exact hst.out
            | false =>
              rw [hlf] at d0
              have hset := Lib.hid (used_set (l := used) (k := kk) (by omega) hlf)
              have hP := Lib.hid (hFM'.out.put hU.out.tr.srt (k := kk) (by omega) (fun hp => by have := hp.2; rw [hlf] at this; cases this))
              have hgg := (own_block ho).1
              have ho1 := ho.set kk hkk true
              have f0 := own_free ho kk
              have hup : Upd (fun b => b = g) wr (wr.setCell ⟨g, kk, none⟩ (.bool true)) := (Upd.refl (fun b => b = g) wr).setCell (p := ⟨g, kk, none⟩) (.inr rfl) (.bool true)
              have hb1 := hb.setCell (p := ⟨g, kk, none⟩) hgg (.bool true)
              have hU1 := hU.out.upd (show gu ≠ g by omega) hup
              have hT1 := hT.out.keep hup (fun b hb => .inl (Nat.le_of_eq hb.symm))
              have ew : IntKind.i64.wrap (7 * (kk : Int)) = 7 * (kk : Int) := by rw [IntKind.wrap_i64]; omega
              go_upto_region 18 with fail
              generalize wr.setCell ⟨g, kk, none⟩ (.bool true) = W at *
              clear d0 f0 ho hU hT hb hup hobl
              have kK := Lib.hid (keyI_any W kk (by omega))
              replace hb1 := Lib.hid hb1
              replace hU1 := Lib.hid hU1
              replace hT1 := Lib.hid hT1
              replace ho1 := Lib.hid ho1
              replace hlf := Lib.hid hlf
              go_wp2_with fail
              refine kK.out.mono ?_; rintro e w5 ⟨rfl, m5, rfl⟩
              have hb5 := below_dn m5 (Below.refl W.heap.size W)
              have hU5 := hU1.out.below' hb5
              have hT5 := hT1.out.below hb5
              have ho5 : OB (W.drewN m5) w.heap.size g N (used.set kk true) := own_below ho1.out hb5
              have hB5 := Lib.hid (hb1.out.trans (hb5.mono hb1.out.size))
              have kP := Lib.hid (tput2_any (own_lt ho5 (b := g) rfl).2 hU5 ⟨keyN (7 * kk), ⟨#[118]⟩⟩ (by have := hM'.out; omega))
              replace hT5 := Lib.hid hT5
              replace ho5 := Lib.hid ho5
              clear hU1 hT1 hb1 kK hb5 hU5 ho1
              generalize W.drewN m5 = w6 at *
              go_wp2_with fail
              refine kP.out.mono ?_; rintro e w7 ⟨rfl, hU7, hu7⟩
              have hT7 := Lib.hid (hT5.out.keep hu7 (fun b hb => .inr hb))
              have ho7 : OB w7 w.heap.size g N (used.set kk true) := own_upd ho5.out hu7 (fun x hx e => by have hx' : g = x := Option.some.inj hx; have e' : x = gu := e; omega)
              have hB7 := Lib.hid (hB5.out.trans (hu7.below hB5.out.size (fun b hb => by omega)))
              replace hU7 := Lib.hid hU7
              replace ho7 := Lib.hid ho7
              clear hT5 hB5 kP hu7 ho5
              go_wp2_with fail
              go_roundw
              case rel => exact ⟨k + 1, _, _, by omega, by go_num, hset.out.2.trans (by rw [hc'.out]), hP.out.2.trans (by rw [hM'.out]), hP.out.1.congr (fun j _ => hset.out.1 j), ho7.out, hU7.out, hT7.out, hB7.out⟩
              case measure => simp [intOf]; omega
        · obtain rfl : N = k := by omega
          have q1 : ¬ (N : Int) < (N : Int) := by omega
          have hall : ∀ b ∈ used, true = b := List.count_eq_length.1 (by rw [hc'.out, hul])
          have hLM : L = M := srt_ext hT.tr.srt hU.tr.srt fun y => by
            rw [hF'.out y, hFM'.out y]
            constructor
            · rintro ⟨j, a, b, c⟩
              refine ⟨j, a, ⟨by omega, ?_⟩, c⟩
              have hj : j < used.length := by omega
              have := hall _ (List.getElem_mem hj)
              simp [List.getD_eq_getElem?_getD, hj, ← this]
            · rintro ⟨j, a, ⟨b, _⟩, c⟩
              exact ⟨j, a, by omega, c⟩
          subst hLM
          clear hall hF' hFM' hc' ho hul
          have kL := tlen_tr hT.tr
          rw [hL'.out] at kL
          replace kL := Lib.hid kL
          replace hU := Lib.hid hU
          replace hT := Lib.hid hT
          replace hb := Lib.hid hb
          go_wp2_with fail
          refine kL.out.mono ?_; rintro e w5 ⟨rfl, hb5⟩
          have hU5 := hU.out.below' hb5
          have hT5 := hT.out.below hb5
          have hB5 := Lib.hid (hb.out.trans (hb5.mono hb.out.size))
          have kA := Lib.hid (tall_tr hT5.tr (by have := hL'.out; omega))
          replace hU5 := Lib.hid hU5
          clear hU hT hb hb5 kL hT5
          go_wp2_with fail
          refine kA.out.mono ?_; rintro e w6 ⟨v6, rfl, ho6, hb6⟩
          have kA2 := Lib.hid (tall_tr (hU5.out.below' hb6).tr (by have := hL'.out; omega))
          have hB6 := Lib.hid (hB5.out.trans (hb6.mono hB5.out.size))
          replace ho6 := Lib.hid ho6
          clear hU5 hb6 kA hB5
          go_wp2_with fail
          refine kA2.out.mono ?_; rintro e w7 ⟨v7, rfl, ho7, hb7⟩
          have kS := Lib.hid (same_rows w7 v6 v7 L (View.of_own (own_below ho6.out hb7)) (View.of_own ho7) (by have := hL'.out; omega))
          have hB7 := Lib.hid (hB6.out.trans (hb7.mono hB6.out.size))
          clear ho6 ho7 hb7 kA2 hB6
          go_wp2_with fail
          refine kS.out.mono ?_; rintro e w8 ⟨rfl, m8, rfl⟩
          have hB8 := below_dn m8 hB7.out
          go_wp2_with fail
          go_ret
          exact ⟨rfl, hB8⟩
theorem int_enc (l : List Int) : l.flatMap (Kd.enc (.int .i64)) = l.map (.int .i64) := by
  induction l with
  | nil => rfl
  | cons a l ih => rw [List.flatMap_cons, ih]; rfl
theorem treeOrder_walk (W : World) (n : Int) (_ : (Lit.int .i64 n).wf = true) (A2 : Option Addr) (n2 c2 : Nat) (x2 : (Kd.sl 3 (.int .i64)).T) (z2 : Rd Try.prog W (.sl 3 (.int .i64)) [.slice A2 n2 c2] x2) :
    Calls Try.prog 10 #[.int .i64 n, .slice A2 n2 c2] W fun e w' => e = .returned (.bool true) ∧ Below W.heap.size W w' := by
  have hv2 := rd_view_flat rfl z2
  obtain ⟨A', c', e, _, _⟩ := View.cells hv2
  injection e with e1 e2 e3
  subst e1 e2 e3
  rw [int_enc x2] at hv2
  exact treeOrder_core W n A2 c2 x2 hv2
end Go.Proofs.Ytegomkgfmaclkaa
