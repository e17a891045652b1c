/-
  slices.Clone of parts; slices.Grow and slices.Concat of rows and of parts, by their contracts.
-/
import Derived.Test.YtegomkgfmaclkaaTd
import Derived.Lib.AppendZeros
import Derived.BigQuiet
set_option linter.unusedVariables false
set_option linter.unusedSimpArgs false
namespace Go.Proofs.Ytegomkgfmaclkaa
open Go.RowKit Go.Proofs.PosteOrd Go.Proofs.PosteMem

def zPart : Value := .agg #[.pointer none, .pointer none]
theorem infoPart : (Try.prog.info? 108).map (fun i => (i.zero, i.size, i.bytes)) = some (some zPart, 2, 16) := by kernel_rfl
theorem own_empty {w : World} {B e sz g G : Nat} {cur : Array Value} (hB : B ≤ g) (hg : w.heap[g]? = some (.cells cur e (0, 0))) (hG : G ≤ maxLen) (hc : cur.size = G * sz) : w.ownsRow B e sz (.slice (some ⟨g, 0, none⟩) 0 G) 0 [] :=
  ⟨by simp, .inr ⟨g, G, cur, rfl, hB, hg, Nat.zero_le _, hG, hc, by simp⟩⟩
theorem cloneP (w : World) (h : Nat) (v : Value) (qs : List Nat) (hv : View w 2 v qs.length (qs.flatMap (pcs h))) (hn : qs.length ≤ 1000000) :
    Calls Try.prog 103 #[v] w fun e w' => ∃ v', e = .returned v' ∧ w'.ownsRow w.heap.size 108 2 v' qs.length (qs.flatMap (pcs h)) ∧ Below w.heap.size w w' := by
  obtain ⟨i0, hi0, hz0, hz1, hz2⟩ := info_parts infoPart
  have h1 := pcs_one h qs
  generalize qs.flatMap (pcs h) = xs at *
  generalize qs.length = n at *
  obtain ⟨hl, A, cap, rfl, h2, h3, h4, h5⟩ := hv
  have hnil := fun (w : World) (a : Option Addr) (n c : Nat) => Lib.run_eql_slice_nil (P := Try.prog) w 116 108 a n c 0 0 Try.underlying116
  cases A with
  | none =>
    have hc := h4 rfl
    obtain rfl : n = 0 := by omega
    subst hc
    obtain rfl : xs = [] := List.eq_nil_of_length_eq_zero (by simpa using hl)
    go_enter Try.func103, Try.ntmps103
    go_wp2
    go_ret
    exact ⟨_, rfl, World.ownsRow_nil _ _ _ _, Below.refl _ _⟩
  | some a =>
    have hx : View (w.alloc (.cells #[] 108)) 2 (.slice (some a) n cap) n xs := View.alloc ⟨hl, some a, cap, rfl, h2, h3, h4, h5⟩ _
    go_enter Try.func103, Try.ntmps103
    go_wp2_with (at_builtin; refine wpList_append_view _ rfl (.tmp 5) (.tmp 6) _ rfl w.heap.size 108 i0 zPart 2 16 Try.underlying116 hi0 hz0 hz1 hz2 rfl (by omega) (.slice (some ⟨w.heap.size, 0, none⟩) 0 0) 0 [] rfl (World.ownsRow_made _ _ _ (Nat.le_refl _) (by simp) rfl) (.slice (some a) n cap) n xs rfl hx h1 (by omega) (by simp only [maxLen] at *; omega) (by simp) ?_; intro v1 w1 hown hg hat)
    go_ret
    exact ⟨v1, rfl, by simpa using hown, ((Below.refl _ _).alloc (Nat.le_refl _) _).grown hg (by simp) (by simp [Value.ownBlock])⟩
set_option maxHeartbeats 1000000 in
theorem growP (w : World) (n : Nat) (hn : n ≤ 1000000) : Calls Try.prog 114 #[.slice none 0 0, .int .i64 n] w fun e w' => ∃ v, e = .returned v ∧ w'.ownsRow w.heap.size 108 2 v 0 [] ∧ Below w.heap.size w w' := by
  obtain ⟨i0, hi0, hz0, hz1, hz2⟩ := info_parts infoPart
  have q1 : ¬ (n : Int) < 0 := by omega
  have ew : IntKind.i64.wrap ((n : Int) - 0) = n := by rw [IntKind.wrap_i64]; omega
  rcases Nat.eq_zero_or_pos n with h0 | h0
  · subst h0
    go_enter Try.func114, Try.ntmps114
    go_wp2_with fail
    go_ret
    exact ⟨_, rfl, World.ownsRow_nil _ _ _ _, Below.refl _ _⟩
  · have q2 : (0 : Int) < (n : Int) := by omega
    have hr := Lib.run_append_nil_zeros (P := Try.prog) w 116 3 116 108 i0 zPart .i64 .i64 Try.underlying116 Try.underlying3 hi0 hz0 n h0 (by omega) (by omega) (by rw [hz2]; omega)
    have hge : n ≤ grownCap w n 0 108 := grownCap_ge _ _ _ _
    have hle : grownCap w n 0 108 ≤ maxLen := grownCap_le_maxLen _ _ _ _ (by simp only [maxLen]; omega)
    generalize grownCap w n 0 108 = G at *
    have hown : (w.drew.alloc (.cells (Builtin.zeroCells zPart.cells n ++ Builtin.zeroCells zPart.cells (G - n)) 108)).ownsRow w.heap.size 108 2 (.slice (some ⟨w.heap.size, 0, none⟩) 0 G) 0 [] := own_empty (Nat.le_refl _) (heap_alloc_new w.drew _) hle (by
      have hz1 : zPart.cells.size = 2 := rfl
      simp only [Array.size_append, size_zeroCells, hz1]
      omega)
    have hB : Below w.heap.size w (w.drew.alloc (.cells (Builtin.zeroCells zPart.cells n ++ Builtin.zeroCells zPart.cells (G - n)) 108)) := (Below.drew (Below.refl _ _)).alloc (Nat.le_refl _) _
    generalize w.drew.alloc (.cells (Builtin.zeroCells zPart.cells n ++ Builtin.zeroCells zPart.cells (G - n)) 108) = w2 at *
    replace hr := Lib.hid hr
    go_enter Try.func114, Try.ntmps114
    go_wp2_with (at_builtin; refine Lib.wpList_append_run _ rfl _ _ _ _ rfl _ _ rfl rfl _ _ hr.out ?_)
    go_ret
    exact ⟨_, rfl, hown, hB⟩
set_option maxHeartbeats 1000000 in
theorem growR (w : World) (n : Nat) (hn : n ≤ 1000000) : Calls Try.prog 119 #[.slice none 0 0, .int .i64 n] w fun e w' => ∃ v, e = .returned v ∧ w'.ownsRow w.heap.size 31 2 v 0 [] ∧ Below w.heap.size w w' := by
  obtain ⟨i0, hi0, hz0, hz1, hz2⟩ := info_parts infoRow
  have q1 : ¬ (n : Int) < 0 := by omega
  have ew : IntKind.i64.wrap ((n : Int) - 0) = n := by rw [IntKind.wrap_i64]; omega
  rcases Nat.eq_zero_or_pos n with h0 | h0
  · subst h0
    go_enter Try.func119, Try.ntmps119
    go_wp2_with fail
    go_ret
    exact ⟨_, rfl, World.ownsRow_nil _ _ _ _, Below.refl _ _⟩
  · have q2 : (0 : Int) < (n : Int) := by omega
    have hr := Lib.run_append_nil_zeros (P := Try.prog) w 22 3 22 31 i0 zRow .i64 .i64 Try.underlying22 Try.underlying3 hi0 hz0 n h0 (by omega) (by omega) (by rw [hz2]; omega)
    have hge : n ≤ grownCap w n 0 31 := grownCap_ge _ _ _ _
    have hle : grownCap w n 0 31 ≤ maxLen := grownCap_le_maxLen _ _ _ _ (by simp only [maxLen]; omega)
    generalize grownCap w n 0 31 = G at *
    have hown : (w.drew.alloc (.cells (Builtin.zeroCells zRow.cells n ++ Builtin.zeroCells zRow.cells (G - n)) 31)).ownsRow w.heap.size 31 2 (.slice (some ⟨w.heap.size, 0, none⟩) 0 G) 0 [] := own_empty (Nat.le_refl _) (heap_alloc_new w.drew _) hle (by
      have hz1 : zRow.cells.size = 2 := rfl
      simp only [Array.size_append, size_zeroCells, hz1]
      omega)
    have hB : Below w.heap.size w (w.drew.alloc (.cells (Builtin.zeroCells zRow.cells n ++ Builtin.zeroCells zRow.cells (G - n)) 31)) := (Below.drew (Below.refl _ _)).alloc (Nat.le_refl _) _
    generalize w.drew.alloc (.cells (Builtin.zeroCells zRow.cells n ++ Builtin.zeroCells zRow.cells (G - n)) 31) = w2 at *
    replace hr := Lib.hid hr
    go_enter Try.func119, Try.ntmps119
    go_wp2_with (at_builtin; refine Lib.wpList_append_run _ rfl _ _ _ _ rfl _ _ rfl rfl _ _ hr.out ?_)
    go_ret
    exact ⟨_, rfl, hown, hB⟩
theorem flat_take {α : Type} {ss : List (List α)} {k : Nat} (hk : k < ss.length) : (ss.take (k + 1)).flatten = (ss.take k).flatten ++ ss[k] := by
  rw [List.take_succ_eq_append_getElem hk, List.flatten_append]
  simp
theorem flat_take_le {α : Type} (ss : List (List α)) (k : Nat) : (ss.take k).flatten.length ≤ ss.flatten.length := by
  conv => rhs; rw [← List.take_append_drop k ss, List.flatten_append, List.length_append]
  omega
theorem view_one {w : World} {v : Value} {vs : List Value} (h : View w 1 v vs.length vs) (hn : 0 < vs.length) : ∃ b off cap, v = .slice (some ⟨b, off, none⟩) vs.length cap ∧ b < w.heap.size ∧ vs.length ≤ cap ∧ cap ≤ maxLen ∧ ∀ i (hi : i < vs.length), w.cell? ⟨b, off + i, none⟩ = some vs[i] := by
  obtain ⟨b, off, cap, e, h1, h2, h3, h4⟩ := h.at_ (by omega)
  exact ⟨b, off, cap, e, h3, h1, h2, fun i hi => h4 i _ (List.getElem?_eq_getElem hi)⟩
set_option maxRecDepth 100000 in
set_option maxHeartbeats 4000000 in
theorem concatP (w : World) (h : Nat) (v : Value) (vs : List Value) (ss : List (List Nat)) (hv : View w 1 v vs.length vs) (hl : vs.length = ss.length) (h0 : 0 < vs.length) (hs : ∀ i (h1 : i < vs.length) (h2 : i < ss.length), View w 2 vs[i] ss[i].length (ss[i].flatMap (pcs h))) {zz : Nat} (hzz : ss.flatten.length = zz) (hm : zz ≤ 1000000) :
    Calls Try.prog 100 #[v] w fun e w' => ∃ v', e = .returned v' ∧ w'.ownsRow w.heap.size 108 2 v' zz (ss.flatten.flatMap (pcs h)) ∧ Below w.heap.size w w' := by
  obtain ⟨i0, hi0, hz0, hz1, hz2⟩ := info_parts infoPart
  obtain ⟨b, off, cap, rfl, hbl, hc1, hc2, hat⟩ := view_one hv h0
  have hvl : vs.length ≤ 9223372036854775807 := Nat.le_trans hc1 (Nat.le_trans hc2 (by decide))
  replace hs := Lib.hid hs
  replace hat := Lib.hid hat
  replace hm := Lib.hid hm
  replace hzz := Lib.hid hzz
  replace hl := Lib.hid hl
  go_enter Try.func100, Try.ntmps100
  go_upto_region 3 with fail
  go_loopw [3, 11] (fun sz i wr => ∃ k m : Nat, k ≤ vs.length ∧ i = .int .i64 k ∧ sz = .int .i64 ((ss.take k).flatten.length : Nat) ∧ wr = w.drewN m) (fun _ i _ => vs.length - (intOf i).toNat)
  case atStart => exact ⟨0, 0, by omega, rfl, rfl, rfl⟩
  case round =>
    obtain ⟨k, m, hk, rfl, rfl, rfl⟩ := hrel
    by_cases hlt : k < vs.length
    · have q1 : (k : Int) < (vs.length : Int) := by omega
      have hlt2 : k < ss.length := by have := hl.out; omega
      have c0 := hat.out k hlt
      obtain ⟨A, c, e, _, _⟩ := (hs.out k hlt hlt2).cells
      rw [e] at c0
      have c1 : (w.drewN m).cell? ⟨b, off + k, none⟩ = _ := c0
      have hft := flat_take hlt2
      have hfl := flat_take_le ss (k + 1)
      have hmm := hm.out
      rw [hft, List.length_append, hzz.out] at hfl
      have ew : IntKind.i64.wrap ((((ss.take k).flatten.length : Nat) : Int) + ((ss[k].length : Nat) : Int)) = (((ss.take (k + 1)).flatten.length : Nat) : Int) := by rw [hft, List.length_append, IntKind.wrap_i64]; omega
      have hnn : ¬ (((ss.take (k + 1)).flatten.length : Nat) : Int) < 0 := by omega
      generalize hze : (ss.take (k + 1)).flatten.length = z at *
      replace hze := Lib.hid hze
      generalize (ss.take k).flatten.length = y at *
      generalize ss[k].length = n at *
      clear hft
      go_wp2_with fail
      go_roundw
      case rel => exact ⟨k + 1, _, by omega, by go_num, by rw [hze.out], rfl⟩
      case measure => simp [intOf]; omega
    · obtain rfl : k = vs.length := by omega
      have q1 : ¬ (vs.length : Int) < (vs.length : Int) := by omega
      have hall : ss.take vs.length = ss := by rw [hl.out]; exact List.take_length
      rw [hall, hzz.out]
      have hmm := hm.out
      have kG := Lib.hid (growP (w.drewN m) zz hmm)
      replace hall := Lib.hid hall
      go_wp2_with fail
      refine kG.out.mono ?_; rintro e w2 ⟨v2, rfl, ho2, hb2⟩
      have hB2 : Below w.heap.size w w2 := (below_dn m (Below.refl _ _)).trans hb2
      have ho2' : w2.ownsRow w.heap.size 108 2 v2 (ss.take 0).flatten.length ((ss.take 0).flatten.flatMap (pcs h)) := ho2
      clear kG ho2 hb2
      go_upto_region 11 with fail
      go_loopw [6, 27] (fun o i wr => ∃ (k : Nat) (o0 : Value), k ≤ vs.length ∧ o = o0 ∧ i = .int .i64 k ∧ wr.ownsRow w.heap.size 108 2 o0 (ss.take k).flatten.length ((ss.take k).flatten.flatMap (pcs h)) ∧ Below w.heap.size w wr) (fun _ i _ => vs.length - (intOf i).toNat)
      case atStart => exact ⟨0, _, by omega, rfl, rfl, ho2', hB2⟩
      case round =>
        clear ho2' hB2
        obtain ⟨k, o0, hk, rfl, rfl, ho, hB⟩ := hrel
        by_cases hlt : k < vs.length
        · have q1 : (k : Int) < (vs.length : Int) := by omega
          have hlt2 : k < ss.length := by have := hl.out; omega
          have c0 := (hB.cell (p := ⟨b, off + k, none⟩) hbl).trans (hat.out k hlt)
          have hv := View.below (hs.out k hlt hlt2) (hB.mono (Nat.le_refl _))
          obtain ⟨A, c, e, _, _⟩ := hv.cells
          rw [e] at c0 hv
          have hft := flat_take hlt2
          have hfl := flat_take_le ss (k + 1)
          rw [hzz.out] at hfl
          have hBs := hB.size
          have h1 := pcs_one h ss[k]
          have hfn : (ss.take (k + 1)).flatten.length = (ss.take k).flatten.length + ss[k].length := by rw [hft, List.length_append]
          have hfm : (ss.take (k + 1)).flatten.flatMap (pcs h) = (ss.take k).flatten.flatMap (pcs h) ++ ss[k].flatMap (pcs h) := by rw [hft, List.flatMap_append]
          rw [hfn] at hfl
          replace hfn := Lib.hid hfn
          replace hfm := Lib.hid hfm
          generalize ss[k] = s at *
          generalize (ss.take k).flatten.length = y at *
          replace ho := Lib.hid ho
          replace hv := Lib.hid hv
          clear hft
          go_wp2_with (at_builtin; refine wpList_append_view _ rfl (.tmp 31) (.tmp 32) _ rfl w.heap.size 108 i0 zPart 2 16 Try.underlying116 hi0 hz0 hz1 hz2 rfl (by decide) _ y _ rfl ho.out _ s.length _ rfl hv.out h1 (by omega) (by simp only [maxLen]; omega) hBs ?_; intro v5 w5 hown5 hg5 hat5)
          have hB5 : Below w.heap.size w w5 := hB.grown hg5 hBs (fun j hj => (ho.out.lt j hj).1)
          rw [← hfm.out, ← hfn.out] at hown5
          go_roundw
          case rel => exact ⟨k + 1, _, by omega, rfl, by go_num, hown5, hB5⟩
          case measure => simp [intOf]; omega
        · obtain rfl : k = vs.length := by omega
          have q1 : ¬ (vs.length : Int) < (vs.length : Int) := by omega
          rw [hall.out, hzz.out] at ho
          go_wp2_with fail
          go_ret
          exact ⟨_, rfl, ho, hB⟩
set_option maxRecDepth 100000 in
set_option maxHeartbeats 4000000 in
theorem concatR (w : World) (v : Value) (vs : List Value) (ss : List (List Row)) (hv : View w 1 v vs.length vs) (hl : vs.length = ss.length) (h0 : 0 < vs.length) (hs : ∀ i (h1 : i < vs.length) (h2 : i < ss.length), View w 2 vs[i] ss[i].length (ss[i].flatMap Row.cells)) {zz : Nat} (hzz : ss.flatten.length = zz) (hm : zz ≤ 1000000) :
    Calls Try.prog 116 #[v] w fun e w' => ∃ v', e = .returned v' ∧ w'.ownsRow w.heap.size 31 2 v' zz (ss.flatten.flatMap Row.cells) ∧ Below w.heap.size w w' := by
  obtain ⟨i0, hi0, hz0, hz1, hz2⟩ := info_parts infoRow
  obtain ⟨b, off, cap, rfl, hbl, hc1, hc2, hat⟩ := view_one hv h0
  have hvl : vs.length ≤ 9223372036854775807 := Nat.le_trans hc1 (Nat.le_trans hc2 (by decide))
  replace hs := Lib.hid hs
  replace hat := Lib.hid hat
  replace hm := Lib.hid hm
  replace hzz := Lib.hid hzz
  replace hl := Lib.hid hl
  go_enter Try.func116, Try.ntmps116
  go_upto_region 3 with fail
  go_loopw [3, 11] (fun sz i wr => ∃ k m : Nat, k ≤ vs.length ∧ i = .int .i64 k ∧ sz = .int .i64 ((ss.take k).flatten.length : Nat) ∧ wr = w.drewN m) (fun _ i _ => vs.length - (intOf i).toNat)
  case atStart => exact ⟨0, 0, by omega, rfl, rfl, rfl⟩
  case round =>
    obtain ⟨k, m, hk, rfl, rfl, rfl⟩ := hrel
    by_cases hlt : k < vs.length
    · have q1 : (k : Int) < (vs.length : Int) := by omega
      have hlt2 : k < ss.length := by have := hl.out; omega
      have c0 := hat.out k hlt
      obtain ⟨A, c, e, _, _⟩ := (hs.out k hlt hlt2).cells
      rw [e] at c0
      have c1 : (w.drewN m).cell? ⟨b, off + k, none⟩ = _ := c0
      have hft := flat_take hlt2
      have hfl := flat_take_le ss (k + 1)
      have hmm := hm.out
      rw [hft, List.length_append, hzz.out] at hfl
      have ew : IntKind.i64.wrap ((((ss.take k).flatten.length : Nat) : Int) + ((ss[k].length : Nat) : Int)) = (((ss.take (k + 1)).flatten.length : Nat) : Int) := by rw [hft, List.length_append, IntKind.wrap_i64]; omega
      have hnn : ¬ (((ss.take (k + 1)).flatten.length : Nat) : Int) < 0 := by omega
      generalize hze : (ss.take (k + 1)).flatten.length = z at *
      replace hze := Lib.hid hze
      generalize (ss.take k).flatten.length = y at *
      generalize ss[k].length = n at *
      clear hft
      go_wp2_with fail
      go_roundw
      case rel => exact ⟨k + 1, _, by omega, by go_num, by rw [hze.out], rfl⟩
      case measure => simp [intOf]; omega
    · obtain rfl : k = vs.length := by omega
      have q1 : ¬ (vs.length : Int) < (vs.length : Int) := by omega
      have hall : ss.take vs.length = ss := by rw [hl.out]; exact List.take_length
      rw [hall, hzz.out]
      have hmm := hm.out
      have kG := Lib.hid (growR (w.drewN m) zz hmm)
      replace hall := Lib.hid hall
      go_wp2_with fail
      refine kG.out.mono ?_; rintro e w2 ⟨v2, rfl, ho2, hb2⟩
      have hB2 : Below w.heap.size w w2 := (below_dn m (Below.refl _ _)).trans hb2
      have ho2' : w2.ownsRow w.heap.size 31 2 v2 (ss.take 0).flatten.length ((ss.take 0).flatten.flatMap Row.cells) := ho2
      clear kG ho2 hb2
      go_upto_region 11 with fail
      go_loopw [6, 27] (fun o i wr => ∃ (k : Nat) (o0 : Value), k ≤ vs.length ∧ o = o0 ∧ i = .int .i64 k ∧ wr.ownsRow w.heap.size 31 2 o0 (ss.take k).flatten.length ((ss.take k).flatten.flatMap Row.cells) ∧ Below w.heap.size w wr) (fun _ i _ => vs.length - (intOf i).toNat)
      case atStart => exact ⟨0, _, by omega, rfl, rfl, ho2', hB2⟩
      case round =>
        clear ho2' hB2
        obtain ⟨k, o0, hk, rfl, rfl, ho, hB⟩ := hrel
        by_cases hlt : k < vs.length
        · have q1 : (k : Int) < (vs.length : Int) := by omega
          have hlt2 : k < ss.length := by have := hl.out; omega
          have c0 := (hB.cell (p := ⟨b, off + k, none⟩) hbl).trans (hat.out k hlt)
          have hv := View.below (hs.out k hlt hlt2) (hB.mono (Nat.le_refl _))
          obtain ⟨A, c, e, _, _⟩ := hv.cells
          rw [e] at c0 hv
          have hft := flat_take hlt2
          have hfl := flat_take_le ss (k + 1)
          rw [hzz.out] at hfl
          have hBs := hB.size
          have h1 := Row.one ss[k]
          have hfn : (ss.take (k + 1)).flatten.length = (ss.take k).flatten.length + ss[k].length := by rw [hft, List.length_append]
          have hfm : (ss.take (k + 1)).flatten.flatMap Row.cells = (ss.take k).flatten.flatMap Row.cells ++ ss[k].flatMap Row.cells := by rw [hft, List.flatMap_append]
          rw [hfn] at hfl
          replace hfn := Lib.hid hfn
          replace hfm := Lib.hid hfm
          generalize ss[k] = s at *
          generalize (ss.take k).flatten.length = y at *
          replace ho := Lib.hid ho
          replace hv := Lib.hid hv
          clear hft
          go_wp2_with (at_builtin; refine wpList_append_view _ rfl (.tmp 31) (.tmp 32) _ rfl w.heap.size 31 i0 zRow 2 32 Try.underlying22 hi0 hz0 hz1 hz2 rfl (by decide) _ y _ rfl ho.out _ s.length _ rfl hv.out h1 (by omega) (by simp only [maxLen]; omega) hBs ?_; intro v5 w5 hown5 hg5 hat5)
          have hB5 : Below w.heap.size w w5 := hB.grown hg5 hBs (fun j hj => (ho.out.lt j hj).1)
          rw [← hfm.out, ← hfn.out] at hown5
          go_roundw
          case rel => exact ⟨k + 1, _, by omega, rfl, by go_num, hown5, hB5⟩
          case measure => simp [intOf]; omega
        · obtain rfl : k = vs.length := by omega
          have q1 : ¬ (vs.length : Int) < (vs.length : Int) := by omega
          rw [hall.out, hzz.out] at ho
          go_wp2_with fail
          go_ret
          exact ⟨_, rfl, ho, hB⟩
end Go.Proofs.Ytegomkgfmaclkaa
