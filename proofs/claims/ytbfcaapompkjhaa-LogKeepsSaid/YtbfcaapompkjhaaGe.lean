/-
  roots: Read, Write by their contracts.
-/
import Derived.Test.YtbfcaapompkjhaaGd
set_option linter.unusedVariables false
set_option linter.unusedSimpArgs false
namespace Go.Proofs.Ytbfcaapompkjhaa
open Go.RowKit Go.Proofs.PosteMem
attribute [local go_sem ↓] Go.wp_at_zero Go.wp_at_succ

/-- Which of two roots is read. -/
def best (r0 r1 : Option (Int × List Int)) : Option (Int × List Int) := if r1.isSome = true ∧ ep r0 < ep r1 then r1 else r0
noncomputable def readAll (D : Dk) (at' area : Int) : Option (Int × List Int) := best (readR D at' area 0) (readR D at' area 1)

set_option maxRecDepth 100000 in
set_option maxHeartbeats 8000000 in
theorem readAll_any {w W : World} {p : Nat} {D : Dk} {C : Nat → Prop} (h : Hd w W p D C) (hk : D.ok) (hf : Fit D) (at' area : Int) (h0 : 0 ≤ at') (h1 : at' ≤ D.now.length) (h2 : 1 ≤ area) (h3 : area ≤ 1000) :
    Calls Try.prog 44 #[.pointer (some ⟨p, 0, none⟩), .int .i64 at', .int .i64 area] W fun e w' => ∃ v, e = .returned (.tuple #[.int .i64 (ep (readAll D at' area)), v, .bool (readAll D at' area).isSome]) ∧ VB w' v (im (readAll D at' area)) ∧ Below W.heap.size W w' := by
  have hm := hk.max
  have kI := Lib.hid (is_any h hk at' 0)
  have hI : isB D.now.length at' 0 = true := by unfold isB; rw [decide_eq_true_eq]; omega
  rw [hI] at kI
  have kC := Lib.hid (cutA_any W area)
  have hcut : cutA area = area := by unfold cutA; rw [if_neg (by omega), if_neg (by omega)]
  rw [hcut] at kC
  have k0 := Lib.hid (fun W' (hW : Below W.heap.size W W') => rread_any (h.below hW) hk hf at' area 0 h0 (by omega) h2 h3 (.inl rfl))
  have k1 := Lib.hid (fun W' (hW : Below W.heap.size W W') => rread_any (h.below hW) hk hf at' area 1 h0 (by omega) h2 h3 (.inr rfl))
  unfold readAll
  generalize readR D at' area 0 = r0 at *
  generalize readR D at' area 1 = r1 at *
  have hb1 : r1.isSome = true ∧ ep r0 < ep r1 → best r0 r1 = r1 := fun hh => if_pos hh
  have hb0 : ¬ (r1.isSome = true ∧ ep r0 < ep r1) → best r0 r1 = r0 := fun hh => if_neg hh
  generalize best r0 r1 = r at *
  have hcs : (r1.isSome = false ∧ r = r0) ∨ (r1.isSome = true ∧ ¬ ep r0 < ep r1 ∧ r = r0) ∨ (r1.isSome = true ∧ ep r0 < ep r1 ∧ r = r1) := by
    cases hs : r1.isSome
    · exact .inl ⟨rfl, hb0 (fun hh => by rw [hs] at hh; cases hh.1)⟩
    · by_cases hh : ep r0 < ep r1
      · exact .inr (.inr ⟨rfl, hh, hb1 ⟨hs, hh⟩⟩)
      · exact .inr (.inl ⟨rfl, hh, hb0 (fun h => hh h.2)⟩)
  clear h hb0 hb1
  rcases hcs with ⟨c1, rfl⟩ | ⟨c1, c2, rfl⟩ | ⟨c1, c2, rfl⟩
  all_goals
    rw [c1] at k1
    try rw [c1]
    go_enter Try.func44, Try.ntmps44
    go_wp2_with fail
    refine kI.out.mono ?_; rintro e w1 ⟨rfl, hw1⟩
    have hw2 := hw1.symm
    subst hw2
    clear hw1
    go_wp2_with fail
    refine kC.out.mono ?_; rintro e w1 ⟨rfl, hw1⟩
    have hw2 := hw1.symm
    subst hw2
    clear hw1
    go_wp2_with fail
    refine (k0.out _ (Below.refl _ _)).mono ?_; rintro e w1 ⟨v1, rfl, hv1, hb1⟩
    obtain ⟨A1, a1, rfl, _⟩ := hv1.cells
    have hB1 := Lib.hid hb1
    replace hv1 := Lib.hid hv1
    go_wp2_with fail
    refine (k1.out _ hB1.out).mono ?_; rintro e w2 ⟨v2, rfl, hv2, hb2⟩
    obtain ⟨A2, a2, rfl, _⟩ := hv2.cells
    have hB2 := Lib.hid (below_then hB1.out hb2)
    have hv3 := Lib.hid (View.below hv1.out hb2)
    replace hv2 := Lib.hid hv2
    clear hb1 hb2 hv1 k0 k1 kI kC
    go_wp2_with fail
    go_ret3
    first | exact ⟨_, rfl, hv3.out, hB2.out⟩ | exact ⟨_, rfl, hv2.out, hB2.out⟩

/-- A disk behind the write of an image, and whether it went. -/
def writeR (D : Dk) (at' area e : Int) (b : List Int) : Dk × Bool :=
  if (D.put (placeR at' area e) b).2 = false then ((D.put (placeR at' area e) b).1, false)
  else if (D.put (placeR at' area e) b).1.sync.2 = false then ((D.put (placeR at' area e) b).1.sync.1, false)
  else if ((D.put (placeR at' area e) b).1.sync.1.write (at' + e % 2) (rootB e b.length)).2 = false then (((D.put (placeR at' area e) b).1.sync.1.write (at' + e % 2) (rootB e b.length)).1, false)
  else ((D.put (placeR at' area e) b).1.sync.1.write (at' + e % 2) (rootB e b.length)).1.sync
theorem sync_few (D : Dk) : D.sync.1.written = D.written ∧ D.sync.1.uns.length ≤ D.uns.length := by
  unfold Dk.sync; split <;> simp
theorem rootB_len (e s : Int) : (rootB e s).length = 64 := by
  unfold rootB
  rw [fillB_len]
  simp only [List.length_append, le_len, strL_len]
  rfl
theorem rootB_byteL (e s : Int) : byteL (rootB e s) := by
  unfold rootB
  exact (((byteL.le _ _).app (.str _)).app (.le _ _) |>.app (.le _ _)).fill

set_option maxRecDepth 100000 in
set_option maxHeartbeats 8000000 in
theorem writeR_any {w W : World} {p : Nat} {D : Dk} {C : Nat → Prop} (h : Hd w W p D C) (hk : D.ok) (at' area e : Int) (h0 : 0 ≤ at') (h1 : at' ≤ D.now.length) (h2 : 1 ≤ area) (h3 : area ≤ 1000) (he : 1 ≤ e) {v : Value} {b : List Int} (hv : VB W v b) (hbl : (b.length : Int) ≤ area * 64) (hw : D.written ≤ 1000000) (hu : D.uns.length ≤ 10000) :
    Calls Try.prog 43 #[.pointer (some ⟨p, 0, none⟩), .int .i64 at', .int .i64 area, .int .i64 e, v] W fun x w' => x = .returned (.int .i64 (if (writeR D at' area e b).2 = true then 0 else 12)) ∧ Hd w w' p (writeR D at' area e b).1 C ∧ Keeps C W w' := by
  have hm := hk.max
  have kI := Lib.hid (is_any h hk at' 0)
  have hI : isB D.now.length at' 0 = true := by unfold isB; rw [decide_eq_true_eq]; omega
  rw [hI] at kI
  have kC := Lib.hid (cutA_any W area)
  have hcut : cutA area = area := by unfold cutA; rw [if_neg (by omega), if_neg (by omega)]
  rw [hcut] at kC
  have kP := Lib.hid (fun W' => place_any W' at' area e h0 (by omega) (by omega) h3)
  have kW := Lib.hid (hd_put h hk (placeR at' area e) hv (by omega) (by omega) (by omega))
  obtain ⟨g1, g2, g3⟩ := put_few hk (placeR at' area e) b
  have hnb : need b.length ≤ 1000 := by unfold need; omega
  obtain ⟨res, hr⟩ : ∃ r, writeR D at' area e b = r := ⟨_, rfl⟩
  rw [hr]
  unfold writeR at hr
  generalize placeR at' area e = pl at *
  generalize D.put pl b = DP at *
  obtain ⟨D1, o1⟩ := DP
  simp only at hr g1 g2 g3 kW
  have g4 := sync_ok g3
  have g5 := sync_few D1
  have kS := Lib.hid (fun (W' : World) (hd : Hd w W' p D1 C) => hd_sync hd g3)
  generalize D1.sync = DS at *
  obtain ⟨D2, o2⟩ := DS
  simp only at hr g4 g5 kS
  have g6 := write_ok g4 (at' + e % 2) (rootB e b.length)
  have kR := Lib.hid (fun (W' : World) (C' : Nat → Prop) (v' : Value) (hd : Hd w W' p D2 C') (hv' : VB W' v' (rootB e b.length)) (hC : ∀ b, blockOf v' = some b → C' b) => hd_write hd g4 (at' + e % 2) hv' hC (by omega) (by omega))
  generalize D2.write (at' + e % 2) (rootB e b.length) = DR at *
  obtain ⟨D3, o3⟩ := DR
  simp only at hr g6 kR
  have kT := Lib.hid (fun (W' : World) (C' : Nat → Prop) (hd : Hd w W' p D3 C') => hd_sync hd g6)
  generalize D3.sync = DT at *
  obtain ⟨D4, o4⟩ := DT
  simp only at hr kT
  obtain ⟨A, cap, rfl, _, _⟩ := hv.cells
  have hbit : bits .and .i64 e 1 = e % 2 := Go.Proofs.PosteMem.bits_mask e 1 (by decide)
  have hfi : 0 ≤ at' + e % 2 ∧ at' + e % 2 ≤ 5000 := by omega
  have q1 : ¬ area * 64 < (b.length : Int) := by omega
  have q2 : ¬ e < 1 := by omega
  have hres : (o1 = false ∧ res = (D1, false)) ∨ (o1 = true ∧ o2 = false ∧ res = (D2, false)) ∨ (o1 = true ∧ o2 = true ∧ o3 = false ∧ res = (D3, false)) ∨ (o1 = true ∧ o2 = true ∧ o3 = true ∧ res = (D4, o4)) := by
    cases o1
    · exact .inl ⟨rfl, hr.symm⟩
    · cases o2
      · exact .inr (.inl ⟨rfl, rfl, hr.symm⟩)
      · cases o3
        · exact .inr (.inr (.inl ⟨rfl, rfl, rfl, hr.symm⟩))
        · exact .inr (.inr (.inr ⟨rfl, rfl, rfl, hr.symm⟩))
  clear hr h hv g1 g2 g5
  rcases hres with ⟨rfl, rfl⟩ | ⟨rfl, rfl, rfl⟩ | ⟨rfl, rfl, rfl, rfl⟩ | ⟨rfl, rfl, rfl, rfl⟩
  all_goals
    simp only [if_neg (show ¬ (false = true) by decide)]
    go_enter Try.func43, Try.ntmps43
    go_wp2_with fail
    refine kC.out.mono ?_; rintro x w1 ⟨rfl, hw1⟩
    have hw2 := hw1.symm
    subst hw2
    clear hw1
    go_wp2_with fail
    refine (kP.out _).mono ?_; rintro x w1 ⟨rfl, hw1⟩
    have hw2 := hw1.symm
    subst hw2
    clear hw1
    go_wp2_with fail
    refine kI.out.mono ?_; rintro x w1 ⟨rfl, hw1⟩
    have hw2 := hw1.symm
    subst hw2
    clear hw1
    go_wp2_with fail
    refine kW.out.mono ?_; rintro x w1 ⟨rfl, hd1, kp1⟩
    replace hd1 := Lib.hid hd1
    replace kp1 := Lib.hid kp1
    clear kW kI kC
    go_wp2_with fail
  · go_ret
    exact ⟨rfl, hd1.out, kp1.out⟩
  all_goals
    refine (kS.out _ hd1.out).mono ?_; rintro x w2 ⟨rfl, hd2, kp2⟩
    have kp12 := Lib.hid (kp1.out.trans kp2)
    replace hd2 := Lib.hid hd2
    clear kS hd1 kp1 kp2
    go_wp2_with fail
  · go_ret
    exact ⟨rfl, hd2.out, kp12.out⟩
  all_goals
    refine (root_any w2 e b.length).mono ?_; rintro x w3 ⟨v3, rfl, ho3, hb3⟩
    have hd3 := hd2.out.client hb3
    have hv3 := ho3.view
    have hC3 := fun x (hx : blockOf v3 = some x) => own_lt ho3 ((block_own v3).symm.trans hx)
    have kR3 := Lib.hid (kR.out w3 _ v3 hd3 hv3 (fun x hx => .inr (hC3 x hx)))
    have kp3 := Lib.hid (kp12.out.trans (Keeps.of_below hb3))
    obtain ⟨A3, c3, rfl, _, _, _⟩ := own_shape ho3
    clear kR hd2 kp12 ho3 hb3 hv3 hC3 hd3
    go_wp2_with fail
    refine kR3.out.mono ?_; rintro x w4 ⟨rfl, hd4, kp4⟩
    have kp5 := Lib.hid (kp3.out.trans (kp4.mono (fun b hb => .inl hb)))
    have kT4 := Lib.hid (kT.out w4 _ hd4)
    have hd5 := Lib.hid (hd4.mono (C' := C) (fun b hb => .inl hb))
    clear kR3 kp3 kp4 hd4 kT
    go_wp2_with fail
  · go_ret
    exact ⟨rfl, hd5.out, kp5.out⟩
  · refine kT4.out.mono ?_; rintro x w5 ⟨rfl, hd6, kp6⟩
    have kp7 := Lib.hid (kp5.out.trans (kp6.mono (fun b hb => .inl hb)))
    have hd7 := Lib.hid (hd6.mono (C' := C) (fun b hb => .inl hb))
    clear kT4 kp5 kp6 hd5 hd6
    cases o4
    all_goals
      go_wp2_with fail
      go_ret
      exact ⟨rfl, hd7.out, kp7.out⟩
end Go.Proofs.Ytbfcaapompkjhaa
