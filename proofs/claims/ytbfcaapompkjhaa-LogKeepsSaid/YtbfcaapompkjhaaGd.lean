/-
  roots: read, Read, Write by their contracts.
-/
import Derived.Test.YtbfcaapompkjhaaGc
set_option linter.unusedVariables false
set_option linter.unusedSimpArgs false
namespace Go.Proofs.Ytbfcaapompkjhaa
open Go.RowKit Go.Proofs.PosteMem
attribute [local go_sem ↓] Go.wp_at_zero Go.wp_at_succ

/-- All that lies on a disk is bytes. -/
structure Fit (D : Dk) : Prop where
  now : ∀ b ∈ D.now, byteL b
  sure : ∀ b ∈ D.sure, byteL b
  uns : ∀ x ∈ D.uns, byteL x.2
theorem byteL.nil : byteL [] := fun x h => by cases h
theorem Fit.read {D : Dk} (h : Fit D) (i : Int) : byteL (D.read i) := by
  unfold Dk.read
  split
  · exact h.now _ (List.getElem_mem _)
  · exact .nil
theorem Fit.write {D : Dk} (h : Fit D) (i : Int) {bs : List Int} (hb : byteL bs) : Fit (D.write i bs).1 := by
  unfold Dk.write
  split
  · exact h
  · refine ⟨fun b hm => ?_, h.sure, fun x hm => ?_⟩
    · rcases List.mem_or_eq_of_mem_set hm with hm | rfl
      · exact h.now b hm
      · exact hb
    · rcases List.mem_append.1 hm with hm | hm
      · exact h.uns x hm
      · rw [List.mem_singleton] at hm; rw [hm]; exact hb
theorem Fit.sync {D : Dk} (h : Fit D) : Fit D.sync.1 := by
  unfold Dk.sync
  split
  · exact h
  · exact ⟨h.now, h.now, fun x hx => by cases hx⟩
theorem Fit.brk {D : Dk} (h : Fit D) (n : Int) : Fit (D.brk n) := by
  unfold Dk.brk
  split
  · exact h
  · exact ⟨h.now, h.sure, h.uns⟩
theorem chunk_byteL {b : List Int} (h : byteL b) (k : Nat) : byteL (chunk b k) := (h.fill.drop _).take _
theorem Fit.putN {D : Dk} (h : Fit D) (at' : Int) {b : List Int} (hb : byteL b) : ∀ k, Fit (putN D at' b k).1
  | 0 => h
  | k + 1 => by
    unfold Go.Proofs.Ytbfcaapompkjhaa.putN
    split
    · exact (Fit.putN h at' hb k).write _ (chunk_byteL hb k)
    · exact Fit.putN h at' hb k
theorem Fit.put {D : Dk} (h : Fit D) (at' : Int) {b : List Int} (hb : byteL b) : Fit (D.put at' b).1 := by
  unfold Dk.put
  split
  · exact h
  · split
    · exact h.putN at' hb _
    · exact h
theorem Fit.new (K : Nat) : Fit (Dk.new K) := by
  have hz : byteL z64 := by unfold z64; exact .zeros 64
  exact ⟨fun b hb => by rw [List.eq_of_mem_replicate hb]; exact hz, fun b hb => by rw [List.eq_of_mem_replicate hb]; exact hz, fun x hx => by cases hx⟩

/-- The epoch that bytes spell, and the size. -/
def pe (b : List Int) : Int := wrap64 (rnum (rtext (some b)) 8)
def ps (b : List Int) : Int := wrap64 (rnum (rtake (rtext (some b)) 8).2 8)
theorem wrap64_range (n : Int) : -9223372036854775808 ≤ wrap64 n ∧ wrap64 n < 9223372036854775808 := by unfold wrap64; omega
theorem root_split (e s : Int) : ∃ z, rootB e s = le 4 2 ++ strL ⟨#[114, 111, 111, 116]⟩ ++ (le (IntKind.u64.wrap e) 8 ++ (le (IntKind.u64.wrap s) 8 ++ z)) := by
  unfold rootB fillB
  exact ⟨_, by simp only [List.append_assoc]; rfl⟩
theorem root_back (e s : Int) (he : -9223372036854775808 ≤ e ∧ e < 9223372036854775808) (hs : -9223372036854775808 ≤ s ∧ s < 9223372036854775808) : pe (rootB e s) = e ∧ ps (rootB e s) = s := by
  obtain ⟨z, hz⟩ := root_split e s
  have h1 : rtext (some (rootB e s)) = some (le (IntKind.u64.wrap e) 8 ++ (le (IntKind.u64.wrap s) 8 ++ z)) := by
    rw [hz]
    exact rtext_app ⟨#[114, 111, 111, 116]⟩ _ (by decide)
  unfold pe ps
  rw [h1, rnum_app _ _ (le_len _ _), rtake_app _ _ (le_len _ _), rnum_app _ _ (le_len _ _)]
  exact ⟨word_back e he.1 he.2, word_back s hs.1 hs.2⟩
def rootOk (len : Nat) (at' area which : Int) (b : List Int) : Prop := 1 ≤ pe b ∧ pe b % 2 = which ∧ 0 ≤ ps b ∧ ps b ≤ area * 64 ∧ b = rootB (pe b) (ps b) ∧ isB len (placeR at' area (pe b)) (needI (ps b)) = true
open Classical in
noncomputable def readR (D : Dk) (at' area which : Int) : Option (Int × List Int) :=
  if rootOk D.now.length at' area which (D.read (at' + which)) then some (pe (D.read (at' + which)), D.get (placeR at' area (pe (D.read (at' + which)))) (ps (D.read (at' + which)))) else none
def ep (r : Option (Int × List Int)) : Int := (r.getD (0, [])).1
def im (r : Option (Int × List Int)) : List Int := (r.getD (0, [])).2

set_option maxRecDepth 100000 in
set_option maxHeartbeats 8000000 in
theorem rread_any {w W : World} {p : Nat} {D : Dk} {C : Nat → Prop} (h : Hd w W p D C) (hk : D.ok) (hf : Fit D) (at' area which : Int) (h0 : 0 ≤ at') (h1 : at' ≤ 1000000) (h2 : 1 ≤ area) (h3 : area ≤ 1000) (hw : which = 0 ∨ which = 1) :
    Calls Try.prog 65 #[.pointer (some ⟨p, 0, none⟩), .int .i64 at', .int .i64 area, .int .i64 which] W fun e w' => ∃ v, e = .returned (.tuple #[.int .i64 (ep (readR D at' area which)), v, .bool (readR D at' area which).isSome]) ∧ VB w' v (im (readR D at' area which)) ∧ Below W.heap.size W w' := by
  have hm := hk.max
  have k1 := Lib.hid (hd_read h hk (at' + which))
  have hbl : byteL (D.read (at' + which)) := hf.read _
  have hlen : (D.read (at' + which)).length ≤ 64 := by
    unfold Dk.read
    split
    · rw [hk.bytes _ (List.getElem_mem _)]; omega
    · simp
  have hr := rnum_range hbl
  have kG := Lib.hid (fun W' (hW : Below W.heap.size W W') => hd_get (h.below hW) hk (placeR at' area (pe (D.read (at' + which)))) (ps (D.read (at' + which))))
  have kI := Lib.hid (fun W' (hW : Below W.heap.size W W') => is_any (h.below hW) hk (placeR at' area (pe (D.read (at' + which)))) (needI (ps (D.read (at' + which)))))
  obtain ⟨r, hr1⟩ : ∃ r, r = readR D at' area which := ⟨_, rfl⟩
  rw [← hr1]
  have hr2 : rootOk D.now.length at' area which (D.read (at' + which)) → r = some (pe (D.read (at' + which)), D.get (placeR at' area (pe (D.read (at' + which)))) (ps (D.read (at' + which)))) := fun hh => by rw [hr1]; unfold readR; rw [if_pos hh]
  have hr3 : ¬ rootOk D.now.length at' area which (D.read (at' + which)) → r = none := fun hh => by rw [hr1]; unfold readR; rw [if_neg hh]
  clear hr1
  unfold rootOk at hr2 hr3
  have hpe : wrap64 (rnum (rtext (some (D.read (at' + which)))) 8) = pe (D.read (at' + which)) := rfl
  have hps : wrap64 (rnum (rtake (rtext (some (D.read (at' + which)))) 8).2 8) = ps (D.read (at' + which)) := rfl
  have he2 := wrap64_range (rnum (rtext (some (D.read (at' + which)))) 8)
  have hs2 := wrap64_range (rnum (rtake (rtext (some (D.read (at' + which)))) 8).2 8)
  rw [hpe] at he2
  rw [hps] at hs2
  generalize D.read (at' + which) = b at *
  generalize pe b = E at *
  generalize ps b = S at *
  have hgetD : ∀ x, D.get (placeR at' area E) S = x → D.get (placeR at' area E) S = x := fun x h => h
  generalize D.get (placeR at' area E) S = img at *
  have hbit : bits .and .i64 E 1 = E % 2 := Go.Proofs.PosteMem.bits_mask E 1 (by decide)
  have hneed := needI_le (n := S) (by omega)
  have kN := Lib.hid (fun W' => need_any W' S (by omega))
  have kP := Lib.hid (fun W' => place_any W' at' area E h0 h1 (by omega) h3)
  generalize placeR at' area E = pl at *
  generalize needI S = nd at *
  generalize isB D.now.length pl nd = iB at *
  replace hr2 := Lib.hid hr2
  replace hr3 := Lib.hid hr3
  clear hgetD
  go_enter Try.func65, Try.ntmps65
  go_wp2_with fail
  refine k1.out.mono ?_; rintro e w1 ⟨v1, rfl, ho1, hb1⟩
  have hv1 : VB w1 v1 b := ho1.view
  have hbk := fun x (hx : blockOf v1 = some x) => own_lt ho1 ((block_own v1).symm.trans hx)
  obtain ⟨A1, c1, rfl, _, _, _⟩ := own_shape ho1
  have k2 := Lib.hid (reader_any w1 _ b hv1 (by omega))
  clear k1 ho1
  go_wp2_with fail
  refine k2.out.mono ?_; rintro e w2 ⟨q, rfl, hq, hr2, hb2⟩
  have hB2 := below_then hb1 hb2
  have hv2 := View.below hv1 hb2
  have k3 := Lib.hid (rtext_any w2 q _ hr2 hr.1 hr.2)
  clear k2 hr2 hv1 hr
  go_wp2_with fail
  refine k3.out.mono ?_; rintro e w3 ⟨⟨s3, rfl⟩, hr3, hu3⟩
  have k4 := Lib.hid (rint_any w3 q _ hr3)
  clear k3 hr3
  go_wp2_with fail
  refine k4.out.mono ?_; rintro e w4 ⟨rfl, hr4, hu4⟩
  rw [hpe]
  have k5 := Lib.hid (rint_any w4 q _ hr4)
  clear k4 hr4
  go_wp2_with fail
  refine k5.out.mono ?_; rintro e w5 ⟨rfl, hr5, hu5⟩
  rw [hps]
  have hu := (hu3.trans hu4 (fun _ _ h => h)).trans hu5 (fun _ _ h => h)
  have hB5 := Lib.hid (hB2.trans (hu.below hB2.size (fun b' e => by rw [e]; have := hb1.size; omega)))
  have hv5 := Lib.hid (View.upd hv2 hu (fun b' e1 e2 => by have := (hbk b' e1).2; omega))
  clear k5 hr5 hu3 hu4 hu5 hu hv2 hB2 hb1 hb2 hbk hpe hps hq
  have hcase : E < 1 ∨ (1 ≤ E ∧ E % 2 ≠ which) ∨ (1 ≤ E ∧ E % 2 = which ∧ S < 0) ∨ (1 ≤ E ∧ E % 2 = which ∧ 0 ≤ S ∧ area * 64 < S) ∨ (1 ≤ E ∧ E % 2 = which ∧ 0 ≤ S ∧ S ≤ area * 64) := by omega
  rcases hcase with c1 | ⟨c1, c2⟩ | ⟨c1, c2, c3⟩ | ⟨c1, c2, c3, c4⟩ | ⟨c1, c2, c3, c4⟩
  · obtain rfl := hr3.out (fun hh => by omega)
    clear hr2 hr3
    go_wp2_with fail
    go_ret3
    exact ⟨_, rfl, View.nil _ _, hB5.out⟩
  · have q2 : (E % 2 != which) = true := by simpa using c2
    obtain rfl := hr3.out (fun hh => by omega)
    clear hr2 hr3
    go_wp2_with fail
    go_ret3
    exact ⟨_, rfl, View.nil _ _, hB5.out⟩
  · have q2 : (E % 2 != which) = false := by simpa using c2
    obtain rfl := hr3.out (fun hh => by omega)
    clear hr2 hr3
    clear c2
    go_wp2_with fail
    go_ret3
    exact ⟨_, rfl, View.nil _ _, hB5.out⟩
  · have q2 : (E % 2 != which) = false := by simpa using c2
    obtain rfl := hr3.out (fun hh => by omega)
    clear hr2 hr3
    clear c2
    have q4 : ¬ S < 0 := by omega
    go_wp2_with fail
    go_ret3
    exact ⟨_, rfl, View.nil _ _, hB5.out⟩
  · have q2 : (E % 2 != which) = false := by simpa using c2
    have q3 : ¬ E < 1 := by omega
    have q4 : ¬ S < 0 := by omega
    have q5 : ¬ area * 64 < S := by omega
    have kR := Lib.hid (root_any w5 E S)
    replace c2 := Lib.hid c2
    go_wp2_with fail
    refine kR.out.mono ?_; rintro e w6 ⟨v6, rfl, ho6, hb6⟩
    have kE := Lib.hid (equalB w6 _ v6 b _ (View.below hv5.out hb6) ho6.view (by omega))
    have hB6 := Lib.hid (below_then hB5.out hb6)
    obtain ⟨A6, c6, rfl, _, _, _⟩ := own_shape ho6
    clear kR ho6 hb6
    by_cases c5 : b = rootB E S
    · rw [decide_eq_true c5] at kE
      replace c5 := Lib.hid c5
      go_wp2_with fail
      refine kE.out.mono ?_; rintro e w7 ⟨rfl, hb7⟩
      have hB7 := Lib.hid (below_then hB6.out hb7)
      clear kE hb7
      go_wp2_with fail
      refine (kP.out _).mono ?_; rintro e w8 ⟨rfl, hw1⟩
      have hw2 := hw1.symm
      subst hw2
      clear hw1
      go_wp2_with fail
      refine (kN.out _).mono ?_; rintro e w8 ⟨rfl, hw1⟩
      have hw2 := hw1.symm
      subst hw2
      clear hw1
      go_wp2_with fail
      refine (kI.out _ hB7.out).mono ?_; rintro e w8 ⟨rfl, hw1⟩
      have hw2 := hw1.symm
      subst hw2
      clear hw1
      cases iB with
      | true =>
        obtain rfl := hr2.out ⟨c1, c2.out, c3, c4, c5.out, rfl⟩
        clear hr2 hr3
        go_wp2_with fail
        refine (kP.out _).mono ?_; rintro e w8 ⟨rfl, hw1⟩
        have hw2 := hw1.symm
        subst hw2
        clear hw1
        go_wp2_with fail
        refine (kG.out _ hB7.out).mono ?_; rintro e w9 ⟨v9, rfl, hv9, hb9, _⟩
        have hB9 := Lib.hid (below_then hB7.out hb9)
        obtain ⟨A9, c9, rfl, _⟩ := hv9.cells
        replace hv9 := Lib.hid hv9
        go_wp2_with fail
        go_ret3
        exact ⟨_, rfl, hv9.out, hB9.out⟩
      | false =>
        obtain rfl := hr3.out (fun hh => by have := hh.2.2.2.2.2; cases this)
        clear hr2 hr3
        go_wp2_with fail
        go_ret3
        exact ⟨_, rfl, View.nil _ _, hB7.out⟩
    · rw [decide_eq_false c5] at kE
      obtain rfl := hr3.out (fun hh => c5 hh.2.2.2.2.1)
      clear hr2 hr3
      go_wp2_with fail
      refine kE.out.mono ?_; rintro e w7 ⟨rfl, hb7⟩
      have hB7 := Lib.hid (below_then hB6.out hb7)
      go_wp2_with fail
      go_ret3
      exact ⟨_, rfl, View.nil _ _, hB7.out⟩
end Go.Proofs.Ytbfcaapompkjhaa
