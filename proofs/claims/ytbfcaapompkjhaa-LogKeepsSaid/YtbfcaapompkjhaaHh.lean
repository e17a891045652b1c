/-
  Logs: plain facts: what was appended is there, and nothing of another epoch.
-/
import Derived.Test.YtbfcaapompkjhaaHg
set_option linter.unusedVariables false
namespace Go.Proofs.Ytbfcaapompkjhaa
open Go.RowKit Go.Proofs.PosteMem

theorem head_split (e n s : Int) : ∃ z, headB e n s = le 3 2 ++ strL ⟨#[114, 101, 99]⟩ ++ (le (IntKind.u64.wrap e) 8 ++ (le (IntKind.u64.wrap n) 8 ++ (le (IntKind.u64.wrap s) 8 ++ z))) := by
  unfold headB fillB
  exact ⟨_, by simp only [List.append_assoc]; rfl⟩
theorem head_back (e n s : Int) (he : -9223372036854775808 ≤ e ∧ e < 9223372036854775808) (hs : -9223372036854775808 ≤ s ∧ s < 9223372036854775808) : pe (headB e n s) = e ∧ lsz (headB e n s) = s := by
  obtain ⟨z, hz⟩ := head_split e n s
  have h1 : rtext (some (headB e n s)) = some (le (IntKind.u64.wrap e) 8 ++ (le (IntKind.u64.wrap n) 8 ++ (le (IntKind.u64.wrap s) 8 ++ z))) := by
    rw [hz]
    exact rtext_app ⟨#[114, 101, 99]⟩ _ (by decide)
  unfold pe lsz
  rw [h1, rnum_app _ _ (le_len _ _), rtake_app _ _ (le_len _ _), rtake_app _ _ (le_len _ _), rnum_app _ _ (le_len _ _)]
  exact ⟨word_back e he.1 he.2, word_back s hs.1 hs.2⟩
theorem head_not_zero (e n s : Int) : headB e n s ≠ z64 := fun h => by
  have h1 : (headB e n s).getD 0 0 = 3 := by
    obtain ⟨z, hz⟩ := head_split e n s
    rw [hz]
    rfl
  rw [h] at h1
  revert h1
  decide
theorem head_not_nil (e n s : Int) : headB e n s ≠ [] := fun h => by
  have := headB_len e n s
  rw [h] at this
  cases this
theorem opens_none {D : Dk} {g g' : Lg} (h : Opens D g g') (hn : lnext D g = none) : g' = g := by
  cases h with
  | stop _ _ => rfl
  | step _ h2 _ => rw [hn] at h2; cases h2
theorem opens_some {D : Dk} {g g1 g' : Lg} (h : Opens D g g') (hf : fitsB g.en g.nx 0 = true) (hn : lnext D g = some g1) : Opens D g1 g' := by
  cases h with
  | stop _ h9 =>
    rcases h9 with h9 | h9
    · rw [hf] at h9; cases h9
    · rw [hn] at h9; cases h9
  | step _ h2 h3 => rw [hn] at h2; cases h2; exact h3
theorem lnext_no {D : Dk} {g : Lg} (h : D.read g.nx ≠ headB g.ep (g.recs.length + 1) (lsz (D.read g.nx))) : lnext D g = none := by
  unfold lnext
  rw [if_neg fun hh => h hh.2.2]
theorem lnext_hit {D : Dk} {g : Lg} {s : Nat} (he : -9223372036854775808 ≤ g.ep ∧ g.ep < 9223372036854775808) (hs : (s : Int) < 9223372036854775808) (h : D.read g.nx = headB g.ep (g.recs.length + 1) s) (hf : fitsB g.en g.nx s = true) : lnext D g = some (g.with (D.get (g.nx + 1) s) s) := by
  have h1 := (head_back g.ep (g.recs.length + 1) s he ⟨by omega, hs⟩).2
  rw [← h] at h1
  unfold lnext
  rw [if_pos ⟨by rw [h1]; exact Int.natCast_nonneg _, by rw [h1]; exact hf, by rw [h1]; exact h⟩, h1]

structure Puts (D D' : Dk) (g : Lg) (b : List Int) : Prop where
  free : Free D'
  len : D'.now.length = D.now.length
  uns : D'.uns = []
  few : D'.written ≤ D.written + need b.length + 2
  head : D'.read g.nx = headB g.ep (g.recs.length + 1) b.length
  zero : g.nx + 1 + needI b.length < g.en → D'.read (g.nx + 1 + needI b.length) = z64
  get : D'.get (g.nx + 1) b.length = b
  stay : ∀ j : Int, j < g.nx → D'.read j = D.read j
  fit : Fit D → byteL b → Fit D'
theorem lput_facts {D : Dk} (h : Free D) {g : Lg} {b : List Int} (h0 : 0 ≤ g.nx) (hfit : fitsB g.en g.nx b.length = true) (hen : g.en ≤ D.now.length) (hb : b.length ≤ 262144) : Puts D (lputD D g b) g b := by
  obtain ⟨f1, f2⟩ := fitsB_iff.1 hfit
  have hnn := needI_nn (n := (b.length : Int))
  have hni := needI_nat b.length
  obtain ⟨p1, p2, p3⟩ := free_put h (at' := g.nx + 1) (b := b) (by omega) (by omega)
  obtain ⟨w1, _, _⟩ := put_few h.ok (g.nx + 1) b
  have hget : (D.put (g.nx + 1) b).1.get (g.nx + 1) b.length = b := by
    rcases Nat.eq_zero_or_pos b.length with hz | hz
    · have : b = [] := List.eq_nil_of_length_eq_zero hz
      subst this
      exact get_zero _ _
    · exact put_get hz hb p1
  have hout := fun j hj => put_read (D := D) (at' := g.nx + 1) (b := b) p1 (j := j) hj
  have hpf := fun (hF : Fit D) (hbb : byteL b) => hF.put (g.nx + 1) hbb
  unfold lputD
  generalize D.put (g.nx + 1) b = P1 at *
  obtain ⟨D1, o1⟩ := P1
  simp only at p1 p2 p3 w1 hget hout hpf ⊢
  -- the zero sector
  obtain ⟨z1, z2, z3, z4, z5, z6⟩ : Free (zeroD D1 g b) ∧ (zeroD D1 g b).now.length = D.now.length ∧ (zeroD D1 g b).written ≤ D1.written + 1 ∧ (g.nx + 1 + needI b.length < g.en → (zeroD D1 g b).read (g.nx + 1 + needI b.length) = z64) ∧ (∀ j : Int, j < g.nx + 1 + needI b.length → (zeroD D1 g b).read j = D1.read j) ∧ (Fit D1 → Fit (zeroD D1 g b)) := by
    unfold zeroD
    by_cases hh : g.nx + 1 + needI b.length < g.en
    · rw [if_pos hh]
      obtain ⟨u1, u2⟩ := free_write p2 (i := g.nx + 1 + needI b.length) (bs := z64) (by omega) (by omega) z64_len
      refine ⟨u2, by rw [write_len]; exact p3, (write_few _ _ _).1, fun _ => by rw [read_write u1, if_pos rfl], fun j hj => by rw [read_write u1, if_neg (by omega)], fun hF => hF.write _ (by unfold z64; exact fillL_byteL 64 (by decide))⟩
    · rw [if_neg hh]
      exact ⟨p2, p3, by omega, fun hc => absurd hc hh, fun j _ => rfl, id⟩
  generalize zeroD D1 g b = D2 at *
  have s1 := sync_free z1
  have s2 := free_sync z1
  have s3 := fun j => read_sync D2 j
  have s4 := len_sync D2
  have s5 := (sync_few D2).1
  have s6 := fun (hF : Fit D2) => hF.sync
  generalize D2.sync = P3 at *
  obtain ⟨D3, o3⟩ := P3
  simp only at s2 s3 s4 s5 s6 ⊢
  obtain ⟨r1, r2⟩ := free_write s2 (i := g.nx) (bs := headB g.ep (g.recs.length + 1) b.length) h0 (by omega) (headB_len _ _ _)
  have r3 := write_len D3 g.nx (headB g.ep (g.recs.length + 1) b.length)
  have r4 := fun j => read_write (D := D3) (i := g.nx) (bs := headB g.ep (g.recs.length + 1) b.length) r1 j
  have r5 := (write_few D3 g.nx (headB g.ep (g.recs.length + 1) b.length)).1
  have r6 := fun (hF : Fit D3) => hF.write g.nx (headB_byteL g.ep (g.recs.length + 1) b.length)
  generalize D3.write g.nx (headB g.ep (g.recs.length + 1) b.length) = P4 at *
  obtain ⟨D4, o4⟩ := P4
  simp only at r2 r3 r4 r5 r6 ⊢
  have t1 := sync_free r2
  have hrd : ∀ j, D4.sync.1.read j = if j = g.nx then headB g.ep (g.recs.length + 1) b.length else D2.read j := fun j => by rw [read_sync, r4, s3]
  have hln : D4.sync.1.now.length = D.now.length := by rw [len_sync, r3, s4, z2]
  refine ⟨free_sync r2, hln, by rw [t1], by have := (sync_few D4).1; omega, by rw [hrd, if_pos rfl], fun hh => by rw [hrd, if_neg (by omega)]; exact z4 hh, ?_, fun j hj => ?_, fun hF hbb => (r6 (s6 (z6 (hpf hF hbb)))).sync⟩
  · have hc : D4.sync.1.get (g.nx + 1) b.length = D1.get (g.nx + 1) b.length := by
      refine get_congr (by rw [hln, p3]) fun j j1 j2 => ?_
      rw [cutN_nat (by omega)] at j2
      rw [hrd, if_neg (by omega)]
      exact z5 j (by omega)
    rw [hc, hget]
  · rw [hrd, if_neg (by omega), z5 j (by omega)]
    exact hout j (.inl (by omega))

/-- A disk whose first sector of the log is nothing, or a head of an epoch that was. -/
structure Past (D : Dk) (L : Nat) (E : Int → Prop) : Prop where
  free : Free D
  fit : Fit D
  len : D.now.length = L
  uns : D.uns = []
  head : D.read 1 = z64 ∨ ∃ e n s : Int, D.read 1 = headB e n s ∧ E e ∧ (-9223372036854775808 ≤ e ∧ e < 9223372036854775808) ∧ (-9223372036854775808 ≤ s ∧ s < 9223372036854775808)
theorem past_none {D : Dk} {L : Nat} {E : Int → Prop} (h : Past D L E) {ep en : Int} (hr : -9223372036854775808 ≤ ep ∧ ep < 9223372036854775808) (hE : ¬ E ep) : lnext D ⟨1, en, 1, ep, [], false⟩ = none := by
  refine lnext_no fun hh => ?_
  simp only at hh
  rcases h.head with h1 | ⟨e, n, s, h1, h2, h3, h4⟩
  · rw [h1] at hh
    exact head_not_zero _ _ _ hh.symm
  · have e1 := (head_back e n s h3 h4).1
    have e2 := (head_back ep (([] : List (List Int)).length + 1) (lsz (D.read 1)) hr (wrap64_range _)).1
    rw [← hh, h1, e1] at e2
    exact hE (e2 ▸ h2)
/-- Two records of a new epoch. -/
theorem past_two {D : Dk} {E : Int → Prop} (h : Past D 40 E) {ep : Int} (hr : -9223372036854775808 ≤ ep ∧ ep < 9223372036854775808) {a b : List Int} (ha : a.length ≤ 255) (hb : b.length ≤ 63) (hab : byteL a) (hbb : byteL b) :
    fitsB 40 1 a.length = true ∧ fitsB 40 (1 + (1 + needI a.length)) b.length = true ∧
    Free (lputD D ⟨1, 40, 1, ep, [], false⟩ a) ∧ (lputD D ⟨1, 40, 1, ep, [], false⟩ a).now.length = 40 ∧ (lputD D ⟨1, 40, 1, ep, [], false⟩ a).uns = [] ∧ (lputD D ⟨1, 40, 1, ep, [], false⟩ a).written ≤ D.written + 10 ∧
    (lputD (lputD D ⟨1, 40, 1, ep, [], false⟩ a) ⟨1, 40, 1 + (1 + needI a.length), ep, [a], false⟩ b).written ≤ D.written + 20 ∧
    Past (lputD (lputD D ⟨1, 40, 1, ep, [], false⟩ a) ⟨1, 40, 1 + (1 + needI a.length), ep, [a], false⟩ b) 40 (fun e => E e ∨ e = ep) ∧
    ∀ g, Opens (lputD (lputD D ⟨1, 40, 1, ep, [], false⟩ a) ⟨1, 40, 1 + (1 + needI a.length), ep, [a], false⟩ b) ⟨1, 40, 1, ep, [], false⟩ g → g.recs = [a, b] := by
  have na : needI a.length = (need a.length : Nat) := needI_nat _
  have nb : needI b.length = (need b.length : Nat) := needI_nat _
  have na2 : need a.length ≤ 4 := by unfold need; omega
  have nb2 : need b.length ≤ 1 := by unfold need; omega
  have fa : fitsB 40 1 a.length = true := fitsB_iff.2 ⟨by omega, by omega⟩
  have fb : fitsB 40 (1 + (1 + needI a.length)) b.length = true := fitsB_iff.2 ⟨by omega, by omega⟩
  have P1 := lput_facts h.free (g := ⟨1, 40, 1, ep, [], false⟩) (b := a) (by show (0 : Int) ≤ 1; decide) fa (by rw [h.len]; show (40 : Int) ≤ 40; decide) (by omega)
  generalize hD1 : lputD D ⟨1, 40, 1, ep, [], false⟩ a = D1 at *
  have P2 := lput_facts P1.free (g := ⟨1, 40, 1 + (1 + needI a.length), ep, [a], false⟩) (b := b) (by simp only; omega) fb (by rw [P1.len, h.len]; show (40 : Int) ≤ 40; decide) (by omega)
  generalize hD2 : lputD D1 ⟨1, 40, 1 + (1 + needI a.length), ep, [a], false⟩ b = D2 at *
  obtain ⟨a1, a2, a3, a4, a5, a6, a7, a8, a9⟩ := P1
  obtain ⟨b1, b2, b3, b4, b5, b6, b7, b8, b9⟩ := P2
  simp only at a5 a6 a7 a8 b5 b6 b7 b8
  have hd1 : D2.read 1 = headB ep (([] : List (List Int)).length + 1) a.length := by rw [b8 1 (by omega)]; exact a5
  refine ⟨fa, fb, a1, by rw [a2, h.len], a3, by omega, by omega, ⟨b1, b9 (a9 h.fit hab) hbb, by rw [b2, a2, h.len], b3, .inr ⟨ep, _, _, hd1, .inr rfl, hr, by omega, by omega⟩⟩, fun g hg => ?_⟩
  have x1 : lnext D2 ⟨1, 40, 1, ep, [], false⟩ = some ⟨1, 40, 1 + (1 + needI a.length), ep, [a], false⟩ := by
    rw [lnext_hit (s := a.length) hr (by omega) hd1 fa]
    have hga : D2.get (1 + 1) a.length = a := by
      rw [← a7]
      have : D2.get (1 + 1) (D1.get (1 + 1) a.length).length = D1.get (1 + 1) (D1.get (1 + 1) a.length).length := by
        rw [a7]
        refine get_congr b2 fun j j1 j2 => ?_
        rw [cutN_nat (by omega)] at j2
        exact b8 j (by omega)
      rw [a7] at this ⊢
      rw [this, a7]
    unfold Lg.with
    simp only
    rw [hga]
    rfl
  have y1 := opens_some hg (show fitsB 40 1 0 = true by decide) x1
  have x2 : lnext D2 ⟨1, 40, 1 + (1 + needI a.length), ep, [a], false⟩ = some ⟨1, 40, 1 + (1 + needI a.length) + (1 + needI b.length), ep, [a, b], false⟩ := by
    rw [lnext_hit (s := b.length) hr (by omega) b5 fb]
    unfold Lg.with
    simp only
    rw [b7]
    rfl
  have y2 := opens_some y1 (fitsB_iff.2 ⟨by simp only; omega, by simp only; rw [show needI 0 = 0 from rfl]; omega⟩) x2
  have x3 : lnext D2 ⟨1, 40, 1 + (1 + needI a.length) + (1 + needI b.length), ep, [a, b], false⟩ = none := by
    refine lnext_no fun hh => ?_
    simp only at hh
    have hz := b6 (by omega)
    rw [show 1 + (1 + needI a.length) + 1 + needI b.length = 1 + (1 + needI a.length) + (1 + needI b.length) by omega] at hz
    rw [hz] at hh
    exact head_not_zero _ _ _ hh.symm
  have := opens_none y2 x3
  rw [this]
end Go.Proofs.Ytbfcaapompkjhaa
