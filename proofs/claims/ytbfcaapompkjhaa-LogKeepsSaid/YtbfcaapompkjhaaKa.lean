/-
  LogKeeps: plain: what records are there behind an Append that a crash cut.
-/
import Derived.Test.YtbfcaapompkjhaaGi
import Derived.Test.YtbfcaapompkjhaaHh
set_option linter.unusedVariables false
namespace Go.Proofs.Ytbfcaapompkjhaa
open Go.RowKit Go.Proofs.PosteMem

/-- Records that come one by one, from a log to a log. -/
inductive Reach (D : Dk) : Lg → Lg → Prop where
  | refl (g : Lg) : Reach D g g
  | step {g g1 g2 : Lg} (h : fitsB g.en g.nx 0 = true) (hn : lnext D g = some g1) (ht : Reach D g1 g2) : Reach D g g2
def Stops (D : Dk) (g : Lg) : Prop := fitsB g.en g.nx 0 = false ∨ lnext D g = none
theorem opens_of {D : Dk} {g g' : Lg} (h : Reach D g g') (hs : Stops D g') : Opens D g g' := by
  induction h with
  | refl g => exact .stop g hs
  | step h hn _ ih => exact .step h hn (ih hs)
theorem opens_same {D : Dk} {g a b : Lg} (h : Opens D g a) (k : Opens D g b) : a = b := by
  induction h with
  | stop g h =>
    rcases h with h | h
    · cases k with
      | stop _ _ => rfl
      | step h2 _ _ => rw [h] at h2; cases h2
    · exact (opens_none k h).symm
  | step h hn _ ih => exact ih (opens_some k h hn)
theorem Reach.snoc {D : Dk} {g g1 g2 : Lg} (h : Reach D g g1) (hf : fitsB g1.en g1.nx 0 = true) (hn : lnext D g1 = some g2) : Reach D g g2 := by
  induction h with
  | refl g => exact .step hf hn (.refl _)
  | step h hn' _ ih => exact .step h hn' (ih hf hn)
theorem lnext_nx {D : Dk} {g g1 : Lg} (h : lnext D g = some g1) : g.nx + 1 ≤ g1.nx ∧ g1.en = g.en ∧ g1.nx = g.nx + (1 + needI (lsz (D.read g.nx))) ∧ g1.ep = g.ep ∧ 0 ≤ lsz (D.read g.nx) ∧ needI (lsz (D.read g.nx)) ≤ g.en - g.nx - 1 := by
  obtain ⟨h1, rfl⟩ := lnext_some h
  have h2 := fitsB_iff.1 h1.2.1
  have h3 := needI_nn (n := lsz (D.read g.nx))
  unfold Lg.with
  simp only
  exact ⟨by omega, trivial, trivial, trivial, h1.1, h2.2⟩
theorem Reach.nx {D : Dk} {g g' : Lg} (h : Reach D g g') : g.nx ≤ g'.nx ∧ g'.en = g.en ∧ g'.ep = g.ep := by
  induction h with
  | refl g => exact ⟨Int.le_refl _, rfl, rfl⟩
  | step h hn _ ih =>
    obtain ⟨n1, n2, _, n4, _⟩ := lnext_nx hn
    exact ⟨by omega, by rw [ih.2.1, n2], by rw [ih.2.2, n4]⟩
theorem lnext_congr {D D' : Dk} {g : Lg} (hl : D'.now.length = D.now.length) (he : g.en - g.nx ≤ 4000) (hh : D'.read g.nx = D.read g.nx) (hc : ∀ g1, lnext D g = some g1 → ∀ j, g.nx < j → j < g1.nx → D'.read j = D.read j) : lnext D' g = lnext D g := by
  cases hn : lnext D g with
  | none =>
    unfold lnext at hn ⊢
    unfold nextOk at hn ⊢
    rw [hh]
    split at hn
    · cases hn
    · rename_i h2; rw [if_neg h2]
  | some g1 =>
    have h3 := lnext_nx hn
    have h4 := hc g1 hn
    obtain ⟨h1, rfl⟩ := lnext_some hn
    unfold lnext
    have h1' : nextOk D' g := by unfold nextOk at h1 ⊢; rw [hh]; exact h1
    rw [if_pos h1', hh]
    obtain ⟨s, hs⟩ := Int.eq_ofNat_of_zero_le h1.1
    have hs' : lsz (D.read g.nx) = ((s : Nat) : Int) := hs
    rw [hs'] at h3 ⊢
    have hni := needI_nat s
    have e : D'.get (g.nx + 1) (s : Int) = D.get (g.nx + 1) (s : Int) := by
      refine get_congr hl fun j j1 j2 => h4 j (by omega) ?_
      have hlo := need_lo s
      rw [cutN_nat (by omega)] at j2
      unfold Lg.with
      simp only
      rw [hs']
      omega
    rw [e]
theorem Reach.congr {D D' : Dk} {g g' : Lg} (h : Reach D g g') (hl : D'.now.length = D.now.length) (he : g.en - g.nx ≤ 4000) (hr : ∀ j, j < g'.nx → D'.read j = D.read j) : Reach D' g g' := by
  induction h with
  | refl g => exact .refl g
  | step h hn ht ih =>
    obtain ⟨n1, n2, _⟩ := lnext_nx hn
    have n3 := ht.nx.1
    refine .step h ?_ (ih (by omega) hr)
    rw [lnext_congr hl he (hr _ (by omega)) fun g1' h1' j j1 j2 => hr j (by rw [hn] at h1'; cases h1'; omega)]
    exact hn
theorem Stops.congr {D D' : Dk} {g : Lg} (h : Stops D g) (hh : D'.read g.nx = D.read g.nx) : Stops D' g := by
  rcases h with h | h
  · exact .inl h
  · right
    unfold lnext nextOk at h ⊢
    rw [hh]
    split at h
    · cases h
    · rename_i h2; rw [if_neg h2]

/-- A disk of which all is sure. -/
structure Whol (D : Dk) : Prop where
  ok : D.ok
  uns : D.uns = []
  same : D.sure = D.now
/-- A disk behind a record that was to be put, and whether it was. -/
def zeroR (D1 : Dk) (g : Lg) (b : List Int) : Dk × Bool := if g.nx + 1 + needI b.length < g.en then D1.write (g.nx + 1 + needI b.length) z64 else (D1, true)
def lputR (D : Dk) (g : Lg) (b : List Int) : Dk × Bool :=
  if (D.put (g.nx + 1) b).2 = false then ((D.put (g.nx + 1) b).1, false)
  else if (zeroR (D.put (g.nx + 1) b).1 g b).2 = false then ((zeroR (D.put (g.nx + 1) b).1 g b).1, false)
  else if (zeroR (D.put (g.nx + 1) b).1 g b).1.sync.2 = false then ((zeroR (D.put (g.nx + 1) b).1 g b).1.sync.1, false)
  else if ((zeroR (D.put (g.nx + 1) b).1 g b).1.sync.1.write g.nx (headB g.ep (g.recs.length + 1) b.length)).2 = false then (((zeroR (D.put (g.nx + 1) b).1 g b).1.sync.1.write g.nx (headB g.ep (g.recs.length + 1) b.length)).1, false)
  else ((zeroR (D.put (g.nx + 1) b).1 g b).1.sync.1.write g.nx (headB g.ep (g.recs.length + 1) b.length)).1.sync
theorem crash_one {B D3 : Dk} {s : Int} {r : List Int} (h : Away B D3 s (s + 1)) (h0 : 0 ≤ s) (hs : s < B.now.length) (hun : D3.uns = [(s.toNat, r)]) (kp : List Bool) : (D3.crash kp).read s = r ∨ (D3.crash kp).read s = B.read s := by
  rw [read_get, if_neg (by omega), read_get, if_neg (by omega)]
  unfold Dk.crash
  simp only
  rw [hun]
  by_cases hkp : kp[0]? = some true
  · left
    rw [show ([(s.toNat, r)] : List (Nat × List Int)).length = 0 + 1 from rfl, settleN_put (by simp) hkp]
    simp only [settleN, List.getElem_cons_zero]
    rw [List.getElem?_set_self (by rw [h.sure]; omega)]
    rfl
  · right
    rw [show ([(s.toNat, r)] : List (Nat × List Int)).length = 0 + 1 from rfl, settleN_skip hkp]
    simp only [settleN]
    rw [h.sure]
theorem Whol.away {D : Dk} (h : Whol D) (lo hi : Int) : Away D D lo hi := ⟨h.same, fun x hx => (by rw [h.uns] at hx; cases hx), rfl, fun j _ => rfl⟩

set_option maxHeartbeats 2000000 in
theorem keep_step {D : Dk} {g0 g : Lg} {b : List Int} (h : Whol D) (hR : Reach D g0 g) (hS : Stops D g) (hep : -9223372036854775808 ≤ g.ep ∧ g.ep < 9223372036854775808) (h0 : 0 ≤ g.nx) (hen : g.en ≤ D.now.length) (hfit : fitsB g.en g.nx b.length = true) (hb : b.length ≤ 262144) (he : g0.en - g0.nx ≤ 4000) :
    ((lputR D g b).2 = true ∧ Whol (lputR D g b).1 ∧ (lputR D g b).1.now.length = D.now.length ∧ Reach (lputR D g b).1 g0 (g.with b b.length) ∧ Stops (lputR D g b).1 (g.with b b.length)) ∨
    ((lputR D g b).2 = false ∧ ∀ kp, Opens ((lputR D g b).1.crash kp) g0 g ∨ Opens ((lputR D g b).1.crash kp) g0 (g.with b b.length)) := by
  obtain ⟨f1, f2⟩ := fitsB_iff.1 hfit
  have hnn := needI_nn (n := (b.length : Int))
  have hni := needI_nat b.length
  have hf0 : fitsB g.en g.nx 0 = true := fitsB_iff.2 ⟨f1, by rw [show needI 0 = 0 from rfl]; omega⟩
  -- the old records, where nothing up to the next head turned
  have hold : ∀ D' : Dk, D'.now.length = D.now.length → (∀ j, j ≤ g.nx → D'.read j = D.read j) → Opens D' g0 g := fun D' hl hr => opens_of (hR.congr hl he fun j hj => hr j (by omega)) (hS.congr (hr _ (Int.le_refl _)))
  have hA := h.away (g.nx + 1) (g.nx + 1 + needI b.length + 1)
  have hA1 := hA.put (at' := g.nx + 1) (b := b) (by omega) (by omega) (by omega)
  have hfail : ∀ D', Away D D' (g.nx + 1) (g.nx + 1 + needI b.length + 1) → ∀ kp, Opens (D'.crash kp) g0 g := fun D' hA' kp => by
    obtain ⟨c1, c2⟩ := hA'.crash (by omega) kp
    exact hold _ c1 fun j hj => c2 j (.inl (by omega))
  have hget : (D.put (g.nx + 1) b).2 = true → (D.put (g.nx + 1) b).1.get (g.nx + 1) b.length = b := fun hy => by
    rcases Nat.eq_zero_or_pos b.length with hz | hz
    · have : b = [] := List.eq_nil_of_length_eq_zero hz
      subst this
      exact get_zero _ _
    · exact put_get hz hb hy
  have hok1 := (put_few h.ok (g.nx + 1) b).2.2
  unfold lputR
  generalize D.put (g.nx + 1) b = P1 at *
  obtain ⟨D1, o1⟩ := P1
  cases o1 with
  | false => exact .inr ⟨rfl, fun kp => .inl (hfail D1 hA1 kp)⟩
  | true =>
    have hg1 := hget rfl
    simp only [Bool.true_eq_false, if_false] at hg1 hA1 hok1 ⊢
    have hz : Away D (zeroR D1 g b).1 (g.nx + 1) (g.nx + 1 + needI b.length + 1) ∧ (zeroR D1 g b).1.ok ∧ ((zeroR D1 g b).2 = true → (∀ j : Int, j < g.nx + 1 + needI b.length → (zeroR D1 g b).1.read j = D1.read j) ∧ (g.nx + 1 + needI b.length < g.en → (zeroR D1 g b).1.read (g.nx + 1 + needI b.length) = z64)) := by
      unfold zeroR
      by_cases hh : g.nx + 1 + needI b.length < g.en
      · rw [if_pos hh]
        refine ⟨hA1.write (by omega) (by omega) (by omega), write_ok hok1 _ _, fun hy => ⟨fun j hj => ?_, fun _ => ?_⟩⟩
        · rw [read_write hy, if_neg (by omega)]
        · rw [read_write hy, if_pos rfl]
      · rw [if_neg hh]
        exact ⟨hA1, hok1, fun _ => ⟨fun j _ => rfl, fun hc => absurd hc hh⟩⟩
    generalize zeroR D1 g b = P2 at *
    obtain ⟨D2, o2⟩ := P2
    obtain ⟨z1, z2, z3⟩ := hz
    cases o2 with
    | false => exact .inr ⟨rfl, fun kp => .inl (hfail D2 z1 kp)⟩
    | true =>
      obtain ⟨z4, z5⟩ := z3 rfl
      simp only [Bool.true_eq_false, if_false] at z1 z2 z4 z5 ⊢
      cases hbr : D2.broken with
      | true =>
        rw [sync_not hbr]
        exact .inr ⟨rfl, fun kp => .inl (hfail D2 z1 kp)⟩
      | false =>
        have hso := sync_ok z2
        rw [sync_yes hbr] at hso ⊢
        simp only [Bool.true_eq_false, if_false] at hso ⊢
        obtain ⟨B2, hB2⟩ : ∃ B2 : Dk, (⟨D2.now, D2.now, [], D2.left, D2.broken, D2.written⟩ : Dk) = B2 := ⟨_, rfl⟩
        rw [hB2] at hso ⊢
        have b1 : B2.now.length = D.now.length := by rw [← hB2]; exact z1.len
        have b2 : ∀ j, B2.read j = D2.read j := fun j => by rw [← hB2]; exact read_of_now rfl j
        have b3 : B2.sure = B2.now := by rw [← hB2]
        have b4 : B2.uns = [] := by rw [← hB2]
        have hBW : Whol B2 := ⟨hso, b4, b3⟩
        have b6 : ∀ j, j ≤ g.nx → B2.read j = D.read j := fun j hj => by rw [b2]; exact z1.now j (.inl (by omega))
        have b7 : ∀ D' : Dk, D'.now.length = B2.now.length → (∀ j : Int, g.nx < j → D'.read j = B2.read j) → D'.get (g.nx + 1) b.length = b := fun D' hl hr => by
          have : D'.get (g.nx + 1) b.length = D1.get (g.nx + 1) b.length := by
            refine get_congr (by rw [hl, b1, ← hA1.len]) fun j j1 j2 => ?_
            rw [cutN_nat hb] at j2
            rw [hr j (by omega), b2, z4 j (by omega)]
          rw [this]
          exact hg1
        have hnew : ∀ D' : Dk, D'.now.length = B2.now.length → D'.read g.nx = headB g.ep (g.recs.length + 1) b.length → (∀ j : Int, j ≠ g.nx → D'.read j = B2.read j) → Reach D' g0 (g.with b b.length) ∧ Stops D' (g.with b b.length) := fun D' c1 c2 c3 => by
          have r1 : Reach D' g0 g := hR.congr (by rw [c1, b1]) he fun j hj => by rw [c3 j (by omega), b6 j (by omega)]
          have r2 : lnext D' g = some (g.with b b.length) := by
            rw [lnext_hit (s := b.length) hep (by omega) c2 hfit, b7 D' c1 fun j hj => c3 j (by omega)]
          refine ⟨r1.snoc hf0 r2, ?_⟩
          by_cases hh : g.nx + 1 + needI b.length < g.en
          · right
            refine lnext_no fun hc => ?_
            unfold Lg.with at hc
            simp only at hc
            have hz6 : D'.read (g.nx + (1 + needI b.length)) = z64 := by
              rw [show g.nx + (1 + needI b.length) = g.nx + 1 + needI b.length by omega, c3 _ (by omega), b2]
              exact z5 hh
            rw [hz6] at hc
            exact head_not_zero _ _ _ hc.symm
          · left
            rw [Bool.eq_false_iff]
            intro hc
            have := (fitsB_iff.1 hc).1
            unfold Lg.with at this
            simp only at this
            omega
        have hAB := hBW.away g.nx (g.nx + 1)
        have hA3 := hAB.write (i := g.nx) (bs := headB g.ep (g.recs.length + 1) b.length) (Int.le_refl _) (by omega) h0
        by_cases hw : (B2.write g.nx (headB g.ep (g.recs.length + 1) b.length)).2 = true
        · have hrd := fun j => read_write hw j
          have hun : (B2.write g.nx (headB g.ep (g.recs.length + 1) b.length)).1.uns = [(g.nx.toNat, headB g.ep (g.recs.length + 1) b.length)] := by
            unfold Dk.write at hw ⊢
            split
            · rename_i hc
              rw [if_pos hc] at hw
              cases hw
            · simp only; rw [b4]; rfl
          have hln := write_len B2 g.nx (headB g.ep (g.recs.length + 1) b.length)
          have hok3 := write_ok hso g.nx (headB g.ep (g.recs.length + 1) b.length)
          generalize B2.write g.nx (headB g.ep (g.recs.length + 1) b.length) = P3 at *
          obtain ⟨D3, o3⟩ := P3
          simp only at hw hrd hun hln hA3 hok3 ⊢
          subst hw
          simp only [Bool.true_eq_false, if_false]
          cases hbr3 : D3.broken with
          | true =>
            rw [sync_not hbr3]
            refine .inr ⟨rfl, fun kp => ?_⟩
            obtain ⟨c1, c2⟩ := hA3.crash h0 kp
            rcases crash_one hA3 h0 (by omega) hun kp with c3 | c3
            · obtain ⟨n1, n2⟩ := hnew _ c1 c3 fun j hj => c2 j (by omega)
              exact .inr (opens_of n1 n2)
            · refine .inl (hold _ (by rw [c1, b1]) fun j hj => ?_)
              by_cases hjn : j = g.nx
              · subst hjn; rw [c3, b6 _ (Int.le_refl _)]
              · rw [c2 j (by omega), b6 j hj]
          | false =>
            left
            have hso3 := sync_ok hok3
            rw [sync_yes hbr3] at hso3 ⊢
            obtain ⟨D5, hD5⟩ : ∃ D5 : Dk, (⟨D3.now, D3.now, [], D3.left, D3.broken, D3.written⟩ : Dk) = D5 := ⟨_, rfl⟩
            rw [hD5] at hso3 ⊢
            have r5 : ∀ j, D5.read j = D3.read j := fun j => by rw [← hD5]; exact read_of_now rfl j
            have r6 : D5.now.length = B2.now.length := by rw [← hD5]; exact hln
            have r7 : D5.uns = [] ∧ D5.sure = D5.now := by rw [← hD5]; exact ⟨rfl, rfl⟩
            obtain ⟨n1, n2⟩ := hnew D5 r6 (by rw [r5, hrd, if_pos rfl]) fun j hj => by rw [r5, hrd, if_neg hj]
            exact ⟨rfl, ⟨hso3, r7.1, r7.2⟩, by simp only; rw [r6, b1], n1, n2⟩
        · have hno : B2.write g.nx (headB g.ep (g.recs.length + 1) b.length) = (B2, false) := by
            unfold Dk.write at hw ⊢
            split at hw
            · rename_i hc; rw [if_pos hc]
            · exact absurd rfl hw
          rw [hno]
          simp only [if_true]
          refine .inr ⟨trivial, fun kp => .inl (hold _ ?_ fun j hj => ?_)⟩
          · unfold Dk.crash; simp only; rw [settleN_len, b3, b1]
          · rw [read_of_now (D' := B2) (by unfold Dk.crash; simp only; rw [b4, b3]; rfl), b6 j hj]
/-- A crash of a disk of which all is sure. -/
theorem keep_crash {D : Dk} {g0 g : Lg} (h : Whol D) (hR : Reach D g0 g) (hS : Stops D g) (he : g0.en - g0.nx ≤ 4000) (kp : List Bool) : Opens (D.crash kp) g0 g := by
  have hn : (D.crash kp).now = D.now := by unfold Dk.crash; simp only; rw [h.uns, h.same]; rfl
  exact opens_of (hR.congr (by rw [hn]) he fun j _ => read_of_now hn j) (hS.congr (read_of_now hn _))
end Go.Proofs.Ytbfcaapompkjhaa
