/-
  RootsTurn: plain: what is read behind a write that a crash cut.
-/
import Derived.Test.YtbfcaapompkjhaaGg
set_option linter.unusedVariables false
namespace Go.Proofs.Ytbfcaapompkjhaa
open Go.RowKit Go.Proofs.PosteMem

theorem read_get (D : Dk) (i : Int) : D.read i = if i < 0 then [] else (D.now[i.toNat]?).getD [] := by
  unfold Dk.read
  by_cases h : i < 0
  · rw [if_pos h, dif_neg (by omega)]
  · rw [if_neg h]
    by_cases h2 : i.toNat < D.now.length
    · rw [dif_pos ⟨by omega, h2⟩, List.getElem?_eq_getElem h2]; rfl
    · rw [dif_neg (by omega), List.getElem?_eq_none (by omega)]; rfl
theorem settleN_out {kp : List Bool} {U : List (Nat × List Int)} {S : List (List Int)} {j : Nat} (h : ∀ x ∈ U, x.1 ≠ j) : ∀ i, i ≤ U.length → (settleN kp U S i)[j]? = S[j]?
  | 0, _ => rfl
  | i + 1, hi => by
    by_cases hk : kp[i]? = some true
    · rw [settleN_put (by omega) hk, List.getElem?_set_ne (h _ (List.getElem_mem (by omega)))]
      exact settleN_out h i (by omega)
    · rw [settleN_skip hk]
      exact settleN_out h i (by omega)
/-- A disk on which from a state that is sure only sectors between lo and hi were written. -/
structure Away (B D : Dk) (lo hi : Int) : Prop where
  sure : D.sure = B.now
  uns : ∀ x ∈ D.uns, lo ≤ (x.1 : Int) ∧ (x.1 : Int) < hi
  len : D.now.length = B.now.length
  now : ∀ j : Int, j < lo ∨ hi ≤ j → D.read j = B.read j
theorem Away.write {B D : Dk} {lo hi : Int} (h : Away B D lo hi) {i : Int} {bs : List Int} (h1 : lo ≤ i) (h2 : i < hi) (h0 : 0 ≤ lo) : Away B (D.write i bs).1 lo hi := by
  by_cases hw : (D.write i bs).2 = true
  · refine ⟨?_, ?_, by rw [write_len]; exact h.len, fun j hj => ?_⟩
    · have : (D.write i bs).1.sure = D.sure := by unfold Dk.write; split <;> rfl
      rw [this]; exact h.sure
    · intro x hx
      have : (D.write i bs).1.uns = D.uns ∨ (D.write i bs).1.uns = D.uns ++ [(i.toNat, bs)] := by unfold Dk.write; split; exact .inl rfl; exact .inr rfl
      rcases this with e | e
      · rw [e] at hx; exact h.uns x hx
      · rw [e] at hx
        rcases List.mem_append.1 hx with hx | hx
        · exact h.uns x hx
        · rw [List.mem_singleton] at hx
          rw [hx]
          simp only
          omega
    · rw [read_write hw, if_neg (by omega)]
      exact h.now j hj
  · have : D.write i bs = (D, false) := by
      unfold Dk.write at hw ⊢
      split at hw
      · rename_i hc; rw [if_pos hc]
      · exact absurd rfl hw
    rw [this]
    exact h
theorem Away.putN {B D : Dk} {lo hi at' : Int} {b : List Int} (h : Away B D lo hi) (h1 : lo ≤ at') (h0 : 0 ≤ lo) : ∀ k : Nat, at' + k ≤ hi → Away B (putN D at' b k).1 lo hi
  | 0, _ => h
  | k + 1, hk => by
    unfold Go.Proofs.Ytbfcaapompkjhaa.putN
    split
    · exact (Away.putN h h1 h0 k (by omega)).write (by omega) (by omega) h0
    · exact Away.putN h h1 h0 k (by omega)
theorem Away.put {B D : Dk} {lo hi at' : Int} {b : List Int} (h : Away B D lo hi) (h1 : lo ≤ at') (h0 : 0 ≤ lo) (h2 : at' + need b.length ≤ hi) : Away B (D.put at' b).1 lo hi := by
  unfold Dk.put
  split
  · exact h
  · split
    · exact h.putN h1 h0 _ h2
    · exact h
theorem Away.crash {B D : Dk} {lo hi : Int} (h : Away B D lo hi) (h0 : 0 ≤ lo) (kp : List Bool) : (D.crash kp).now.length = B.now.length ∧ ∀ j : Int, j < lo ∨ hi ≤ j → (D.crash kp).read j = B.read j := by
  refine ⟨by unfold Dk.crash; simp only; rw [settleN_len, h.sure], fun j hj => ?_⟩
  rw [read_get, read_get]
  by_cases hn : j < 0
  · rw [if_pos hn, if_pos hn]
  · rw [if_neg hn, if_neg hn]
    unfold Dk.crash
    simp only
    rw [settleN_out (fun x hx => by have := h.uns x hx; omega) _ (Nat.le_refl _), h.sure]

/-- A disk of epochs, all of it sure. -/
structure Sure (D : Dk) (at' area : Int) (L k : Nat) (b : List Int) : Prop where
  eps : Eps D at' area L k b
  same : D.sure = D.now
  other : ∀ e b', readR D at' area (1 - (k : Int) % 2) = some (e, b') → e < k
theorem Sure.new (L : Nat) (h : L ≤ 4096) (at' area : Int) : Sure (Dk.new L) at' area L 0 [] := ⟨.new L h at' area, rfl, fun e b' h => by rw [readR_new] at h; cases h⟩
theorem Sure.next {D : Dk} {at' area : Int} {L k : Nat} {b b' : List Int} (h : Sure D at' area L k b) (h0 : 0 ≤ at') (h1 : at' + 2 + 2 * area ≤ L) (h2 : 1 ≤ area) (h3 : area ≤ 10) (hk : k ≤ 1000) (hb : (b'.length : Int) ≤ area * 64) (hbb : byteL b') :
    (writeR D at' area ((k : Int) + 1) b').2 = true ∧ Sure (writeR D at' area ((k : Int) + 1) b').1 at' area L (k + 1) b' := by
  obtain ⟨w1, w2, _⟩ := h.eps.next h0 h1 h2 h3 hk hb hbb
  obtain ⟨_, _, _, _, s5, _, w7⟩ := write_free h.eps.free (at' := at') (area := area) (e := (k : Int) + 1) (b := b') h0 (by rw [h.eps.len]; exact h1) h2 (by omega) (by omega) (by omega) hb
  refine ⟨w1, w2, s5, fun e b'' he => ?_⟩
  have p1 : (1 : Int) - ((k + 1 : Nat) : Int) % 2 = 1 - ((k : Int) + 1) % 2 := by push_cast; rfl
  rw [p1, w7] at he
  have p2 : (1 : Int) - ((k : Int) + 1) % 2 = (k : Int) % 2 := by omega
  rw [p2] at he
  have := h.eps.old e b'' he
  omega

/-- The epoch that is read hangs on the root's sector alone. -/
theorem readR_root {D D' : Dk} {at' area which : Int} (hl : D'.now.length = D.now.length) (hr : D'.read (at' + which) = D.read (at' + which)) {e : Int} {b : List Int} (h : readR D' at' area which = some (e, b)) : ∃ b', readR D at' area which = some (e, b') := by
  unfold readR at h ⊢
  rw [hr, hl] at h
  by_cases hok : rootOk D.now.length at' area which (D.read (at' + which))
  · rw [if_pos hok] at h ⊢
    cases h
    exact ⟨_, rfl⟩
  · rw [if_neg hok] at h
    cases h
def lastOf (k : Nat) (b : List Int) : Option (Int × List Int) := if k = 0 then none else some ((k : Int), b)
theorem none_of {D : Dk} {at' area which : Int} {k : Nat} (hk : k = 0) (h : ∀ e b', readR D at' area which = some (e, b') → e ≤ k) : readR D at' area which = none := by
  cases hr : readR D at' area which with
  | none => rfl
  | some x =>
    have h1 := h x.1 x.2 hr
    unfold readR at hr
    split at hr
    · rename_i hok
      cases hr
      have := hok.1
      simp only at h1
      omega
    · cases hr
/-- Nothing but the next image's own sectors turned: the last image is read. -/
theorem turn_old {D D3 : Dk} {at' area : Int} {L k : Nat} {b : List Int} (h : Sure D at' area L k b) (h2 : 1 ≤ area) (h3 : area ≤ 10) (hl : D3.now.length = D.now.length)
    (hr : ∀ j : Int, j < at' + 2 + ((k : Int) + 1) % 2 * area ∨ at' + 2 + ((k : Int) + 1) % 2 * area + area ≤ j → D3.read j = D.read j) : readAll D3 at' area = lastOf k b := by
  have hp : ((k : Int) % 2 = 0 ∧ ((k : Int) + 1) % 2 = 1) ∨ ((k : Int) % 2 = 1 ∧ ((k : Int) + 1) % 2 = 0) := by omega
  have e1 : readR D3 at' area ((k : Int) % 2) = readR D at' area ((k : Int) % 2) := by
    refine readR_congr h2 (by omega) hl (hr _ ?_) fun j j1 j2 => hr j ?_
    · rcases hp with ⟨p1, p2⟩ | ⟨p1, p2⟩ <;> rw [p1, p2] <;> omega
    · rcases hp with ⟨p1, p2⟩ | ⟨p1, p2⟩ <;> rw [p1] at j1 j2 <;> rw [p2] <;> omega
  have e2 : ∀ e b', readR D3 at' area (1 - (k : Int) % 2) = some (e, b') → e < k := fun e b' he => by
    obtain ⟨b'', hb⟩ := readR_root hl (hr _ (by rcases hp with ⟨p1, p2⟩ | ⟨p1, p2⟩ <;> rw [p1, p2] <;> omega)) he
    exact h.other e b'' hb
  unfold lastOf
  by_cases hk : k = 0
  · rw [if_pos hk]
    have n1 := none_of hk (fun e b' he => h.eps.old e b' (e1 ▸ he))
    have n2 := none_of (which := 1 - (k : Int) % 2) hk (fun e b' he => by have := e2 e b' he; omega)
    subst hk
    simp only [Int.natCast_zero, Int.zero_emod, Int.sub_zero] at n1 n2
    unfold readAll best
    rw [n1, n2]
    simp
  · rw [if_neg hk]
    exact best_of (by omega) (by rw [e1]; exact h.eps.last (by omega)) e2
/-- The new root stands, over the new image: that is read. -/
theorem turn_new {D D3 : Dk} {at' area : Int} {L k : Nat} {b b' : List Int} (h : Sure D at' area L k b) (h0 : 0 ≤ at') (h1 : at' + 2 + 2 * area ≤ L) (h2 : 1 ≤ area) (h3 : area ≤ 10) (hk : k ≤ 1000) (hb : (b'.length : Int) ≤ area * 64) (hl : D3.now.length = D.now.length)
    (hs : D3.read (at' + ((k : Int) + 1) % 2) = rootB ((k : Int) + 1) b'.length) (hg : D3.get (placeR at' area ((k : Int) + 1)) b'.length = b')
    (hr : ∀ j : Int, j ≠ at' + ((k : Int) + 1) % 2 → j < at' + 2 + ((k : Int) + 1) % 2 * area ∨ at' + 2 + ((k : Int) + 1) % 2 * area + area ≤ j → D3.read j = D.read j) : readAll D3 at' area = some ((k : Int) + 1, b') := by
  have hp : ((k : Int) % 2 = 0 ∧ ((k : Int) + 1) % 2 = 1) ∨ ((k : Int) % 2 = 1 ∧ ((k : Int) + 1) % 2 = 0) := by omega
  obtain ⟨b1, b2⟩ := root_back ((k : Int) + 1) b'.length ⟨by omega, by omega⟩ ⟨by omega, by omega⟩
  have hnb : (need b'.length : Int) ≤ area := by unfold need; omega
  have hL := h.eps.len
  refine best_of (by omega) ?_ fun e b'' he => ?_
  · have hok : rootOk D3.now.length at' area (((k : Int) + 1) % 2) (rootB ((k : Int) + 1) b'.length) := by
      unfold rootOk
      rw [b1, b2, needI_nat, hl, hL]
      clear b1 b2 hs hg hr
      refine ⟨by omega, rfl, Int.natCast_nonneg _, hb, rfl, ?_⟩
      unfold isB placeR
      rw [decide_eq_true_eq]
      rcases hp with ⟨p1, p2⟩ | ⟨p1, p2⟩ <;> rw [p2] <;> omega
    unfold readR
    rw [hs, if_pos hok, b1, b2, hg]
  · have p3 : (1 : Int) - ((k : Int) + 1) % 2 = (k : Int) % 2 := by omega
    rw [p3] at he
    have e1 : readR D3 at' area ((k : Int) % 2) = readR D at' area ((k : Int) % 2) := by
      refine readR_congr h2 (by omega) hl (hr _ ?_ ?_) fun j j1 j2 => hr j ?_ ?_
      · omega
      · rcases hp with ⟨p1, p2⟩ | ⟨p1, p2⟩ <;> rw [p1, p2] <;> omega
      · rcases hp with ⟨p1, p2⟩ | ⟨p1, p2⟩ <;> rw [p1] at j1 <;> rw [p2] <;> omega
      · rcases hp with ⟨p1, p2⟩ | ⟨p1, p2⟩ <;> rw [p1] at j1 j2 <;> rw [p2] <;> omega
    rw [e1] at he
    have := h.eps.old e b'' he
    omega

theorem sync_not {D : Dk} (h : D.broken = true) : D.sync = (D, false) := by unfold Dk.sync; rw [if_pos h]
theorem sync_yes {D : Dk} (h : D.broken = false) : D.sync = (⟨D.now, D.now, [], D.left, D.broken, D.written⟩, true) := by unfold Dk.sync; rw [if_neg (by rw [h]; decide)]
theorem read_of_now {D D' : Dk} (h : D.now = D'.now) (j : Int) : D.read j = D'.read j := by rw [read_get, read_get, h]
/-- Behind a write of the next epoch that a crash cut. -/
theorem turn {D : Dk} {at' area : Int} {L k : Nat} {b b' : List Int} (h : Sure D at' area L k b) (h0 : 0 ≤ at') (h1 : at' + 2 + 2 * area ≤ L) (h2 : 1 ≤ area) (h3 : area ≤ 10) (hk : k ≤ 1000) (hb : (b'.length : Int) ≤ area * 64) (left : Int) (kp : List Bool) :
    readAll ((writeR (D.brk left) at' area ((k : Int) + 1) b').1.crash kp) at' area = some ((k : Int) + 1, b') ∨
    ((writeR (D.brk left) at' area ((k : Int) + 1) b').2 = false ∧ readAll ((writeR (D.brk left) at' area ((k : Int) + 1) b').1.crash kp) at' area = lastOf k b) := by
  have hp : ((k : Int) % 2 = 0 ∧ ((k : Int) + 1) % 2 = 1) ∨ ((k : Int) % 2 = 1 ∧ ((k : Int) + 1) % 2 = 0) := by omega
  have hL := h.eps.len
  have hnb : (need b'.length : Int) ≤ area := by unfold need; omega
  have hpl : placeR at' area ((k : Int) + 1) = at' + 2 + ((k : Int) + 1) % 2 * area := rfl
  have hlo : 0 ≤ at' + 2 + ((k : Int) + 1) % 2 * area := by rcases hp with ⟨p1, p2⟩ | ⟨p1, p2⟩ <;> rw [p2] <;> omega
  have hf := h.eps.free.broken
  have hA : Away D (D.brk left) (at' + 2 + ((k : Int) + 1) % 2 * area) (at' + 2 + ((k : Int) + 1) % 2 * area + area) := by
    unfold Dk.brk
    rw [if_neg (by rw [hf]; decide)]
    exact ⟨h.same, fun x hx => (by rw [h.eps.uns] at hx; cases hx), rfl, fun j _ => read_of_now rfl j⟩
  have hAP := hA.put (at' := placeR at' area ((k : Int) + 1)) (b := b') (by rw [hpl]; omega) hlo (by rw [hpl]; omega)
  have hget : ((D.brk left).put (placeR at' area ((k : Int) + 1)) b').2 = true → ((D.brk left).put (placeR at' area ((k : Int) + 1)) b').1.get (placeR at' area ((k : Int) + 1)) b'.length = b' := fun hy => by
    rcases Nat.eq_zero_or_pos b'.length with hz | hz
    · have : b' = [] := List.eq_nil_of_length_eq_zero hz
      subst this
      exact get_zero _ _
    · exact put_get hz (by omega) hy
  have hold : ∀ D' : Dk, Away D D' (at' + 2 + ((k : Int) + 1) % 2 * area) (at' + 2 + ((k : Int) + 1) % 2 * area + area) → readAll (D'.crash kp) at' area = lastOf k b := fun D' hA' => by
    obtain ⟨c1, c2⟩ := hA'.crash hlo kp
    exact turn_old h h2 h3 c1 c2
  unfold writeR
  generalize (D.brk left).put (placeR at' area ((k : Int) + 1)) b' = P1 at *
  obtain ⟨D1, o1⟩ := P1
  cases o1 with
  | false => exact .inr ⟨rfl, hold D1 hAP⟩
  | true =>
    have hg := hget rfl
    simp only [Bool.true_eq_false, if_false] at hg hAP ⊢
    cases hbr : D1.broken with
    | true =>
      rw [sync_not hbr]
      exact .inr ⟨rfl, hold D1 hAP⟩
    | false =>
      rw [sync_yes hbr]
      simp only [Bool.true_eq_false, if_false]
      -- B2: all of it sure, the new image in its place
      obtain ⟨B2, hB2⟩ : ∃ B2 : Dk, (⟨D1.now, D1.now, [], D1.left, D1.broken, D1.written⟩ : Dk) = B2 := ⟨_, rfl⟩
      rw [hB2]
      have b1 : B2.now.length = D.now.length := by rw [← hB2]; exact hAP.len
      have b2 : ∀ j, B2.read j = D1.read j := fun j => by rw [← hB2]; exact read_of_now rfl j
      have b3 : B2.sure = B2.now := by rw [← hB2]
      have b4 : B2.uns = [] := by rw [← hB2]
      have b5 : B2.get (placeR at' area ((k : Int) + 1)) b'.length = b' := by
        rw [get_congr (D := D1) (by rw [b1, hAP.len]) fun j _ _ => b2 j]
        exact hg
      have hB : Away B2 B2 (at' + ((k : Int) + 1) % 2) (at' + ((k : Int) + 1) % 2 + 1) := ⟨b3, fun x hx => (by rw [b4] at hx; cases hx), rfl, fun j _ => rfl⟩
      have hs0 : 0 ≤ at' + ((k : Int) + 1) % 2 := by omega
      have hB3 := hB.write (i := at' + ((k : Int) + 1) % 2) (bs := rootB ((k : Int) + 1) b'.length) (Int.le_refl _) (by omega) hs0
      -- what a crash leaves, where the root's sector is as it was
      have hstay : ∀ D' : Dk, D'.now.length = B2.now.length → (∀ j, D'.read j = B2.read j) → readAll D' at' area = lastOf k b := fun D' c1 c2 => by
        refine turn_old h h2 h3 (by rw [c1, b1]) fun j hj => ?_
        rw [c2, b2]
        exact hAP.now j hj
      have hnew : ∀ D' : Dk, D'.now.length = B2.now.length → (D'.read (at' + ((k : Int) + 1) % 2) = rootB ((k : Int) + 1) b'.length) → (∀ j, j < at' + ((k : Int) + 1) % 2 ∨ at' + ((k : Int) + 1) % 2 + 1 ≤ j → D'.read j = B2.read j) → readAll D' at' area = some ((k : Int) + 1, b') := fun D' c1 c2 c3 => by
        refine turn_new h h0 h1 h2 h3 hk hb (by rw [c1, b1]) c2 ?_ fun j hj hj2 => ?_
        · rw [get_congr (D := B2) c1 fun j j1 j2 => c3 j (.inr (by rw [hpl] at j1; rcases hp with ⟨p1, p2⟩ | ⟨p1, p2⟩ <;> rw [p2] at j1 ⊢ <;> omega))]
          exact b5
        · rw [c3 j (by omega), b2]
          exact hAP.now j hj2
      by_cases hw : (B2.write (at' + ((k : Int) + 1) % 2) (rootB ((k : Int) + 1) b'.length)).2 = true
      · have hrd := fun j => read_write hw j
        have hun : (B2.write (at' + ((k : Int) + 1) % 2) (rootB ((k : Int) + 1) b'.length)).1.uns = [((at' + ((k : Int) + 1) % 2).toNat, rootB ((k : Int) + 1) b'.length)] := by
          unfold Dk.write at hw ⊢
          split
          · rename_i hc
            rw [if_pos hc] at hw
            cases hw
          · simp only; rw [b4]; rfl
        have hln := write_len B2 (at' + ((k : Int) + 1) % 2) (rootB ((k : Int) + 1) b'.length)
        generalize B2.write (at' + ((k : Int) + 1) % 2) (rootB ((k : Int) + 1) b'.length) = P3 at *
        obtain ⟨D3, o3⟩ := P3
        simp only at hw hrd hun hln hB3 ⊢
        subst hw
        simp only [Bool.true_eq_false, if_false]
        cases hbr3 : D3.broken with
        | true =>
          rw [sync_not hbr3]
          obtain ⟨c1, c2⟩ := hB3.crash hs0 kp
          have c3 : (D3.crash kp).read (at' + ((k : Int) + 1) % 2) = rootB ((k : Int) + 1) b'.length ∨ (D3.crash kp).read (at' + ((k : Int) + 1) % 2) = B2.read (at' + ((k : Int) + 1) % 2) := by
            rw [read_get, if_neg (by omega), read_get, if_neg (by omega)]
            unfold Dk.crash
            simp only
            rw [hun]
            by_cases hkp : kp[0]? = some true
            · left
              rw [show ([((at' + ((k : Int) + 1) % 2).toNat, rootB ((k : Int) + 1) b'.length)] : List (Nat × List Int)).length = 0 + 1 from rfl, settleN_put (by simp) hkp]
              simp only [settleN, List.getElem_cons_zero]
              rw [List.getElem?_set_self (by rw [hB3.sure, b1, hL]; omega)]
              rfl
            · right
              rw [show ([((at' + ((k : Int) + 1) % 2).toNat, rootB ((k : Int) + 1) b'.length)] : List (Nat × List Int)).length = 0 + 1 from rfl, settleN_skip hkp]
              simp only [settleN]
              rw [hB3.sure]
          rcases c3 with c3 | c3
          · exact .inl (hnew _ c1 c3 c2)
          · refine .inr ⟨rfl, hstay _ c1 fun j => ?_⟩
            by_cases hj : j = at' + ((k : Int) + 1) % 2
            · rw [hj]; exact c3
            · exact c2 j (by omega)
        | false =>
          rw [sync_yes hbr3]
          left
          refine hnew _ ?_ ?_ fun j hj => ?_
          · unfold Dk.crash; simp only [settleN, List.length_nil]; exact hln
          · rw [read_of_now (D' := D3) (by unfold Dk.crash; simp only [settleN, List.length_nil]), hrd, if_pos rfl]
          · rw [read_of_now (D' := D3) (by unfold Dk.crash; simp only [settleN, List.length_nil]), hrd, if_neg (by omega)]
      · have hno : B2.write (at' + ((k : Int) + 1) % 2) (rootB ((k : Int) + 1) b'.length) = (B2, false) := by
          unfold Dk.write at hw ⊢
          split at hw
          · rename_i hc; rw [if_pos hc]
          · exact absurd rfl hw
        rw [hno]
        simp only [if_true]
        refine .inr ⟨trivial, hstay _ ?_ fun j => read_of_now ?_ j⟩
        · unfold Dk.crash; simp only; rw [settleN_len, b3]
        · unfold Dk.crash; simp only; rw [b4, b3]; rfl
end Go.Proofs.Ytbfcaapompkjhaa
