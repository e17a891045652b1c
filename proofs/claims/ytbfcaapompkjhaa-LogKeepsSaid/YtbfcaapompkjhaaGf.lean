/-
  roots: plain facts: what was written is read.
-/
import Derived.Test.YtbfcaapompkjhaaGe
set_option linter.unusedVariables false
namespace Go.Proofs.Ytbfcaapompkjhaa
open Go.RowKit Go.Proofs.PosteMem

theorem sync_free {D : Dk} (h : Free D) : D.sync = (⟨D.now, D.now, [], D.left, D.broken, D.written⟩, true) := by
  unfold Dk.sync
  rw [if_neg (by rw [h.broken]; decide)]
theorem free_sync {D : Dk} (h : Free D) : Free D.sync.1 := by
  have := sync_ok h.ok
  rw [sync_free h] at this ⊢
  exact ⟨this, h.broken, h.left⟩
theorem read_sync (D : Dk) (j : Int) : D.sync.1.read j = D.read j := by
  unfold Dk.sync
  split <;> rfl
theorem len_sync (D : Dk) : D.sync.1.now.length = D.now.length := by
  unfold Dk.sync
  split <;> rfl
theorem getN_congr {D D' : Dk} {at' : Int} : ∀ {k : Nat}, (∀ j : Int, at' ≤ j → j < at' + k → D'.read j = D.read j) → getN D' at' k = getN D at' k
  | 0, _ => rfl
  | k + 1, h => by
    unfold getN
    rw [getN_congr (k := k) fun j h1 h2 => h j h1 (by omega), h (at' + k) (by omega) (by omega)]
theorem get_congr {D D' : Dk} {at' n : Int} (hl : D'.now.length = D.now.length) (h : ∀ j : Int, at' ≤ j → j < at' + need (cutN n) → D'.read j = D.read j) : D'.get at' n = D.get at' n := by
  unfold Dk.get
  rw [hl, getN_congr h]
theorem get_zero (D : Dk) (at' : Int) : D.get at' 0 = [] := by
  unfold Dk.get
  split <;> rfl
theorem cutN_nat {n : Nat} (h : n ≤ 262144) : cutN n = n := by
  unfold cutN
  split
  · omega
  · split
    · omega
    · omega
theorem readR_congr {D D' : Dk} {at' area which : Int} (h2 : 1 ≤ area) (h3 : area ≤ 1000) (hl : D'.now.length = D.now.length) (hr : D'.read (at' + which) = D.read (at' + which))
    (h : ∀ j : Int, at' + 2 + which * area ≤ j → j < at' + 2 + which * area + area → D'.read j = D.read j) : readR D' at' area which = readR D at' area which := by
  unfold readR
  rw [hr, hl]
  by_cases hok : rootOk D.now.length at' area which (D.read (at' + which))
  · rw [if_pos hok, if_pos hok]
    obtain ⟨_, e2, e3, e4, _, _⟩ := hok
    obtain ⟨n, hn⟩ := Int.eq_ofNat_of_zero_le e3
    rw [hn] at e4 ⊢
    have hpl : placeR at' area (pe (D.read (at' + which))) = at' + 2 + which * area := by unfold placeR; rw [e2]
    rw [get_congr hl fun j j1 j2 => h j (by rw [← hpl]; exact j1) ?_]
    rw [hpl, show ((n : Nat) : Int) = Int.ofNat n from rfl] at j2
    rw [show Int.ofNat n = ((n : Nat) : Int) from rfl, cutN_nat (by omega)] at j2
    have : (need n : Int) ≤ area := by unfold need; omega
    omega
  · rw [if_neg hok, if_neg hok]

set_option maxHeartbeats 2000000 in
/-- A write of an image onto a disk that goes on. -/
theorem write_free {D : Dk} (h : Free D) {at' area e : Int} {b : List Int} (h0 : 0 ≤ at') (h1 : at' + 2 + 2 * area ≤ D.now.length) (h2 : 1 ≤ area) (h3 : area ≤ 1000) (he : 1 ≤ e) (he2 : e < 9223372036854775808) (hb : (b.length : Int) ≤ area * 64) :
    (writeR D at' area e b).2 = true ∧ Free (writeR D at' area e b).1 ∧ (writeR D at' area e b).1.now.length = D.now.length ∧ (writeR D at' area e b).1.uns = [] ∧ (writeR D at' area e b).1.sure = (writeR D at' area e b).1.now ∧
      readR (writeR D at' area e b).1 at' area (e % 2) = some (e, b) ∧ readR (writeR D at' area e b).1 at' area (1 - e % 2) = readR D at' area (1 - e % 2) := by
  have hp : e % 2 = 0 ∨ e % 2 = 1 := by omega
  have hpl : placeR at' area e = at' + 2 + e % 2 * area := rfl
  have hnb : (need b.length : Int) ≤ area := by unfold need; omega
  have hin : 0 ≤ placeR at' area e ∧ placeR at' area e + area ≤ D.now.length := by rw [hpl]; rcases hp with hp | hp <;> rw [hp] <;> omega
  obtain ⟨f1, f2, f3⟩ := free_put h hin.1 (b := b) (by omega)
  have hget : (D.put (placeR at' area e) b).1.get (placeR at' area e) b.length = b := by
    rcases Nat.eq_zero_or_pos b.length with hz | hz
    · have : b = [] := List.eq_nil_of_length_eq_zero hz
      subst this
      exact get_zero _ _
    · exact put_get hz (by omega) f1
  have hout := fun j hj => put_read (D := D) (at' := placeR at' area e) (b := b) f1 (j := j) hj
  unfold writeR
  generalize hD1 : (D.put (placeR at' area e) b) = P1 at *
  obtain ⟨D1, o1⟩ := P1
  simp only at f1 f2 f3 hget hout
  subst f1
  have g2 := free_sync f2
  have g3 : D1.sync.1.now.length = D.now.length := by rw [len_sync]; exact f3
  have g4 : D1.sync.2 = true := by rw [sync_free f2]
  have g5 := fun j => read_sync D1 j
  generalize D1.sync = P2 at *
  obtain ⟨D2, o2⟩ := P2
  simp only at g2 g3 g4 g5
  subst g4
  obtain ⟨r1, r2⟩ := free_write g2 (i := at' + e % 2) (bs := rootB e b.length) (by omega) (by rw [g3]; omega) (rootB_len _ _)
  have r3 := write_len D2 (at' + e % 2) (rootB e b.length)
  have r4 := fun j => read_write (D := D2) (i := at' + e % 2) (bs := rootB e b.length) r1 j
  generalize D2.write (at' + e % 2) (rootB e b.length) = P3 at *
  obtain ⟨D3, o3⟩ := P3
  simp only at r1 r2 r3 r4
  subst r1
  simp only [Bool.true_eq_false, if_false]
  have s1 := sync_free r2
  have s2 := free_sync r2
  have s3 := fun j => read_sync D3 j
  have s4 := len_sync D3
  have s5 : D3.sync.1.uns = [] ∧ D3.sync.1.sure = D3.sync.1.now ∧ D3.sync.2 = true := by rw [s1]; exact ⟨rfl, rfl, rfl⟩
  generalize D3.sync = P4 at *
  obtain ⟨D4, o4⟩ := P4
  simp only at s2 s3 s4 s5 ⊢
  have hlen : D4.now.length = D.now.length := by rw [s4, r3, g3]
  have hrd : ∀ j, D4.read j = if j = at' + e % 2 then rootB e b.length else D1.read j := fun j => by rw [s3, r4, g5]
  refine ⟨s5.2.2, s2, hlen, s5.1, s5.2.1, ?_, ?_⟩
  · obtain ⟨b1, b2⟩ := root_back e b.length ⟨by omega, he2⟩ ⟨by omega, by omega⟩
    have hroot : D4.read (at' + e % 2) = rootB e b.length := by rw [hrd, if_pos rfl]
    have hg4 : D4.get (placeR at' area e) b.length = b := by
      have hc : D4.get (placeR at' area e) b.length = D1.get (placeR at' area e) b.length := by
        refine get_congr (by rw [hlen, f3]) fun j j1 j2 => ?_
        rw [hrd, if_neg (by rw [hpl] at j1; rcases hp with hp | hp <;> rw [hp] at j1 ⊢ <;> omega)]
      rw [hc, hget]
    have hok : rootOk D4.now.length at' area (e % 2) (rootB e b.length) := by
      unfold rootOk
      rw [b1, b2, needI_nat, hlen]
      clear b1 b2 hrd hroot hg4 hget hout r4 g5 s3
      refine ⟨he, rfl, Int.natCast_nonneg _, hb, rfl, ?_⟩
      unfold isB
      rw [decide_eq_true_eq]
      omega
    unfold readR
    rw [hroot, if_pos hok, b1, b2, hg4]
  · refine readR_congr h2 h3 hlen ?_ fun j j1 j2 => ?_
    · rw [hrd, if_neg (by omega)]
      exact hout _ (.inl (by rw [hpl]; rcases hp with hp | hp <;> rw [hp] <;> omega))
    · rw [hrd, if_neg (by rcases hp with hp | hp <;> rw [hp] at j1 ⊢ <;> omega)]
      exact hout _ (by rw [hpl]; rcases hp with hp | hp <;> rw [hp] at j1 j2 ⊢ <;> omega)

theorem best_of {D : Dk} {at' area n : Int} {b : List Int} (hn : 1 ≤ n) (h : readR D at' area (n % 2) = some (n, b)) (ho : ∀ e b', readR D at' area (1 - n % 2) = some (e, b') → e < n) : readAll D at' area = some (n, b) := by
  have hp : n % 2 = 0 ∨ n % 2 = 1 := by omega
  unfold readAll best
  rcases hp with hp | hp
  · rw [hp] at h ho
    simp only [Int.sub_zero] at ho
    rw [h]
    cases h1 : readR D at' area 1 with
    | none => simp
    | some x =>
      have := ho x.1 x.2 h1
      rw [if_neg]
      rintro ⟨_, h2⟩
      simp only [ep, Option.getD_some] at h2
      omega
  · rw [hp] at h ho
    rw [show (1 : Int) - 1 = 0 by decide] at ho
    rw [h]
    rw [if_pos]
    refine ⟨rfl, ?_⟩
    cases h0 : readR D at' area 0 with
    | none => simp only [ep, Option.getD_none, Option.getD_some]; omega
    | some x => have := ho x.1 x.2 h0; simpa only [ep, Option.getD_some] using this
theorem new_read (K : Nat) (j : Int) : (Dk.new K).read j = z64 ∨ (Dk.new K).read j = [] := by
  unfold Dk.read
  split
  · left; simp [Dk.new]
  · right; rfl
theorem readR_new (K : Nat) (at' area which : Int) : readR (Dk.new K) at' area which = none := by
  unfold readR
  rw [if_neg]
  rintro ⟨_, _, _, _, h, _⟩
  have h1 : (rootB (pe ((Dk.new K).read (at' + which))) (ps ((Dk.new K).read (at' + which)))).getD 0 0 = 4 := by
    obtain ⟨z, hz⟩ := root_split (pe ((Dk.new K).read (at' + which))) (ps ((Dk.new K).read (at' + which)))
    rw [hz]
    rfl
  rw [← h] at h1
  rcases new_read K (at' + which) with h2 | h2 <;> rw [h2] at h1 <;> revert h1 <;> decide
end Go.Proofs.Ytbfcaapompkjhaa
