/-
  The reference's disk as a caller holds it; both disks at once; what Put and Get do on each, plainly.
-/
import Derived.Test.YtbfcaapompkjhaaFd
import Derived.Test.YtbfcaapompkjhaaEf
set_option linter.unusedVariables false
set_option linter.unusedSimpArgs false
namespace Go.Proofs.Ytbfcaapompkjhaa
open Go.RowKit Go.Proofs.PosteMem

def Hr (w W : World) (p : Nat) (D : Rk) (C : Nat → Prop) : Prop := ∃ F : Nat → Prop, RefAt W F p D ∧ (∀ b, F b → w.heap.size ≤ b ∧ b < W.heap.size ∧ ¬ C b) ∧ (∀ b, C b → b < W.heap.size) ∧ Below w.heap.size w W
section
variable {w W W' : World} {p : Nat} {D : Rk} {C : Nat → Prop}
theorem Hr.acc (h : Hr w W p D C) : Below w.heap.size w W := let ⟨_, _, _, _, h4⟩ := h; h4
theorem Hr.below (h : Hr w W p D C) (k : Below W.heap.size W W') : Hr w W' p D C := by
  obtain ⟨F, h1, h2, h3, h4⟩ := h
  have := k.size
  exact ⟨F, h1.below k, fun b hb => ⟨(h2 b hb).1, by have := (h2 b hb).2.1; omega, (h2 b hb).2.2⟩, fun b hb => by have := h3 b hb; omega, below_then h4 k⟩
theorem Hr.mono {C' : Nat → Prop} (h : Hr w W p D C) (hC : ∀ b, C' b → C b) : Hr w W p D C' := by
  obtain ⟨F, h1, h2, h3, h4⟩ := h
  exact ⟨F, h1, fun b hb => ⟨(h2 b hb).1, (h2 b hb).2.1, fun c => (h2 b hb).2.2 (hC b c)⟩, fun b hb => h3 b (hC b hb), h4⟩
theorem Hr.client (h : Hr w W p D C) (k : Below W.heap.size W W') : Hr w W' p D (fun b => C b ∨ (W.heap.size ≤ b ∧ b < W'.heap.size)) := by
  obtain ⟨F, h1, h2, h3, h4⟩ := h
  have := k.size
  refine ⟨F, h1.below k, fun b hb => ⟨(h2 b hb).1, by have := (h2 b hb).2.1; omega, fun c => ?_⟩, fun b hb => ?_, below_then h4 k⟩
  · rcases c with c | c
    · exact (h2 b hb).2.2 c
    · have := (h2 b hb).2.1; omega
  · rcases hb with hb | hb
    · have := h3 b hb; omega
    · exact hb.2
theorem Hr.store (h : Hr w W p D C) {a : Addr} (ha : C a.block) (hw : w.heap.size ≤ a.block) (u : Value) : Hr w (W.setCell a u) p D C := by
  obtain ⟨F, h1, h2, h3, h4⟩ := h
  exact ⟨F, h1.upd (S := C) ((Upd.refl _ _).setCell (.inr ha) u) (fun b hb c => (h2 b hb).2.2 c), fun b hb => ⟨(h2 b hb).1, by simpa [World.setCell] using (h2 b hb).2.1, (h2 b hb).2.2⟩, fun b hb => by simpa [World.setCell] using h3 b hb, h4.setCell hw u⟩
theorem hr_post {F : Nat → Prop} {D' : Rk} (h2 : ∀ b, F b → w.heap.size ≤ b ∧ b < W.heap.size ∧ ¬ C b) (h3 : ∀ b, C b → b < W.heap.size) (h4 : Below w.heap.size w W) (h : RPost W F p D' W') : Hr w W' p D' C ∧ Keeps C W W' := by
  have hs := h.2.size
  have hs0 := h4.size
  refine ⟨⟨_, h.1, fun b hb => ⟨?_, hb.2, fun c => ?_⟩, fun b hb => by have := h3 b hb; omega, h4.trans (h.2.below h4.size fun b hb => (h2 b hb).1)⟩, ⟨F, h.2, fun b c f => (h2 b f).2.2 c⟩⟩
  · rcases hb.1 with hb | hb
    · exact (h2 b hb).1
    · omega
  · rcases hb.1 with hb | hb
    · exact (h2 b hb).2.2 c
    · have := h3 b c; omega
theorem hr_len (h : Hr w W p D C) : Calls Try.prog 30 #[.pointer (some ⟨p, 0, none⟩)] W fun e w' => e = .returned (.int .i64 D.sure.length) ∧ w' = W := let ⟨F, h1, _⟩ := h; rlen_any W F p D h1
theorem hr_read (h : Hr w W p D C) (hk : D.ok) (hu : D.uns.length ≤ 1000000) (i : Int) : Calls Try.prog 31 #[.pointer (some ⟨p, 0, none⟩), .int .i64 i] W fun e w' => ∃ v, e = .returned v ∧ OB w' W.heap.size v (D.read i) ∧ Below W.heap.size W w' := let ⟨F, h1, _⟩ := h; rread_any W F p D i h1 hk hu
theorem hr_write (h : Hr w W p D C) (hk : D.ok) (i : Int) {v : Value} {bs : List Int} (hv : VB W v bs) (hw : D.count ≤ 1000000000000) (hu : D.uns.length ≤ 1000000) :
    Calls Try.prog 23 #[.pointer (some ⟨p, 0, none⟩), .int .i64 i, v] W fun e w' => e = .returned (.bool (D.write i bs).2) ∧ Hr w w' p (D.write i bs).1 C ∧ Keeps C W w' := by
  obtain ⟨F, h1, h2, h3, h4⟩ := h
  exact (rwrite_any W F p D i v bs h1 hk hv hw hu).mono fun e w' h => ⟨h.1, hr_post h2 h3 h4 h.2⟩
end

/-! ### both at once -/
def Duo (w W : World) (p1 p3 : Nat) (D : Dk) (R : Rk) (C : Nat → Prop) : Prop := ∃ F1 F3 : Nat → Prop, DiskAt W F1 p1 D ∧ RefAt W F3 p3 R ∧ (∀ b, F1 b → w.heap.size ≤ b ∧ b < W.heap.size ∧ ¬ F3 b ∧ ¬ C b) ∧ (∀ b, F3 b → w.heap.size ≤ b ∧ b < W.heap.size ∧ ¬ C b) ∧ (∀ b, C b → b < W.heap.size) ∧ Below w.heap.size w W
section
variable {w W W' : World} {p1 p3 : Nat} {D D' : Dk} {R R' : Rk} {C C' : Nat → Prop}
theorem Duo.acc (h : Duo w W p1 p3 D R C) : Below w.heap.size w W := let ⟨_, _, _, _, _, _, _, h⟩ := h; h
theorem Duo.below (h : Duo w W p1 p3 D R C) (k : Below W.heap.size W W') : Duo w W' p1 p3 D R C := by
  obtain ⟨F1, F3, h1, h3, a1, a3, a4, acc⟩ := h
  have := k.size
  exact ⟨F1, F3, h1.below k, h3.below k, fun b hb => ⟨(a1 b hb).1, by have := (a1 b hb).2.1; omega, (a1 b hb).2.2⟩, fun b hb => ⟨(a3 b hb).1, by have := (a3 b hb).2.1; omega, (a3 b hb).2.2⟩, fun b hb => by have := a4 b hb; omega, below_then acc k⟩
theorem Duo.mono (h : Duo w W p1 p3 D R C) (hC : ∀ b, C' b → C b) : Duo w W p1 p3 D R C' := by
  obtain ⟨F1, F3, h1, h3, a1, a3, a4, acc⟩ := h
  exact ⟨F1, F3, h1, h3, fun b hb => ⟨(a1 b hb).1, (a1 b hb).2.1, (a1 b hb).2.2.1, fun c => (a1 b hb).2.2.2 (hC b c)⟩, fun b hb => ⟨(a3 b hb).1, (a3 b hb).2.1, fun c => (a3 b hb).2.2 (hC b c)⟩, fun b hb => a4 b (hC b hb), acc⟩
theorem Duo.client (h : Duo w W p1 p3 D R C) (k : Below W.heap.size W W') : Duo w W' p1 p3 D R (fun b => C b ∨ (W.heap.size ≤ b ∧ b < W'.heap.size)) := by
  obtain ⟨F1, F3, h1, h3, a1, a3, a4, acc⟩ := h
  have := k.size
  refine ⟨F1, F3, h1.below k, h3.below k, fun b hb => ?_, fun b hb => ?_, fun b hb => ?_, below_then acc k⟩
  · obtain ⟨x1, x2, x3, x4⟩ := a1 b hb
    exact ⟨x1, by omega, x3, fun c => by rcases c with c | c; exact x4 c; omega⟩
  · obtain ⟨x1, x2, x4⟩ := a3 b hb
    exact ⟨x1, by omega, fun c => by rcases c with c | c; exact x4 c; omega⟩
  · rcases hb with hb | hb
    · have := a4 b hb; omega
    · exact hb.2
/-- A call on the disk alone. -/
theorem Duo.left (h : Duo w W p1 p3 D R C) : ∃ C', Hd w W p1 D C' ∧ (∀ b, C b → C' b) ∧ ∀ (W' : World) (D' : Dk), Hd w W' p1 D' C' → Keeps C' W W' → Duo w W' p1 p3 D' R C ∧ Keeps C W W' := by
  obtain ⟨F1, F3, h1, h3, a1, a3, a4, acc⟩ := h
  refine ⟨fun b => C b ∨ F3 b, ⟨F1, h1, fun b hb => ⟨(a1 b hb).1, (a1 b hb).2.1, fun c => ?_⟩, fun b hb => ?_, acc⟩, fun b c => .inl c, fun W' D' hd kp => ?_⟩
  · rcases c with c | c
    · exact (a1 b hb).2.2.2 c
    · exact (a1 b hb).2.2.1 c
  · rcases hb with c | c
    · exact a4 b c
    · exact (a3 b c).2.1
  · obtain ⟨F1', d1, d2, d3, d4⟩ := hd
    have hs := kp.size
    obtain ⟨S, k1, k2⟩ := kp
    refine ⟨⟨F1', F3, d1, h3.upd k1 (fun b f => k2 b (.inr f)), fun b hb => ⟨(d2 b hb).1, (d2 b hb).2.1, fun f => (d2 b hb).2.2 (.inr f), fun c => (d2 b hb).2.2 (.inl c)⟩, fun b hb => ⟨(a3 b hb).1, by have := (a3 b hb).2.1; omega, (a3 b hb).2.2⟩, fun b c => d3 b (.inl c), d4⟩, ⟨S, k1, fun b c => k2 b (.inl c)⟩⟩
theorem Duo.right (h : Duo w W p1 p3 D R C) : ∃ C', Hr w W p3 R C' ∧ (∀ b, C b → C' b) ∧ ∀ (W' : World) (R' : Rk), Hr w W' p3 R' C' → Keeps C' W W' → Duo w W' p1 p3 D R' C ∧ Keeps C W W' := by
  obtain ⟨F1, F3, h1, h3, a1, a3, a4, acc⟩ := h
  refine ⟨fun b => C b ∨ F1 b, ⟨F3, h3, fun b hb => ⟨(a3 b hb).1, (a3 b hb).2.1, fun c => ?_⟩, fun b hb => ?_, acc⟩, fun b c => .inl c, fun W' R' hd kp => ?_⟩
  · rcases c with c | c
    · exact (a3 b hb).2.2 c
    · exact (a1 b c).2.2.1 hb
  · rcases hb with c | c
    · exact a4 b c
    · exact (a1 b c).2.1
  · obtain ⟨F3', d1, d2, d3, d4⟩ := hd
    have hs := kp.size
    obtain ⟨S, k1, k2⟩ := kp
    refine ⟨⟨F1, F3', h1.upd k1 (fun b f => k2 b (.inr f)), d1, fun b hb => ⟨(a1 b hb).1, by have := (a1 b hb).2.1; omega, fun f => (d2 b f).2.2 (.inr hb), (a1 b hb).2.2.2⟩, fun b hb => ⟨(d2 b hb).1, (d2 b hb).2.1, fun c => (d2 b hb).2.2 (.inl c)⟩, fun b c => d3 b (.inl c), d4⟩, ⟨S, k1, fun b c => k2 b (.inl c)⟩⟩
theorem Duo.count (h : Duo w W p1 p3 D R C) : W.cell? ⟨p3, 4, none⟩ = some (.int .i64 R.count) := by
  obtain ⟨_, F3, _, h3, _⟩ := h
  obtain ⟨vs, vu, hb⟩ := h3.box
  exact hb.cell 4
end

/-! ### Put and Get of the reference, plainly -/
def rputN (D : Rk) (at' : Int) (b : List Int) : Nat → Rk × Bool
  | 0 => (D, true)
  | k + 1 => if (rputN D at' b k).2 = true then (rputN D at' b k).1.write (at' + k) (chunk b k) else rputN D at' b k
def Rk.put (D : Rk) (at' : Int) (b : List Int) : Rk × Bool := if need b.length = 0 then (D, true) else if at' < 0 ∨ (D.sure.length : Int) - need b.length < at' then (D, false) else rputN D at' b (need b.length)
theorem rputN_stay {D : Rk} {at' : Int} {b : List Int} {k : Nat} (h : (rputN D at' b k).2 = false) : ∀ m, k ≤ m → rputN D at' b m = rputN D at' b k
  | m, hm => by
    induction m with
    | zero => have : k = 0 := by omega
              subst this; rfl
    | succ m ih =>
      rcases Nat.lt_or_ge k (m + 1) with h1 | h1
      · have e := ih (by omega)
        rw [rputN, e, if_neg (by rw [h]; decide)]
      · have : k = m + 1 := by omega
        subst this; rfl
theorem rwrite_few (D : Rk) (i : Int) (bs : List Int) : (D.write i bs).1.count ≤ D.count + 1 ∧ (D.write i bs).1.uns.length ≤ D.uns.length + 1 ∧ (D.write i bs).1.sure.length = D.sure.length := by
  unfold Rk.write; split <;> simp
theorem rputN_ok {D : Rk} (h : D.ok) (at' : Int) (b : List Int) : ∀ k, (rputN D at' b k).1.ok ∧ (rputN D at' b k).1.sure.length = D.sure.length ∧ (rputN D at' b k).1.count ≤ D.count + k ∧ (rputN D at' b k).1.uns.length ≤ D.uns.length + k
  | 0 => ⟨h, rfl, Nat.le_refl _, Nat.le_refl _⟩
  | k + 1 => by
    obtain ⟨h1, h2, h3, h4⟩ := rputN_ok h at' b k
    unfold rputN
    split
    · have h5 := rwrite_few (rputN D at' b k).1 (at' + k) (chunk b k)
      exact ⟨rwrite_ok h1 _ _, by rw [h5.2.2]; exact h2, by omega, by omega⟩
    · exact ⟨h1, h2, by omega, by omega⟩
theorem rel_putN {m : Nat} {D : Dk} {R : Rk} (h : Rel m D R) (ok : R.ok) {at' : Int} {b : List Int} : ∀ k, m + k ≤ 1000 → (putN D at' b k).2 = (rputN R at' b k).2 ∧ Rel (m + k) (putN D at' b k).1 (rputN R at' b k).1
  | 0, _ => ⟨rfl, h⟩
  | k + 1, hk => by
    obtain ⟨h1, h2⟩ := rel_putN h ok (at' := at') (b := b) k (by omega)
    have hok := (rputN_ok ok at' b k).1
    unfold putN rputN
    by_cases e : (putN D at' b k).2 = true
    · rw [if_pos e, if_pos (h1 ▸ e)]
      exact rel_write h2 hok (by omega) _ _
    · rw [if_neg e, if_neg (h1 ▸ e)]
      exact ⟨h1, h2.weak⟩
theorem Rel.mono {m k : Nat} {D : Dk} {R : Rk} (h : Rel m D R) : ∀ j, k = m + j → Rel k D R
  | 0, e => by subst e; exact h
  | j + 1, e => by subst e; exact (Rel.mono h j rfl).weak
theorem rel_put {m : Nat} {D : Dk} {R : Rk} (h : Rel m D R) (ok : R.ok) {at' : Int} {b : List Int} (hb : b.length ≤ 2000) (hm : m ≤ 100) : (D.put at' b).2 = (R.put at' b).2 ∧ Rel (m + 40) (D.put at' b).1 (R.put at' b).1 := by
  have hn : need b.length ≤ 32 := by unfold need; omega
  have hl : R.sure.length = D.now.length := by rw [h.sure, h.len]
  unfold Dk.put Rk.put
  by_cases h0 : b.length = 0
  · rw [if_pos h0, if_pos (by unfold need; omega)]
    exact ⟨rfl, h.mono 40 rfl⟩
  · have hn0 : ¬ need b.length = 0 := by unfold need; omega
    rw [if_neg h0, if_neg hn0]
    by_cases hI : isB D.now.length at' (need b.length : Nat) = true
    · have hI' : ¬ (at' < 0 ∨ (R.sure.length : Int) - need b.length < at') := by unfold isB at hI; rw [decide_eq_true_eq] at hI; rw [hl]; omega
      rw [if_pos hI, if_neg hI']
      obtain ⟨h1, h2⟩ := rel_putN h ok (at' := at') (b := b) (need b.length) (by omega)
      exact ⟨h1, h2.mono (40 - need b.length) (by omega)⟩
    · have hI' : at' < 0 ∨ (R.sure.length : Int) - need b.length < at' := by unfold isB at hI; rw [decide_eq_true_eq] at hI; rw [hl]; omega
      rw [if_neg hI, if_pos hI']
      exact ⟨rfl, h.mono 40 rfl⟩
def rgetN (D : Rk) (at' : Int) : Nat → List Int
  | 0 => []
  | k + 1 => rgetN D at' k ++ D.read (at' + k)
def Rk.get (D : Rk) (at' n : Int) : List Int := if need (cutN n) = 0 ∨ at' < 0 ∨ (D.sure.length : Int) - need (cutN n) < at' then [] else (rgetN D at' (need (cutN n))).take (cutN n)
theorem rel_getN {m : Nat} {D : Dk} {R : Rk} (h : Rel m D R) (at' : Int) : ∀ k, getN D at' k = rgetN R at' k
  | 0 => rfl
  | k + 1 => by rw [getN, rgetN, rel_getN h at' k, rel_read h]
theorem rel_get {m : Nat} {D : Dk} {R : Rk} (h : Rel m D R) (at' n : Int) : D.get at' n = R.get at' n := by
  have hl : R.sure.length = D.now.length := by rw [h.sure, h.len]
  unfold Dk.get Rk.get
  rw [hl, rel_getN h]
  by_cases h0 : need (cutN n) = 0
  · have hc : cutN n = 0 := by unfold need at h0; omega
    rw [if_pos (show need (cutN n) = 0 ∨ _ from .inl h0), hc]
    split <;> simp
  · by_cases hI : isB D.now.length at' (need (cutN n) : Nat) = true
    · have hI' : ¬ (need (cutN n) = 0 ∨ at' < 0 ∨ (D.now.length : Int) - need (cutN n) < at') := by unfold isB at hI; rw [decide_eq_true_eq] at hI; omega
      rw [if_pos hI, if_neg hI']
    · have hI' : need (cutN n) = 0 ∨ at' < 0 ∨ (D.now.length : Int) - need (cutN n) < at' := by unfold isB at hI; rw [decide_eq_true_eq] at hI; omega
      rw [if_neg hI, if_pos hI']
end Go.Proofs.Ytbfcaapompkjhaa
