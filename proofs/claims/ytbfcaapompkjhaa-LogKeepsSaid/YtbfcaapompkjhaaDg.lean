/-
  A disk as a caller holds it: each call's contract beside the caller's own blocks; postelaw3.alive.
-/
import Derived.Test.YtbfcaapompkjhaaDd
import Derived.Test.YtbfcaapompkjhaaDe
import Derived.Test.YtbfcaapompkjhaaDf
set_option linter.unusedVariables false
set_option linter.unusedSimpArgs false
namespace Go.Proofs.Ytbfcaapompkjhaa
open Go.RowKit Go.Proofs.PosteMem
attribute [local go_sem ↓] Go.wp_at_zero Go.wp_at_succ

theorem write_ok {D : Dk} (h : D.ok) (i : Int) (bs : List Int) : (D.write i bs).1.ok := by
  unfold Dk.write
  split
  · exact h
  · rename_i hn
    simp only [not_or] at hn
    obtain ⟨h1, h2, h3, h4⟩ := hn
    have h3' : bs.length = 64 := by omega
    have hl := h.len
    have hlo := h.low
    have hhi := h.high
    refine ⟨by simp [h.len], by simpa using h.max, fun x hx => ?_, ?_, ?_, fun b hb => ?_, h.sbytes, fun x hx => ?_⟩
    · rcases List.mem_append.1 hx with hx | hx
      · exact h.uns x hx
      · obtain rfl := List.mem_singleton.1 hx
        show i.toNat < D.sure.length
        omega
    · simp only; split <;> omega
    · simp only; split <;> omega
    · rcases List.mem_or_eq_of_mem_set hb with hb | rfl
      · exact h.bytes b hb
      · exact h3'
    · rcases List.mem_append.1 hx with hx | hx
      · exact h.ubytes x hx
      · obtain rfl := List.mem_singleton.1 hx
        exact h3'
theorem sync_ok {D : Dk} (h : D.ok) : D.sync.1.ok := by
  unfold Dk.sync
  split
  · exact h
  · exact ⟨rfl, h.max, (fun x hx => by cases hx), h.low, h.high, h.bytes, h.bytes, (fun x hx => by cases hx)⟩
theorem brk_ok {D : Dk} (h : D.ok) {n : Int} (hn : n < 9223372036854775808) : (D.brk n).ok := by
  unfold Dk.brk
  split
  · exact h
  · exact ⟨h.len, h.max, h.uns, by simp only; split <;> omega, by simp only; split <;> omega, h.bytes, h.sbytes, h.ubytes⟩
theorem settleN_bytes {kp : List Bool} {U : List (Nat × List Int)} {S : List (List Int)} (hS : ∀ b ∈ S, b.length = 64) (hU : ∀ x ∈ U, x.2.length = 64) : ∀ i, i ≤ U.length → ∀ b ∈ settleN kp U S i, b.length = 64
  | 0, _, b, hb => hS b hb
  | i + 1, hi, b, hb => by
    by_cases hk : kp[i]? = some true
    · rw [settleN_put (by omega) hk] at hb
      rcases List.mem_or_eq_of_mem_set hb with hb | rfl
      · exact settleN_bytes hS hU i (by omega) b hb
      · exact hU _ (List.getElem_mem _)
    · rw [settleN_skip hk] at hb
      exact settleN_bytes hS hU i (by omega) b hb
theorem crash_ok {D : Dk} (h : D.ok) (kp : List Bool) : (D.crash kp).ok := by
  unfold Dk.crash
  have hb := settleN_bytes (kp := kp) h.sbytes h.ubytes D.uns.length (Nat.le_refl _)
  have hm := h.max
  have hl := h.len
  exact ⟨rfl, by simp only [settleN_len]; omega, (fun x hx => by cases hx), by simp, by simp, hb, hb, (fun x hx => by cases hx)⟩

/-- A disk that the call w -> W made, beside the blocks C of the caller's own. -/
def Hd (w W : World) (p : Nat) (D : Dk) (C : Nat → Prop) : Prop := ∃ F : Nat → Prop, DiskAt W F p D ∧ (∀ b, F b → w.heap.size ≤ b ∧ b < W.heap.size ∧ ¬ C b) ∧ (∀ b, C b → b < W.heap.size) ∧ Below w.heap.size w W
/-- The caller's own blocks are kept. -/
def Keeps (C : Nat → Prop) (W W' : World) : Prop := ∃ S : Nat → Prop, Upd S W W' ∧ ∀ b, C b → ¬ S b
section
variable {w W W' : World} {p : Nat} {D : Dk} {C : Nat → Prop}
theorem Hd.acc (h : Hd w W p D C) : Below w.heap.size w W := let ⟨_, _, _, _, h4⟩ := h; h4
theorem Hd.below (h : Hd w W p D C) (k : Below W.heap.size W W') : Hd w W' p D C := by
  obtain ⟨F, h1, h2, h3, h4⟩ := h
  have := k.size
  exact ⟨F, h1.below k, fun b hb => ⟨(h2 b hb).1, by have := (h2 b hb).2.1; omega, (h2 b hb).2.2⟩, fun b hb => by have := h3 b hb; omega, below_then h4 k⟩
theorem Hd.mono {C' : Nat → Prop} (h : Hd w W p D C) (hC : ∀ b, C' b → C b) : Hd w W p D C' := by
  obtain ⟨F, h1, h2, h3, h4⟩ := h
  exact ⟨F, h1, fun b hb => ⟨(h2 b hb).1, (h2 b hb).2.1, fun c => (h2 b hb).2.2 (hC b c)⟩, fun b hb => h3 b (hC b hb), h4⟩
/-- What is made beside it is the caller's own. -/
theorem Hd.client (h : Hd w W p D C) (k : Below W.heap.size W W') : Hd w W' p D (fun b => C b ∨ (W.heap.size ≤ b ∧ b < W'.heap.size)) := by
  obtain ⟨F, h1, h2, h3, h4⟩ := h
  have := k.size
  refine ⟨F, h1.below k, fun b hb => ⟨(h2 b hb).1, by have := (h2 b hb).2.1; omega, fun c => ?_⟩, fun b hb => ?_, below_then h4 k⟩
  · rcases c with c | c
    · exact (h2 b hb).2.2 c
    · have := (h2 b hb).2.1; omega
  · rcases hb with hb | hb
    · have := h3 b hb; omega
    · exact hb.2
/-- A store of the caller's own. -/
theorem Hd.store (h : Hd w W p D C) {a : Addr} (ha : C a.block) (hw : w.heap.size ≤ a.block) (u : Value) : Hd w (W.setCell a u) p D C := by
  obtain ⟨F, h1, h2, h3, h4⟩ := h
  exact ⟨F, h1.upd (S := C) ((Upd.refl _ _).setCell (.inr ha) u) (fun b hb c => (h2 b hb).2.2 c), fun b hb => ⟨(h2 b hb).1, by simpa [World.setCell] using (h2 b hb).2.1, (h2 b hb).2.2⟩, fun b hb => by simpa [World.setCell] using h3 b hb, h4.setCell hw u⟩
theorem Hd.drew (h : Hd w W p D C) : Hd w W.drew p D C := h.below (Below.drew (Below.refl _ _))
theorem Keeps.refl (C : Nat → Prop) (W : World) : Keeps C W W := ⟨fun _ => False, Upd.refl _ _, fun _ _ t => t⟩
theorem Keeps.of_below (k : Below W.heap.size W W') : Keeps C W W' := ⟨fun _ => False, Upd.of_below k, fun _ _ t => t⟩
theorem Keeps.view {sz n : Nat} {v : Value} {xs : List Value} (k : Keeps C W W') (h : View W sz v n xs) (hv : ∀ b, blockOf v = some b → C b) : View W' sz v n xs := by
  obtain ⟨S, h1, h2⟩ := k
  exact View.upd h h1 fun b e => h2 b (hv b e)
theorem Keeps.own {B e sz n : Nat} {v : Value} {xs : List Value} (k : Keeps C W W') (h : W.ownsRow B e sz v n xs) (hv : ∀ b, v.ownBlock = some b → C b) : W'.ownsRow B e sz v n xs := by
  obtain ⟨S, h1, h2⟩ := k
  exact own_upd h h1 fun b e => h2 b (hv b e)
theorem Keeps.size (k : Keeps C W W') : W.heap.size ≤ W'.heap.size := let ⟨_, h, _⟩ := k; h.size
theorem hd_post {F : Nat → Prop} {D' : Dk} (h2 : ∀ b, F b → w.heap.size ≤ b ∧ b < W.heap.size ∧ ¬ C b) (h3 : ∀ b, C b → b < W.heap.size) (h4 : Below w.heap.size w W) (h : Post W F p D' W') : Hd w W' p D' C ∧ Keeps C W W' := by
  have hs := h.2.size
  have hs0 := h4.size
  refine ⟨⟨_, h.1, fun b hb => ⟨?_, hb.2, fun c => ?_⟩, fun b hb => by have := h3 b hb; omega, h4.trans (h.2.below h4.size fun b hb => (h2 b hb).1)⟩, ⟨F, h.2, fun b c f => (h2 b f).2.2 c⟩⟩
  · rcases hb.1 with hb | hb
    · exact (h2 b hb).1
    · omega
  · rcases hb.1 with hb | hb
    · exact (h2 b hb).2.2 c
    · have := h3 b c; omega
theorem hd_len (h : Hd w W p D C) : Calls Try.prog 29 #[.pointer (some ⟨p, 0, none⟩)] W fun e w' => e = .returned (.int .i64 D.now.length) ∧ w' = W := let ⟨F, h1, _⟩ := h; len_any W F p D h1
theorem hd_writes (h : Hd w W p D C) : Calls Try.prog 28 #[.pointer (some ⟨p, 0, none⟩)] W fun e w' => e = .returned (.int .i64 D.written) ∧ w' = W := let ⟨F, h1, _⟩ := h; writes_any W F p D h1
theorem hd_read (h : Hd w W p D C) (hk : D.ok) (i : Int) : Calls Try.prog 21 #[.pointer (some ⟨p, 0, none⟩), .int .i64 i] W fun e w' => ∃ v, e = .returned v ∧ OB w' W.heap.size v (D.read i) ∧ Below W.heap.size W w' := let ⟨F, h1, _⟩ := h; read_any W F p D i h1 hk
theorem hd_write (h : Hd w W p D C) (hk : D.ok) (i : Int) {v : Value} {bs : List Int} (hv : VB W v bs) (hC : ∀ b, blockOf v = some b → C b) (hw : D.written ≤ 1000000000000) (hu : D.uns.length ≤ 1000000) :
    Calls Try.prog 17 #[.pointer (some ⟨p, 0, none⟩), .int .i64 i, v] W fun e w' => e = .returned (.bool (D.write i bs).2) ∧ Hd w w' p (D.write i bs).1 C ∧ Keeps C W w' := by
  obtain ⟨F, h1, h2, h3, h4⟩ := h
  exact (write_any W F p D i v bs h1 hk hv (fun b e f => (h2 b f).2.2 (hC b e)) hw hu).mono fun e w' h => ⟨h.1, hd_post h2 h3 h4 h.2⟩
theorem hd_sync (h : Hd w W p D C) (hk : D.ok) : Calls Try.prog 19 #[.pointer (some ⟨p, 0, none⟩)] W fun e w' => e = .returned (.bool D.sync.2) ∧ Hd w w' p D.sync.1 C ∧ Keeps C W w' := by
  obtain ⟨F, h1, h2, h3, h4⟩ := h
  exact (sync_any W F p D h1 hk).mono fun e w' h => ⟨h.1, hd_post h2 h3 h4 h.2⟩
theorem hd_break (h : Hd w W p D C) (n : Int) : Calls Try.prog 26 #[.pointer (some ⟨p, 0, none⟩), .int .i64 n] W fun e w' => e = .returned (.tuple #[]) ∧ Hd w w' p (D.brk n) C ∧ Keeps C W w' := by
  obtain ⟨F, h1, h2, h3, h4⟩ := h
  exact (break_any W F p D n h1).mono fun e w' h => ⟨h.1, hd_post h2 h3 h4 h.2⟩
theorem hd_crash (h : Hd w W p D C) (hk : D.ok) {v : Value} {kp : List Bool} (hv : VBool W v kp) (hC : kp ≠ [] → ∀ b, blockOf v = some b → C b ∨ b < w.heap.size) (hkl : kp.length ≤ 1000000) (hu : D.uns.length ≤ 1000000) :
    Calls Try.prog 20 #[.pointer (some ⟨p, 0, none⟩), v] W fun e w' => e = .returned (.tuple #[]) ∧ Hd w w' p (D.crash kp) C ∧ Keeps C W w' := by
  obtain ⟨F, h1, h2, h3, h4⟩ := h
  exact (crash_any W F p D v kp h1 hk hv (fun hne b e f => by rcases hC hne b e with c | c; exact (h2 b f).2.2 c; have := (h2 b f).1; omega) hkl hu).mono fun e w' h => ⟨h.1, hd_post h2 h3 h4 h.2⟩
theorem hd_new (k : Below w.heap.size w W) (n : Int) : Calls Try.prog 16 #[.int .i64 n] W fun e w' => e = .returned (.pointer (some ⟨W.heap.size, 0, none⟩)) ∧ Hd w w' W.heap.size (Dk.new (many n)) (fun b => b < W.heap.size) ∧ Below W.heap.size W w' := by
  have hs := k.size
  exact (new_any W n).mono fun e w' h => ⟨h.1, ⟨_, h.2.1, fun b hb => ⟨by omega, hb.2, by omega⟩, fun b hb => by have := h.2.2.size; omega, below_then k h.2.2⟩, h.2.2⟩
end
end Go.Proofs.Ytbfcaapompkjhaa
