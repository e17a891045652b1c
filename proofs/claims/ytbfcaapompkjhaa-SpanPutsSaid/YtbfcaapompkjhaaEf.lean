/-
  SectorsPlay: three disks side by side, beside the caller's own blocks; an act as an argument.
-/
import Derived.Test.YtbfcaapompkjhaaEe
import Derived.Test.YtbfcaapompkjhaaDk
set_option linter.unusedVariables false
set_option linter.unusedSimpArgs false
namespace Go.Proofs.Ytbfcaapompkjhaa
open Go.RowKit Go.Proofs.PosteMem Go.Proofs.PosteOpen

structure TrioF (w W : World) (p1 p2 p3 : Nat) (D O : Dk) (R : Rk) (C F1 F2 F3 : Nat → Prop) : Prop where
  d : DiskAt W F1 p1 D
  o : DiskAt W F2 p2 O
  r : RefAt W F3 p3 R
  a1 : ∀ b, F1 b → w.heap.size ≤ b ∧ b < W.heap.size ∧ ¬ F2 b ∧ ¬ F3 b ∧ ¬ C b
  a2 : ∀ b, F2 b → w.heap.size ≤ b ∧ b < W.heap.size ∧ ¬ F3 b ∧ ¬ C b
  a3 : ∀ b, F3 b → w.heap.size ≤ b ∧ b < W.heap.size ∧ ¬ C b
  a4 : ∀ b, C b → b < W.heap.size
  acc : Below w.heap.size w W
def Trio (w W : World) (p1 p2 p3 : Nat) (D O : Dk) (R : Rk) (C : Nat → Prop) : Prop := ∃ F1 F2 F3, TrioF w W p1 p2 p3 D O R C F1 F2 F3
section
variable {w W W' : World} {p1 p2 p3 : Nat} {D O D' O' : Dk} {R R' : Rk} {C C' : Nat → Prop}
theorem Trio.acc (h : Trio w W p1 p2 p3 D O R C) : Below w.heap.size w W := let ⟨_, _, _, h⟩ := h; h.acc
theorem Trio.below (h : Trio w W p1 p2 p3 D O R C) (k : Below W.heap.size W W') : Trio w W' p1 p2 p3 D O R C := by
  obtain ⟨F1, F2, F3, h⟩ := h
  have := k.size
  exact ⟨F1, F2, F3, h.d.below k, h.o.below k, h.r.below k, fun b hb => ⟨(h.a1 b hb).1, by have := (h.a1 b hb).2.1; omega, (h.a1 b hb).2.2⟩, fun b hb => ⟨(h.a2 b hb).1, by have := (h.a2 b hb).2.1; omega, (h.a2 b hb).2.2⟩, fun b hb => ⟨(h.a3 b hb).1, by have := (h.a3 b hb).2.1; omega, (h.a3 b hb).2.2⟩, fun b hb => by have := h.a4 b hb; omega, below_then h.acc k⟩
theorem Trio.mono (h : Trio w W p1 p2 p3 D O R C) (hC : ∀ b, C' b → C b) : Trio w W p1 p2 p3 D O R C' := by
  obtain ⟨F1, F2, F3, h⟩ := h
  exact ⟨F1, F2, F3, h.d, h.o, h.r, fun b hb => ⟨(h.a1 b hb).1, (h.a1 b hb).2.1, (h.a1 b hb).2.2.1, (h.a1 b hb).2.2.2.1, fun c => (h.a1 b hb).2.2.2.2 (hC b c)⟩, fun b hb => ⟨(h.a2 b hb).1, (h.a2 b hb).2.1, (h.a2 b hb).2.2.1, fun c => (h.a2 b hb).2.2.2 (hC b c)⟩, fun b hb => ⟨(h.a3 b hb).1, (h.a3 b hb).2.1, fun c => (h.a3 b hb).2.2 (hC b c)⟩, fun b hb => h.a4 b (hC b hb), h.acc⟩
theorem Trio.client (h : Trio w W p1 p2 p3 D O R C) (k : Below W.heap.size W W') : Trio w W' p1 p2 p3 D O R (fun b => C b ∨ (W.heap.size ≤ b ∧ b < W'.heap.size)) := by
  obtain ⟨F1, F2, F3, h⟩ := h
  have := k.size
  refine ⟨F1, F2, F3, h.d.below k, h.o.below k, h.r.below k, fun b hb => ?_, fun b hb => ?_, fun b hb => ?_, fun b hb => ?_, below_then h.acc k⟩
  · obtain ⟨h1, h2, h3, h4, h5⟩ := h.a1 b hb
    exact ⟨h1, by omega, h3, h4, fun c => by rcases c with c | c; exact h5 c; omega⟩
  · obtain ⟨h1, h2, h3, h5⟩ := h.a2 b hb
    exact ⟨h1, by omega, h3, fun c => by rcases c with c | c; exact h5 c; omega⟩
  · obtain ⟨h1, h2, h5⟩ := h.a3 b hb
    exact ⟨h1, by omega, fun c => by rcases c with c | c; exact h5 c; omega⟩
  · rcases hb with hb | hb
    · have := h.a4 b hb; omega
    · exact hb.2
theorem Trio.store (h : Trio w W p1 p2 p3 D O R C) {a : Addr} (ha : C a.block) (hw : w.heap.size ≤ a.block) (u : Value) : Trio w (W.setCell a u) p1 p2 p3 D O R C := by
  obtain ⟨F1, F2, F3, h⟩ := h
  have e : (W.setCell a u).heap.size = W.heap.size := by simp [World.setCell]
  have k : Upd C W (W.setCell a u) := (Upd.refl _ _).setCell (.inr ha) u
  exact ⟨F1, F2, F3, h.d.upd k (fun b hb c => (h.a1 b hb).2.2.2.2 c), h.o.upd k (fun b hb c => (h.a2 b hb).2.2.2 c), h.r.upd k (fun b hb c => (h.a3 b hb).2.2 c), fun b hb => by rw [e]; exact h.a1 b hb, fun b hb => by rw [e]; exact h.a2 b hb, fun b hb => by rw [e]; exact h.a3 b hb, fun b hb => by rw [e]; exact h.a4 b hb, h.acc.setCell hw u⟩
theorem TrioF.post1 {F1 F2 F3 : Nat → Prop} (h : TrioF w W p1 p2 p3 D O R C F1 F2 F3) (k : Post W F1 p1 D' W') : Trio w W' p1 p2 p3 D' O R C ∧ Keeps C W W' := by
  have hs := k.2.size
  have hs0 := h.acc.size
  refine ⟨⟨fr F1 W W', F2, F3, k.1, h.o.upd k.2 (fun b hb f => (h.a1 b f).2.2.1 hb), h.r.upd k.2 (fun b hb f => (h.a1 b f).2.2.2.1 hb), fun b hb => ?_, fun b hb => ?_, fun b hb => ?_, fun b hb => ?_, h.acc.trans (k.2.below hs0 fun b hb => (h.a1 b hb).1)⟩, ⟨F1, k.2, fun b c f => (h.a1 b f).2.2.2.2 c⟩⟩
  · rcases hb.1 with hf | hf
    · obtain ⟨h1, h2, h3⟩ := h.a1 b hf; exact ⟨h1, hb.2, h3⟩
    · exact ⟨by omega, hb.2, fun f => by have := (h.a2 b f).2.1; omega, fun f => by have := (h.a3 b f).2.1; omega, fun c => by have := h.a4 b c; omega⟩
  · obtain ⟨h1, h2, h3⟩ := h.a2 b hb; exact ⟨h1, by omega, h3⟩
  · obtain ⟨h1, h2, h3⟩ := h.a3 b hb; exact ⟨h1, by omega, h3⟩
  · have := h.a4 b hb; omega
theorem TrioF.post2 {F1 F2 F3 : Nat → Prop} (h : TrioF w W p1 p2 p3 D O R C F1 F2 F3) (k : Post W F2 p2 O' W') : Trio w W' p1 p2 p3 D O' R C ∧ Keeps C W W' := by
  have hs := k.2.size
  have hs0 := h.acc.size
  refine ⟨⟨F1, fr F2 W W', F3, h.d.upd k.2 (fun b hb f => (h.a1 b hb).2.2.1 f), k.1, h.r.upd k.2 (fun b hb f => (h.a2 b f).2.2.1 hb), fun b hb => ?_, fun b hb => ?_, fun b hb => ?_, fun b hb => ?_, h.acc.trans (k.2.below hs0 fun b hb => (h.a2 b hb).1)⟩, ⟨F2, k.2, fun b c f => (h.a2 b f).2.2.2 c⟩⟩
  · obtain ⟨h1, h2, h3, h4⟩ := h.a1 b hb
    refine ⟨h1, by omega, fun f => ?_, h4⟩
    rcases f.1 with f | f
    · exact h3 f
    · omega
  · rcases hb.1 with hf | hf
    · obtain ⟨h1, h2, h3⟩ := h.a2 b hf; exact ⟨h1, hb.2, h3⟩
    · exact ⟨by omega, hb.2, fun f => by have := (h.a3 b f).2.1; omega, fun c => by have := h.a4 b c; omega⟩
  · obtain ⟨h1, h2, h3⟩ := h.a3 b hb; exact ⟨h1, by omega, h3⟩
  · have := h.a4 b hb; omega
theorem TrioF.post3 {F1 F2 F3 : Nat → Prop} (h : TrioF w W p1 p2 p3 D O R C F1 F2 F3) (k : RPost W F3 p3 R' W') : Trio w W' p1 p2 p3 D O R' C ∧ Keeps C W W' := by
  have hs := k.2.size
  have hs0 := h.acc.size
  refine ⟨⟨F1, F2, fr F3 W W', h.d.upd k.2 (fun b hb f => (h.a1 b hb).2.2.2.1 f), h.o.upd k.2 (fun b hb f => (h.a2 b hb).2.2.1 f), k.1, fun b hb => ?_, fun b hb => ?_, fun b hb => ?_, fun b hb => ?_, h.acc.trans (k.2.below hs0 fun b hb => (h.a3 b hb).1)⟩, ⟨F3, k.2, fun b c f => (h.a3 b f).2.2 c⟩⟩
  · obtain ⟨h1, h2, h3, h4, h5⟩ := h.a1 b hb
    refine ⟨h1, by omega, h3, fun f => ?_, h5⟩
    rcases f.1 with f | f
    · exact h4 f
    · omega
  · obtain ⟨h1, h2, h3, h4⟩ := h.a2 b hb
    refine ⟨h1, by omega, fun f => ?_, h4⟩
    rcases f.1 with f | f
    · exact h3 f
    · omega
  · rcases hb.1 with hf | hf
    · obtain ⟨h1, h2, h3⟩ := h.a3 b hf; exact ⟨h1, hb.2, h3⟩
    · exact ⟨by omega, hb.2, fun c => by have := h.a4 b c; omega⟩
  · have := h.a4 b hb; omega

theorem t_write (h : Trio w W p1 p2 p3 D O R C) {k : Nat} (hk : Few k D) (hk2 : k ≤ 1000) (i : Int) {v : Value} {bs : List Int} (hv : VB W v bs) (hC : ∀ b, blockOf v = some b → C b) :
    Calls Try.prog 17 #[.pointer (some ⟨p1, 0, none⟩), .int .i64 i, v] W fun e w' => e = .returned (.bool (D.write i bs).2) ∧ Trio w w' p1 p2 p3 (D.write i bs).1 O R C ∧ Keeps C W w' := by
  obtain ⟨F1, F2, F3, h⟩ := h
  have h1 := hk.written
  have h2 := hk.uns
  exact (write_any W F1 p1 D i v bs h.d hk.ok hv (fun b e f => (h.a1 b f).2.2.2.2 (hC b e)) (by omega) (by omega)).mono fun e w' x => ⟨x.1, h.post1 x.2⟩
theorem t_owrite (h : Trio w W p1 p2 p3 D O R C) {k : Nat} (hk : Few k O) (hk2 : k ≤ 1000) (i : Int) {v : Value} {bs : List Int} (hv : VB W v bs) (hC : ∀ b, blockOf v = some b → C b) :
    Calls Try.prog 17 #[.pointer (some ⟨p2, 0, none⟩), .int .i64 i, v] W fun e w' => e = .returned (.bool (O.write i bs).2) ∧ Trio w w' p1 p2 p3 D (O.write i bs).1 R C ∧ Keeps C W w' := by
  obtain ⟨F1, F2, F3, h⟩ := h
  have h1 := hk.written
  have h2 := hk.uns
  exact (write_any W F2 p2 O i v bs h.o hk.ok hv (fun b e f => (h.a2 b f).2.2.2 (hC b e)) (by omega) (by omega)).mono fun e w' x => ⟨x.1, h.post2 x.2⟩
theorem t_rwrite (h : Trio w W p1 p2 p3 D O R C) (hk : R.ok) (h1 : R.count ≤ 1000) (h2 : R.uns.length ≤ 1000) (i : Int) {v : Value} {bs : List Int} (hv : VB W v bs) :
    Calls Try.prog 23 #[.pointer (some ⟨p3, 0, none⟩), .int .i64 i, v] W fun e w' => e = .returned (.bool (R.write i bs).2) ∧ Trio w w' p1 p2 p3 D O (R.write i bs).1 C ∧ Keeps C W w' := by
  obtain ⟨F1, F2, F3, h⟩ := h
  exact (rwrite_any W F3 p3 R i v bs h.r hk hv (by omega) (by omega)).mono fun e w' x => ⟨x.1, h.post3 x.2⟩
theorem t_sync (h : Trio w W p1 p2 p3 D O R C) (hk : D.ok) :
    Calls Try.prog 19 #[.pointer (some ⟨p1, 0, none⟩)] W fun e w' => e = .returned (.bool D.sync.2) ∧ Trio w w' p1 p2 p3 D.sync.1 O R C ∧ Keeps C W w' := by
  obtain ⟨F1, F2, F3, h⟩ := h
  exact (sync_any W F1 p1 D h.d hk).mono fun e w' x => ⟨x.1, h.post1 x.2⟩
theorem t_rsync (h : Trio w W p1 p2 p3 D O R C) (hk : R.ok) (h2 : R.uns.length ≤ 1000) :
    Calls Try.prog 24 #[.pointer (some ⟨p3, 0, none⟩)] W fun e w' => e = .returned (.bool R.sync.2) ∧ Trio w w' p1 p2 p3 D O R.sync.1 C ∧ Keeps C W w' := by
  obtain ⟨F1, F2, F3, h⟩ := h
  exact (rsync_any W F3 p3 R h.r hk (by omega)).mono fun e w' x => ⟨x.1, h.post3 x.2⟩
theorem t_crash (h : Trio w W p1 p2 p3 D O R C) {k : Nat} (hk : Few k D) (hk2 : k ≤ 1000) {v : Value} {kp : List Bool} (hv : VBool W v kp) (hC : kp ≠ [] → ∀ b, blockOf v = some b → C b ∨ b < w.heap.size) (hkl : kp.length ≤ 1000) :
    Calls Try.prog 20 #[.pointer (some ⟨p1, 0, none⟩), v] W fun e w' => e = .returned (.tuple #[]) ∧ Trio w w' p1 p2 p3 (D.crash kp) O R C ∧ Keeps C W w' := by
  obtain ⟨F1, F2, F3, h⟩ := h
  have h2 := hk.uns
  exact (crash_any W F1 p1 D v kp h.d hk.ok hv (fun hne b e f => by rcases hC hne b e with c | c; exact (h.a1 b f).2.2.2.2 c; have := (h.a1 b f).1; omega) (by omega) (by omega)).mono fun e w' x => ⟨x.1, h.post1 x.2⟩
theorem t_rcrash (h : Trio w W p1 p2 p3 D O R C) (hk : R.ok) (h2 : R.uns.length ≤ 1000) {v : Value} {kp : List Bool} (hv : VBool W v kp) (hC : kp ≠ [] → ∀ b, blockOf v = some b → C b ∨ b < w.heap.size) (hkl : kp.length ≤ 1000) :
    Calls Try.prog 25 #[.pointer (some ⟨p3, 0, none⟩), v] W fun e w' => e = .returned (.tuple #[]) ∧ Trio w w' p1 p2 p3 D O (R.crash kp) C ∧ Keeps C W w' := by
  obtain ⟨F1, F2, F3, h⟩ := h
  exact (rcrash_any W F3 p3 R v kp h.r hk hv (fun hne b e f => by rcases hC hne b e with c | c; exact (h.a3 b f).2.2 c; have := (h.a3 b f).1; omega) (by omega) (by omega)).mono fun e w' x => ⟨x.1, h.post3 x.2⟩
theorem t_break (h : Trio w W p1 p2 p3 D O R C) (n : Int) :
    Calls Try.prog 26 #[.pointer (some ⟨p1, 0, none⟩), .int .i64 n] W fun e w' => e = .returned (.tuple #[]) ∧ Trio w w' p1 p2 p3 (D.brk n) O R C ∧ Keeps C W w' := by
  obtain ⟨F1, F2, F3, h⟩ := h
  exact (break_any W F1 p1 D n h.d).mono fun e w' x => ⟨x.1, h.post1 x.2⟩
theorem t_rbreak (h : Trio w W p1 p2 p3 D O R C) (n : Int) :
    Calls Try.prog 27 #[.pointer (some ⟨p3, 0, none⟩), .int .i64 n] W fun e w' => e = .returned (.tuple #[]) ∧ Trio w w' p1 p2 p3 D O (R.brk n) C ∧ Keeps C W w' := by
  obtain ⟨F1, F2, F3, h⟩ := h
  exact (rbreak_any W F3 p3 R n h.r).mono fun e w' x => ⟨x.1, h.post3 x.2⟩
theorem t_read (h : Trio w W p1 p2 p3 D O R C) (hk : D.ok) (i : Int) : Calls Try.prog 21 #[.pointer (some ⟨p1, 0, none⟩), .int .i64 i] W fun e w' => ∃ A cap, e = .returned (.slice A (D.read i).length cap) ∧ VB w' (.slice A (D.read i).length cap) (D.read i) ∧ Below W.heap.size W w' := by
  obtain ⟨F1, F2, F3, h⟩ := h
  exact (read_any W F1 p1 D i h.d hk).mono fun e w' ⟨v, he, ho, hb⟩ => by
    have hv := ho.view
    obtain ⟨A, cap, rfl, _⟩ := own_shape ho
    exact ⟨A, cap, he, hv, hb⟩
theorem t_rread (h : Trio w W p1 p2 p3 D O R C) (hk : R.ok) (h2 : R.uns.length ≤ 1000) (i : Int) : Calls Try.prog 31 #[.pointer (some ⟨p3, 0, none⟩), .int .i64 i] W fun e w' => ∃ A cap, e = .returned (.slice A (R.read i).length cap) ∧ VB w' (.slice A (R.read i).length cap) (R.read i) ∧ Below W.heap.size W w' := by
  obtain ⟨F1, F2, F3, h⟩ := h
  exact (rread_any W F3 p3 R i h.r hk (by omega)).mono fun e w' ⟨v, he, ho, hb⟩ => by
    have hv := ho.view
    obtain ⟨A, cap, rfl, _⟩ := own_shape ho
    exact ⟨A, cap, he, hv, hb⟩
theorem t_writes (h : Trio w W p1 p2 p3 D O R C) : Calls Try.prog 28 #[.pointer (some ⟨p1, 0, none⟩)] W fun e w' => e = .returned (.int .i64 D.written) ∧ w' = W := let ⟨F1, _, _, h⟩ := h; writes_any W F1 p1 D h.d
theorem t_len (h : Trio w W p1 p2 p3 D O R C) : Calls Try.prog 29 #[.pointer (some ⟨p1, 0, none⟩)] W fun e w' => e = .returned (.int .i64 D.now.length) ∧ w' = W := let ⟨F1, _, _, h⟩ := h; len_any W F1 p1 D h.d
theorem t_rlen (h : Trio w W p1 p2 p3 D O R C) : Calls Try.prog 30 #[.pointer (some ⟨p3, 0, none⟩)] W fun e w' => e = .returned (.int .i64 R.sure.length) ∧ w' = W := let ⟨_, _, F3, h⟩ := h; rlen_any W F3 p3 R h.r
theorem Trio.count (h : Trio w W p1 p2 p3 D O R C) : W.cell? ⟨p3, 4, none⟩ = some (.int .i64 R.count) := by
  obtain ⟨_, _, F3, h⟩ := h
  obtain ⟨vs, vu, hb⟩ := h.r.box
  exact hb.cell 4
end

/-! ### an act as an argument -/
@[reducible] def KAct : Kd := .cons 3 (.int .i64) (.cons 3 (.int .i64) (.cons 3 (.int .i64) (.cons 5 (.int .u8) (.cons 4 .bool (.cons 23 (.sl 4 .bool) .nil)))))
structure ActT where
  way : Int
  at' : Int
  n : Int
  c : Int
  bad : Bool
  keep : List Bool
/-- The act at i, read. -/
structure ActAt (W : World) (b o : Nat) (x : ActT) (Ak : Option Addr) (ck : Nat) : Prop where
  c0 : W.cell? ⟨b, o, none⟩ = some (.int .i64 x.way)
  c1 : W.cell? ⟨b, o + 1, none⟩ = some (.int .i64 x.at')
  c2 : W.cell? ⟨b, o + 2, none⟩ = some (.int .i64 x.n)
  c3 : W.cell? ⟨b, o + 3, none⟩ = some (.int .u8 x.c)
  c4 : W.cell? ⟨b, o + 4, none⟩ = some (.bool x.bad)
  c5 : W.cell? ⟨b, o + 5, none⟩ = some (.slice Ak x.keep.length ck)
  keep : VBool W (.slice Ak x.keep.length ck) x.keep
  n_lt : x.n < 9223372036854775808
def actOf (x : KAct.T) : ActT := ⟨x.1, x.2.1, x.2.2.1, x.2.2.2.1, x.2.2.2.2.1, x.2.2.2.2.2.1⟩
theorem acts_of_rd {W : World} {A : Option Addr} {n c : Nat} {l : List KAct.T} (z : Rd Try.prog W (.sl 38 KAct) [.slice A n c] l) :
    n = l.length ∧ ∀ i (hi : i < l.length), ∃ b o Ak ck, A = some ⟨b, o, none⟩ ∧ b < W.heap.size ∧ ActAt W b (o + i * 6) (actOf l[i]) Ak ck := by
  obtain ⟨css, h1, h2, hv, h4⟩ := rd_view z
  obtain ⟨A', c', e, _, _⟩ := View.cells hv
  injection e with e1 e2 e3
  subst e1 e2 e3
  refine ⟨rfl, fun i hi => ?_⟩
  obtain ⟨b, o, c'', e, _, _, hb, f⟩ := View.at_ hv (Nat.mul_pos (by omega) (by decide))
  injection e with e
  have hr := h4 i hi (by omega)
  have hfl : ∀ q, q < 6 → W.cell? ⟨b, o + (i * 6 + q), none⟩ = css[i][q]? := fun q hq => by
    have hl : css[i].length = 6 := h2 css[i] (List.getElem_mem _)
    have := flatten_at 6 css h2 i (by omega) q hq
    have e2 : css[i][q]? = some (css[i][q]'(by omega)) := List.getElem?_eq_getElem (by omega)
    rw [e2] at this ⊢
    exact f (i * 6 + q) _ this
  have hfl0 := hfl 0 (by decide)
  have hfl1 := hfl 1 (by decide)
  have hfl2 := hfl 2 (by decide)
  have hfl3 := hfl 3 (by decide)
  have hfl4 := hfl 4 (by decide)
  have hfl5 := hfl 5 (by decide)
  clear hfl
  generalize hcs : css[i] = cs at *
  generalize l[i] = x at *
  obtain ⟨c1, r1, rfl, _, ⟨rfl, _⟩, c2, r2, rfl, _, ⟨rfl, _⟩, c3, r3, rfl, _, ⟨rfl, hn⟩, c4, r4, rfl, _, ⟨rfl, _⟩, c5, r5, rfl, _, rfl, c6, r6, rfl, _, hs, hnil⟩ := hr
  have hs2 := hs
  obtain ⟨Ak, ck, rfl, _⟩ := hs2
  obtain ⟨_, hvk⟩ := vb_of_rd hs
  refine ⟨b, o, Ak, ck, e, hb, ?_, ?_, ?_, ?_, ?_, ?_, hvk, ?_⟩
  · simpa [Nat.add_assoc, actOf] using hfl0
  · simpa [Nat.add_assoc, actOf] using hfl1
  · simpa [Nat.add_assoc, actOf] using hfl2
  · simpa [Nat.add_assoc, actOf] using hfl3
  · simpa [Nat.add_assoc, actOf] using hfl4
  · simpa [Nat.add_assoc, actOf] using hfl5
  · simp [Lit.wf, IntKind.max, IntKind.min, IntKind.bits, IntKind.signed] at hn
    have h9 : x.2.2.1 < (9223372036854775808 : Int) := Int.lt_of_le_of_lt hn.2 (by decide)
    exact h9
end Go.Proofs.Ytbfcaapompkjhaa
