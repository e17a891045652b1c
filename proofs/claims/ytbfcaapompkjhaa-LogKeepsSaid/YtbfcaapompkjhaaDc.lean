/-
  A disk's calls by their contracts: Len, Writes, Read, Break, Sync.
-/
import Derived.Test.YtbfcaapompkjhaaDb
set_option linter.unusedVariables false
set_option linter.unusedSimpArgs false
namespace Go.Proofs.Ytbfcaapompkjhaa
open Go.RowKit Go.Proofs.PosteMem
attribute [local go_sem ↓] Go.wp_at_zero Go.wp_at_succ

/-- What holds of every disk. -/
structure Dk.ok (D : Dk) : Prop where
  len : D.now.length = D.sure.length
  max : D.now.length ≤ 4096
  uns : ∀ x ∈ D.uns, x.1 < D.sure.length
  low : -1 ≤ D.left
  high : D.left < 9223372036854775808
  bytes : ∀ b ∈ D.now, b.length = 64
  sbytes : ∀ b ∈ D.sure, b.length = 64
  ubytes : ∀ x ∈ D.uns, x.2.length = 64
def Dk.read (D : Dk) (i : Int) : List Int := if h : 0 ≤ i ∧ i.toNat < D.now.length then D.now[i.toNat] else []
def Dk.write (D : Dk) (i : Int) (bs : List Int) : Dk × Bool :=
  if i < 0 ∨ (D.now.length : Int) ≤ i ∨ bs.length ≠ 64 ∨ D.broken = true then (D, false)
  else (⟨D.sure, D.now.set i.toNat bs, D.uns ++ [(i.toNat, bs)], if 0 < D.left then D.left - 1 else D.left, decide (D.left = 1), D.written + 1⟩, true)
def Dk.sync (D : Dk) : Dk × Bool := if D.broken = true then (D, false) else (⟨D.now, D.now, [], D.left, D.broken, D.written⟩, true)
def Dk.brk (D : Dk) (n : Int) : Dk := if D.broken = true then D else ⟨D.sure, D.now, D.uns, if n < 0 then 0 else n, decide (n ≤ 0), D.written⟩

theorem len_any (w : World) (F : Nat → Prop) (p : Nat) (D : Dk) (h : DiskAt w F p D) :
    Calls Try.prog 29 #[.pointer (some ⟨p, 0, none⟩)] w fun e w' => e = .returned (.int .i64 D.now.length) ∧ w' = w := by
  obtain ⟨vs, vn, vu, hs, hn, hu, h⟩ := h
  obtain ⟨A, c, rfl, _⟩ := own_shape h.now
  have c1 := h.box.cell 1
  clear h
  go_enter Try.func29, Try.ntmps29
  go_wp2_with fail
  go_ret
  exact ⟨rfl, rfl⟩
theorem writes_any (w : World) (F : Nat → Prop) (p : Nat) (D : Dk) (h : DiskAt w F p D) :
    Calls Try.prog 28 #[.pointer (some ⟨p, 0, none⟩)] w fun e w' => e = .returned (.int .i64 D.written) ∧ w' = w := by
  obtain ⟨vs, vn, vu, hs, hn, hu, h⟩ := h
  have c5 := h.box.cell 5
  clear h
  go_enter Try.func28, Try.ntmps28
  go_wp2_with fail
  go_ret
  exact ⟨rfl, rfl⟩
set_option maxHeartbeats 2000000 in
theorem read_any (w : World) (F : Nat → Prop) (p : Nat) (D : Dk) (i : Int) (h : DiskAt w F p D) (hk : D.ok) :
    Calls Try.prog 21 #[.pointer (some ⟨p, 0, none⟩), .int .i64 i] w fun e w' => ∃ v, e = .returned v ∧ OB w' w.heap.size v (D.read i) ∧ Below w.heap.size w w' := by
  have kL := Lib.hid (len_any w F p D h)
  by_cases h1 : i < 0
  · have e : D.read i = [] := by unfold Dk.read; rw [dif_neg (by omega)]
    rw [e]
    go_enter Try.func21, Try.ntmps21
    go_wp2_with fail
    go_ret
    exact ⟨_, rfl, World.ownsRow_nil _ _ _ _, Below.refl _ _⟩
  obtain ⟨k, rfl⟩ : ∃ k : Nat, i = k := ⟨i.toNat, by omega⟩
  by_cases h2 : D.now.length ≤ k
  · have e : D.read (k : Int) = [] := by unfold Dk.read; rw [dif_neg (by simp; omega)]
    have h2' : (D.now.length : Int) ≤ (k : Int) := by omega
    rw [e]
    go_enter Try.func21, Try.ntmps21
    go_wp2_with fail
    refine kL.out.mono ?_; rintro e w1 ⟨rfl, rfl⟩
    go_wp2_with fail
    go_ret
    exact ⟨_, rfl, World.ownsRow_nil _ _ _ _, Below.refl _ _⟩
  · have hk2 : k < D.now.length := by omega
    have e : D.read (k : Int) = D.now[k] := by unfold Dk.read; rw [dif_pos (by simp; omega)]; simp
    rw [e]
    obtain ⟨vs, vn, vu, hs, hn, hu, h⟩ := h
    obtain ⟨g, c, rfl, _⟩ := own_some h.now (by omega)
    have hkn : k < hn.length := by rw [h.hnow.1]; exact hk2
    have hdt := h.hnow.2 k hkn hk2
    have c1 := h.box.cell 1
    have ck := own_cell h.now k (by omega)
    have hlen := hk.bytes D.now[k] (List.getElem_mem _)
    obtain ⟨g2, c2, e2, _, ho2⟩ := hdt
    rw [e2] at ck ho2
    have kC := Lib.hid (cloneB w _ _ ho2.view (by omega))
    generalize D.now[k] = bs at *
    have q1 : (k : Int) < (D.now.length : Int) := by omega
    have q2 : ¬ (D.now.length : Int) ≤ (k : Int) := by omega
    clear h e2 ho2 h2 hlen
    go_enter Try.func21, Try.ntmps21
    go_wp2_with fail
    refine kL.out.mono ?_; rintro e w1 ⟨rfl, rfl⟩
    go_wp2_with fail
    refine kC.out.mono ?_; rintro e w2 ⟨v2, rfl, ho, hb⟩
    go_wp2_with fail
    go_ret
    exact ⟨_, rfl, ho, hb⟩

/-- What a call leaves of a disk. -/
def Post (w : World) (F : Nat → Prop) (p : Nat) (D : Dk) (w' : World) : Prop := DiskAt w' (fr F w w') p D ∧ Upd F w w'
theorem DiskAt.fr_self {w : World} {F : Nat → Prop} {p : Nat} {D : Dk} (h : DiskAt w F p D) : Post w F p D w := ⟨h.mono fun b hb hF => ⟨.inl hF, hb⟩, Upd.refl _ _⟩
theorem Post.close {w W : World} {F : Nat → Prop} {p : Nat} {vs vn vu : Value} {hs hn : List Value} {hu : List (Nat × Value)} {D : Dk} (h : DAt W (op F w) p vs vn vu hs hn hu D) (k : Upd F w W) : Post w F p D W := ⟨h.close, k⟩

set_option maxHeartbeats 2000000 in
theorem break_any (w : World) (F : Nat → Prop) (p : Nat) (D : Dk) (n : Int) (h : DiskAt w F p D) :
    Calls Try.prog 26 #[.pointer (some ⟨p, 0, none⟩), .int .i64 n] w fun e w' => e = .returned (.tuple #[]) ∧ Post w F p (D.brk n) w' := by
  obtain ⟨vs, vn, vu, hs, hn, hu, h⟩ := h
  obtain ⟨S, N, U, left, broken, written⟩ := D
  have c3 := h.box.cell 3
  have c4 := h.box.cell 4
  have f3 := h.box.frozen 3
  have f4 := h.box.frozen 4
  unfold Dk.brk
  simp only at c4 c3 ⊢
  cases broken with
  | true =>
    rw [if_pos rfl]
    have hp := DiskAt.fr_self ⟨vs, vn, vu, hs, hn, hu, h⟩
    replace hp := Lib.hid hp
    clear h
    go_enter Try.func26, Try.ntmps26
    go_wp2_with fail
    go_end0
    exact ⟨rfl, hp.out⟩
  | false =>
    rw [if_neg (by decide)]
    obtain ⟨x, b, hx, hb, hc⟩ : ∃ (x : Int) (b : Bool), (if n < 0 then 0 else n) = x ∧ decide (n ≤ 0) = b ∧ (n < 0 ∧ x = 0 ∧ b = true ∨ n = 0 ∧ x = 0 ∧ b = true ∨ 0 < n ∧ x = n ∧ b = false) := by
      refine ⟨_, _, rfl, rfl, ?_⟩
      rcases Int.lt_trichotomy n 0 with h1 | h1 | h1
      · exact .inl ⟨h1, if_pos h1, decide_eq_true (by omega)⟩
      · subst h1; exact .inr (.inl ⟨rfl, rfl, rfl⟩)
      · exact .inr (.inr ⟨h1, if_neg (by omega), decide_eq_false (by omega)⟩)
    rw [hx, hb]
    have h1 := h.open.setBox (D' := ⟨S, N, U, x, false, written⟩) 3 (.int .i64 x) rfl rfl rfl rfl
    have h2 := h1.setBox (D' := ⟨S, N, U, x, b, written⟩) 4 (.bool b) rfl rfl rfl rfl
    have hp := Post.close h2 (((Upd.refl F w).setCell (p := ⟨p, 3, none⟩) (.inr h.fp) _).setCell (p := ⟨p, 4, none⟩) (.inr h.fp) _)
    replace hp := Lib.hid hp
    clear h h1 h2 hx hb
    rcases hc with ⟨h1, rfl, rfl⟩ | ⟨rfl, rfl, rfl⟩ | ⟨h1, rfl, rfl⟩
    · have q1 : ¬ 0 ≤ n := by omega
      go_enter Try.func26, Try.ntmps26
      go_wp2_with fail
      all_goals
        go_end0
        exact ⟨rfl, hp.out⟩
    · go_enter Try.func26, Try.ntmps26
      go_wp2_with fail
      all_goals
        go_end0
        exact ⟨rfl, hp.out⟩
    · have q1 : (x == 0) = false := beq_eq_false_iff_ne.2 (by omega)
      go_enter Try.func26, Try.ntmps26
      go_wp2_with fail
      all_goals
        go_end0
        exact ⟨rfl, hp.out⟩
set_option maxHeartbeats 2000000 in
theorem sync_any (w : World) (F : Nat → Prop) (p : Nat) (D : Dk) (h : DiskAt w F p D) (hk : D.ok) :
    Calls Try.prog 19 #[.pointer (some ⟨p, 0, none⟩)] w fun e w' => e = .returned (.bool D.sync.2) ∧ Post w F p D.sync.1 w' := by
  obtain ⟨vs, vn, vu, hs, hn, hu, h⟩ := h
  have hmax := hk.max
  obtain ⟨S, N, U, left, broken, written⟩ := D
  have c4 := h.box.cell 4
  unfold Dk.sync
  simp only at c4 hmax ⊢
  cases broken with
  | true =>
    rw [if_pos rfl]
    have hp := DiskAt.fr_self ⟨vs, vn, vu, hs, hn, hu, h⟩
    replace hp := Lib.hid hp
    clear h
    go_enter Try.func19, Try.ntmps19
    go_wp2_with fail
    go_ret
    exact ⟨rfl, hp.out⟩
  | false =>
    rw [if_neg (by decide)]
    have c1 := h.box.cell 1
    have kC := Lib.hid (cloneS w vn N.length hn h.hnow.one (View.of_own h.now) (by omega))
    go_enter Try.func19, Try.ntmps19
    go_wp2_with fail
    refine kC.out.mono ?_; rintro e w1 ⟨v1, rfl, ho, hb⟩
    obtain ⟨A1, n1, rfl, _, _, _⟩ := own_shape ho
    have h1 := h.open.below hb
    have c1 := h1.box.cell 0
    have f1 := h1.box.frozen 0
    have c2 := h1.box.cell 2
    have f2 := h1.box.frozen 2
    have h2 := (h1.newSure (L := N) (own_mono ho (by omega)) h1.hnow (fun b e => ⟨.inr (own_lt ho e).1, fun e2 => by have := (own_lt h.now e2).2; have := (own_lt ho e).1; omega⟩)).noUns
    have hp := Post.close h2 (((Upd.of_below hb).setCell (p := ⟨p, 0, none⟩) (.inr h.fp) _).setCell (p := ⟨p, 2, none⟩) (.inr h.fp) _)
    replace hp := Lib.hid hp
    clear h h1 h2 hb ho c4
    go_wp2_with fail
    go_ret
    exact ⟨rfl, hp.out⟩
end Go.Proofs.Ytbfcaapompkjhaa
