/-
  bytes.Writer: what it holds; number, Int, Text, Bytes by their contracts.
-/
import Derived.Test.YtbfcaapompkjhaaFd
import Derived.Test.YtbfcaapompkjhaaTill
import Derived.Test.YtbfcaapompkjhaaIns
import Derived.Deep.DeepCutAuto
import Derived.Lib.AppendStr
set_option linter.unusedVariables false
set_option linter.unusedSimpArgs false
namespace Go.Proofs.Ytbfcaapompkjhaa
open Go.RowKit Go.Proofs.PosteMem
attribute [local go_sem ↓] Go.wp_at_zero Go.wp_at_succ

theorem block_own (v : Value) : blockOf v = v.ownBlock := by
  unfold blockOf Value.ownBlock
  split
  · rfl
  · rename_i h
    split
    · exact absurd rfl (h _ _ _)
    · rfl
/-- A writer in box q that holds bs, all behind B. -/
def Wr (W : World) (B q : Nat) (bs : List Int) : Prop := ∃ v, Whole W q 95 #[v] ∧ OB W B v bs ∧ B ≤ q
def strL (s : ByteArray) : List Int := s.data.toList.map fun b => (b.toNat : Int)
theorem strL_len (s : ByteArray) : (strL s).length = s.size := by simp [strL]
theorem strL_map (s : ByteArray) : (strL s).map bv = Lib.strCells s := by simp [strL, Lib.strCells, bv]
/-- The i-th byte of n. -/
def bt (n : Int) (i : Nat) : Int := n / 2 ^ (8 * i) % 256
def le (n : Int) (k : Nat) : List Int := (List.range k).map (bt n)
theorem le_len (n : Int) (k : Nat) : (le n k).length = k := by simp [le]
theorem le_snoc (n : Int) (k : Nat) : le n (k + 1) = le n k ++ [bt n k] := by simp [le, List.range_succ]

set_option maxRecDepth 100000 in
set_option maxHeartbeats 8000000 in
theorem wnumber_any (w : World) (B q : Nat) (bs : List Int) (n : Int) (N : Nat) (h : Wr w B q bs) (hB : B ≤ w.heap.size) (hl : bs.length ≤ 1000000) (hn0 : 0 ≤ n) (hn1 : n < 18446744073709551616) (hN : N ≤ 8) :
    Calls Try.prog 77 #[.pointer (some ⟨q, 0, none⟩), .int .u64 n, .int .i64 N] w fun e w' => e = .returned (.tuple #[]) ∧ Wr w' B q (bs ++ le n N) ∧ Below B w w' := by
  obtain ⟨j0, hj0, hy0, hy1, hy2⟩ := info_parts infoByte
  go_enter Try.func77, Try.ntmps77
  go_wp2_with fail
  go_loopw [8] (fun i wr => ∃ k : Nat, k ≤ N ∧ i = .int .i64 k ∧ Wr wr B q (bs ++ le n k) ∧ Below B w wr) (fun i _ => N - (intOf i).toNat)
  case atStart => exact ⟨0, by omega, rfl, by simpa [le] using h, Below.refl _ _⟩
  case round =>
    obtain ⟨k, hk, rfl, hw, hb⟩ := hrel
    by_cases hlt : k < N
    · have q1 : (k : Int) < (N : Int) := by omega
      obtain ⟨v, hx, ho, hBq⟩ := hw
      obtain ⟨A, c, rfl, _, _, _⟩ := own_shape ho
      have hlen : (bs ++ le n k).length = bs.length + k := by rw [List.length_append, le_len]
      have hBs : B ≤ wr.heap.size := Nat.le_trans hB hb.size
      have hll : (le n k).length = k := le_len n k
      have ew : IntKind.i64.wrap (8 * (k : Int)) = ((8 * k : Nat) : Int) := by rw [IntKind.wrap_i64]; omega
      have hsh : Op.shift .shr .u64 n .i64 (IntKind.i64.wrap (8 * (k : Int))) = pure (.int .u64 (n / 2 ^ (8 * k))) := by
        rw [ew, shift_shr_any _ _ _ _ (by omega), Int.toNat_natCast, Nat.min_eq_left (by show 8 * k ≤ 64; omega)]
      have hbx := Lib.hid hx
      have hown := Lib.hid ho
      have hne : (Value.slice A (bs ++ le n k).length c).ownBlock ≠ some q := own_ne_whole ho hx (by decide)
      rw [hlen] at hne
      replace hne := Lib.hid hne
      have e9 : IntKind.u8.wrap (n / 2 ^ (8 * (k : Int)).toNat) = bt n k := by
        rw [IntKind.wrap_u8, show (8 * (k : Int)).toNat = 8 * k by omega]
        rfl
      replace e9 := Lib.hid e9
      unfold OB at hown
      rw [hlen] at hown
      replace hlen := Lib.hid hlen
      clear hx ho
      go_upto_region 3 with fail
      replace e9 := e9.out
      refine tl_begin (fun (w' : World) => w'.cell? ⟨q, 0, none⟩ = some (.slice A (bs ++ le n k).length c)) [14] (by kernel_rfl) (hbx.out.cell 0) (fun hHeld => ?_)
      refine tl_p (i := 0) (v := ?_) rfl (by rfl) (by kernel_rfl) (by kernel_rfl) (by kernel_rfl) (fun _ _ _ h => h) (by rfl) hHeld ?_ ?_
      rotate_left
      · intro w
        go_simp
        try (with_reducible rfl)
      try simp only [Act.put, List.setIfInBounds_toArray, List.set_cons_zero, List.set_cons_succ]
      refine tl_p (i := 1) (v := ?_) rfl (by rfl) (by kernel_rfl) (by kernel_rfl) (by kernel_rfl) (fun _ _ _ h => h) (by rfl) hHeld ?_ ?_
      rotate_left
      · intro w
        go_simp
        try (with_reducible rfl)
      try simp only [Act.put, List.setIfInBounds_toArray, List.set_cons_zero, List.set_cons_succ]
      refine tl_p (i := 2) (v := ?_) rfl (by rfl) (by kernel_rfl) (by kernel_rfl) (by kernel_rfl) (fun _ _ _ h => h) (by rfl) hHeld ?_ ?_
      rotate_left
      · intro w
        go_simp
        try (with_reducible rfl)
      try simp only [Act.put, List.setIfInBounds_toArray, List.set_cons_zero, List.set_cons_succ]
      refine tl_p (i := 3) (v := ?_) rfl (by rfl) (by kernel_rfl) (by kernel_rfl) (by kernel_rfl) (fun _ _ _ h => h) (by rfl) hHeld ?_ ?_
      rotate_left
      · intro w
        go_simp
        try (with_reducible rfl)
      try simp only [Act.put, List.setIfInBounds_toArray, List.set_cons_zero, List.set_cons_succ]
      refine tl_w (i := 4) (v := ?_) rfl (by rfl) (by kernel_rfl) (by kernel_rfl) (by kernel_rfl) (by kernel_rfl) (by kernel_rfl) (fun _ _ _ h => h) (by rfl) hHeld ?_ ?_
      rotate_left
      · intro w hSw
        try dsimp only at hSw
        go_simp
        try (with_reducible rfl)
      try simp only [Act.put, List.setIfInBounds_toArray, List.set_cons_zero, List.set_cons_succ]
      refine tl_p (i := 5) (v := ?_) rfl (by rfl) (by kernel_rfl) (by kernel_rfl) (by kernel_rfl) (fun _ _ _ h => h) (by rfl) hHeld ?_ ?_
      rotate_left
      · intro w
        go_simp
        try (with_reducible rfl)
      try simp only [Act.put, List.setIfInBounds_toArray, List.set_cons_zero, List.set_cons_succ]
      refine tl_p (i := 6) (v := ?_) rfl (by rfl) (by kernel_rfl) (by kernel_rfl) (by kernel_rfl) (fun _ _ _ h => h) (by rfl) hHeld ?_ ?_
      rotate_left
      · intro w
        go_simp
        try (with_reducible rfl)
      try simp only [Act.put, List.setIfInBounds_toArray, List.set_cons_zero, List.set_cons_succ]
      refine tl_p (i := 7) (v := ?_) rfl (by rfl) (by kernel_rfl) (by kernel_rfl) (by kernel_rfl) (fun _ _ _ h => h) (by rfl) hHeld ?_ ?_
      rotate_left
      · intro w
        go_simp
        try (with_reducible rfl)
      try simp only [Act.put, List.setIfInBounds_toArray, List.set_cons_zero, List.set_cons_succ]
      refine tl_p (i := 8) (v := ?_) rfl (by rfl) (by kernel_rfl) (by kernel_rfl) (by kernel_rfl) (fun _ _ _ h => h) (by rfl) hHeld ?_ ?_
      rotate_left
      · intro w
        go_simp
        try (with_reducible rfl)
      try simp only [Act.put, List.setIfInBounds_toArray, List.set_cons_zero, List.set_cons_succ]
      refine tl_p (i := 9) (v := ?_) rfl (by rfl) (by kernel_rfl) (by kernel_rfl) (by kernel_rfl) (fun _ _ _ h => h) (by rfl) hHeld ?_ ?_
      rotate_left
      · intro w
        go_simp
        try (with_reducible rfl)
      try simp only [Act.put, List.setIfInBounds_toArray, List.set_cons_zero, List.set_cons_succ]
      refine tl_do (i := 10) rfl (by kernel_rfl) (by rfl) (fun K hK => ?_)
      go_simp
      refine hK.out _ _ ((hbx.out.drew.alloc _).cell 0) (fun hHeld1 => ?_)
      clear hK K hHeld
      have hHeld := hHeld1
      clear hHeld1
      try simp only [Act.put, List.setIfInBounds_toArray, List.set_cons_zero, List.set_cons_succ]
      refine tl_do (i := 11) rfl (by kernel_rfl) (by rfl) (fun K hK => ?_)
      refine wp_append_view _ (.tmp 15) (.tmp 21) _ rfl B 5 j0 (.int .u8 0) 1 1 Try.underlying27 hj0 hy0 hy1 hy2 rfl (by omega) (.slice A (bs.length + k) c) (bs.length + k) ((bs ++ le n k).map bv) rfl (own_drew (hown.out.alloc _)) (.slice (some ⟨wr.heap.size, 0, none⟩) 1 1) 1 [bv (bt n k)] rfl (View.drew (View.boxAt _ [bv (bt n k)] _ _ rfl rfl)) (bv_one [bt n k]) (by omega) (by simp only [maxLen]; omega) (by simp; omega) ?_
      intro v2 w2 hown2 hg2 hat2
      have x2 := Lib.hid ((hbx.out.alloc (.cells #[bv (bt n k)] 5)).drew.grown hg2 hne.out)
      obtain ⟨A2, c2, rfl, _, _, _⟩ := own_shape hown2
      refine hK.out _ _ (x2.out.cell 0) (fun hHeld1 => ?_)
      clear hK K hHeld
      have hHeld := hHeld1
      clear hHeld1
      try simp only [Act.put, List.setIfInBounds_toArray, List.set_cons_zero, List.set_cons_succ]
      refine tl_p (i := 12) (v := ?_) rfl (by rfl) (by kernel_rfl) (by kernel_rfl) (by kernel_rfl) (fun _ _ _ h => h) (by rfl) hHeld ?_ ?_
      rotate_left
      · intro w
        go_simp
        try (with_reducible rfl)
      try simp only [Act.put, List.setIfInBounds_toArray, List.set_cons_zero, List.set_cons_succ]
      refine tl_p (i := 13) (v := ?_) rfl (by rfl) (by kernel_rfl) (by kernel_rfl) (by kernel_rfl) (fun _ _ _ h => h) (by rfl) hHeld ?_ ?_
      rotate_left
      · intro w
        go_simp
        try (with_reducible rfl)
      try simp only [Act.put, List.setIfInBounds_toArray, List.set_cons_zero, List.set_cons_succ]
      refine tl_late (by kernel_rfl) ?_
      refine any_do (i := 14) rfl (by kernel_rfl) (by rfl) (fun K hK => ?_)
      have d0 := x2.out.cell 0
      have e0 := x2.out.frozen 0
      go_simp
      refine hK.out _ _ ?_
      clear hK K
      try simp only [Act.put, List.setIfInBounds_toArray, List.set_cons_zero, List.set_cons_succ]
      refine wpAny_done (by kernel_rfl) ?_ _
      have hB2 := (hb.alloc hBs (.cells #[bv (bt n k)] 5)).drew.grown hg2 (by simp; omega) (fun j hj => (hown.out.lt j hj).1)
      have hW2 : Wr (w2.setCell ⟨q, 0, none⟩ (.slice A2 (bs.length + k + 1) c2)) B q (bs ++ le n (k + 1)) := by
        refine ⟨_, x2.out.set 0 _, ?_, hBq⟩
        have h9 : (bs ++ le n (k + 1)).length = bs.length + k + 1 := by rw [le_snoc, ← List.append_assoc, List.length_append, hlen.out]; rfl
        unfold OB
        rw [h9, le_snoc, ← List.append_assoc, List.map_append]
        exact own_setCell hown2 (own_ne_whole hown2 x2.out (by decide)) _
      have hB3 := hB2.setCell (p := ⟨q, 0, none⟩) hBq (.slice A2 (bs.length + k + 1) c2)
      replace hW2 := Lib.hid hW2
      replace hB3 := Lib.hid hB3
      clear hB2 hown2 hg2 hat2
      go_wp2_with fail
      go_roundw
      case rel => exact ⟨k + 1, by omega, by go_num, hW2.out, hB3.out⟩
      case measure => simp [intOf]; omega
    · obtain rfl : k = N := by omega
      have q1 : ¬ (k : Int) < (k : Int) := by omega
      go_wp2_with fail
      go_end0
      exact ⟨rfl, hw, hb⟩

set_option maxHeartbeats 4000000 in
/-- A number of a machine word, as eight bytes. -/
theorem wint_any (w : World) (B q : Nat) (bs : List Int) (n : Int) (h : Wr w B q bs) (hB : B ≤ w.heap.size) (hl : bs.length ≤ 1000000) :
    Calls Try.prog 70 #[.pointer (some ⟨q, 0, none⟩), .int .i64 n] w fun e w' => e = .returned (.tuple #[]) ∧ Wr w' B q (bs ++ le (IntKind.u64.wrap n) 8) ∧ Below B w w' := by
  have k := Lib.hid (wnumber_any w B q bs (IntKind.u64.wrap n) 8 h hB hl (by rw [IntKind.wrap_u64]; omega) (by rw [IntKind.wrap_u64]; omega) (by decide))
  go_enter Try.func70, Try.ntmps70
  go_wp2_with fail
  refine k.out.mono ?_; rintro e w1 ⟨rfl, h1, hb1⟩
  go_wp2_with fail
  go_end0
  exact ⟨rfl, h1, hb1⟩

set_option maxHeartbeats 4000000 in
theorem wbytes_any (w : World) (B q : Nat) (bs : List Int) (h : Wr w B q bs) (hl : bs.length ≤ 1000000) :
    Calls Try.prog 71 #[.pointer (some ⟨q, 0, none⟩)] w fun e w' => ∃ v, e = .returned v ∧ OB w' w.heap.size v bs ∧ Below w.heap.size w w' := by
  obtain ⟨v, hx, ho, hBq⟩ := h
  have c0 := hx.cell 0
  have k := Lib.hid (cloneB w v bs ho.view hl)
  obtain ⟨A, c, rfl, _, _, _⟩ := own_shape ho
  clear hx ho
  go_enter Try.func71, Try.ntmps71
  go_wp2_with fail
  refine k.out.mono ?_; rintro e w1 ⟨v1, rfl, h1, hb1⟩
  go_wp2_with fail
  go_ret
  exact ⟨_, rfl, h1, hb1⟩

set_option maxRecDepth 100000 in
set_option maxHeartbeats 4000000 in
/-- A short text, its length ahead. -/
theorem wtext_any (w : World) (B q : Nat) (bs : List Int) (s : ByteArray) (h : Wr w B q bs) (hB : B ≤ w.heap.size) (hl : bs.length ≤ 100000) (hs : s.size ≤ 1000) :
    Calls Try.prog 69 #[.pointer (some ⟨q, 0, none⟩), .string s] w fun e w' => e = .returned (.tuple #[]) ∧ Wr w' B q (bs ++ le s.size 2 ++ strL s) ∧ Below B w w' := by
  obtain ⟨j0, hj0, hy0, hy1, hy2⟩ := info_parts infoByte
  have q1 : (s.size : Int) ≤ 65535 := by omega
  have k := Lib.hid (wnumber_any w B q bs s.size 2 h hB (by omega) (by omega) (by omega) (by decide))
  go_enter Try.func69, Try.ntmps69
  go_wp2_with fail
  refine k.out.mono ?_; rintro e w1 ⟨rfl, h1, hb1⟩
  obtain ⟨v, hx, ho, hBq⟩ := h1
  have c0 := hx.cell 0
  have hlen : (bs ++ le s.size 2).length = bs.length + 2 := by rw [List.length_append, le_len]
  unfold OB at ho
  rw [hlen] at ho
  have hne := Lib.hid (own_ne_whole ho hx (by decide))
  obtain ⟨A, c, rfl, _, _, _⟩ := own_shape ho
  have hBs : B ≤ w1.heap.size := Nat.le_trans hB hb1.size
  have hq := hx.lt
  replace hx := Lib.hid hx
  replace ho := Lib.hid ho
  replace hlen := Lib.hid hlen
  clear k
  go_wp2_with (at_builtin; refine Lib.wpList_append_own_string _ rfl (.tmp 18) (.tmp 19) _ _ rfl B 5 j0 Try.underlying27 Try.underlying9 hj0 hy0 hy1 hy2 (.slice A (bs.length + 2) c) (bs.length + 2) _ rfl ho.out s rfl (by simp only [maxLen]; omega) (by omega) hBs ?_; intro v2 w2 hown2 hg2 _; have x2 := Lib.hid (hx.out.grown hg2 hne.out); have d0 := x2.out.frozen 0; have d1 := x2.out.cell 0; have dq := x2.out.lt; obtain ⟨A2, c2, rfl, _, _, _⟩ := own_shape hown2)
  go_end0
  refine ⟨rfl, ⟨_, x2.out.set 0 _, ?_, hBq⟩, (hb1.grown hg2 hBs (fun j hj => (ho.out.lt j hj).1)).setCell (p := ⟨q, 0, none⟩) hBq _⟩
  have h9 : (bs ++ le s.size 2 ++ strL s).length = bs.length + 2 + s.size := by rw [List.length_append, hlen.out, strL_len]
  unfold OB
  rw [h9, List.map_append, strL_map]
  exact own_setCell hown2 (own_ne_whole hown2 x2.out (by decide)) _

/-- A reader in box q: what is left; none: it has failed. -/
def Rr (W : World) (q : Nat) : Option (List Int) → Prop
  | some bs => ∃ v, Whole W q 103 #[v, .bool false] ∧ VB W v bs ∧ blockOf v ≠ some q
  | none => Whole W q 103 #[.slice none 0 0, .bool true]
theorem Rr.lt {W : World} {q : Nat} {st : Option (List Int)} (h : Rr W q st) : q < W.heap.size := by
  cases st with
  | none => exact Whole.lt h
  | some bs => obtain ⟨v, hx, _⟩ := h; exact hx.lt
theorem Rr.below {W W' : World} {q : Nat} {st : Option (List Int)} (h : Rr W q st) (hb : Below W.heap.size W W') : Rr W' q st := by
  cases st with
  | none => exact Whole.below h hb
  | some bs => obtain ⟨v, hx, hv, hn⟩ := h; exact ⟨v, hx.below hb, View.below hv hb, hn⟩
theorem fail_any (w : World) (q : Nat) {v b : Value} (h : Whole w q 103 #[v, b]) :
    Calls Try.prog 80 #[.pointer (some ⟨q, 0, none⟩)] w fun e w' => e = .returned (.tuple #[]) ∧ Rr w' q none ∧ Upd (fun b => b = q) w w' := by
  have c0 := h.cell 0
  have c1 := h.cell 1
  have f0 := h.frozen 0
  have f1 := h.frozen 1
  have hf : Rr ((w.setCell ⟨q, 0, none⟩ (.slice none 0 0)).setCell ⟨q, 1, none⟩ (.bool true)) q none := (h.set 0 _).set 1 _
  have hu := Lib.hid (((Upd.refl (fun b => b = q) w).setCell (p := ⟨q, 0, none⟩) (.inr rfl) (.slice none 0 0)).setCell (p := ⟨q, 1, none⟩) (.inr rfl) (.bool true))
  replace hf := Lib.hid hf
  clear h
  go_enter Try.func80, Try.ntmps80
  go_wp2_with fail
  go_end0
  exact ⟨rfl, hf.out, hu.out⟩
/-- What take answers of n bytes, and what is left. -/
theorem add_block (a : Addr) (n : Nat) : (a.add n).block = a.block := by unfold Addr.add; split <;> rfl
def rtake (st : Option (List Int)) (n : Nat) : Option (List Int) × Option (List Int) :=
  match st with
  | none => (none, none)
  | some bs => if bs.length < n then (none, none) else (some (bs.take n), some (bs.drop n))

set_option maxRecDepth 100000 in
set_option maxHeartbeats 8000000 in
theorem take_any (w : World) (q : Nat) (st : Option (List Int)) (n : Nat) (h : Rr w q st) (hn : n ≤ 1000000) :
    Calls Try.prog 78 #[.pointer (some ⟨q, 0, none⟩), .int .i64 n] w fun e w' => (∃ v, e = .returned (.tuple #[v, .bool (rtake st n).1.isSome]) ∧ VB w' v ((rtake st n).1.getD [])) ∧ Rr w' q (rtake st n).2 ∧ Upd (fun b => b = q) w w' := by
  cases st with
  | none =>
    have c0 := Whole.cell h 0
    have c1 := Whole.cell h 1
    have hh := Lib.hid h
    go_enter Try.func78, Try.ntmps78
    clear h
    go_wp2_with fail
    go_ret2
    exact ⟨⟨_, rfl, View.nil _ _⟩, hh.out, Upd.refl _ _⟩
  | some bs =>
    obtain ⟨v, hx, hv, hne⟩ := h
    obtain ⟨A, cap, rfl, hc, hcm⟩ := hv.cells
    have c0 := hx.cell 0
    have c1 := hx.cell 1
    have f0 := hx.frozen 0
    have f1 := hx.frozen 1
    by_cases hlt : bs.length < n
    · have q1 : (bs.length : Int) < (n : Int) := by omega
      have e : rtake (some bs) n = (none, none) := by unfold rtake; simp only; rw [if_pos hlt]
      rw [e]
      have hx' := Lib.hid hx
      clear hx hv
      go_enter Try.func78, Try.ntmps78
      go_wp2_with (go_at_call 80; refine (fail_any w q hx'.out).mono ?_; rintro e w1 ⟨rfl, h1, hu1⟩)
      go_ret2
      exact ⟨⟨_, rfl, View.nil _ _⟩, h1, hu1⟩
    · have q1 : ¬ (bs.length : Int) < (n : Int) := by omega
      have q2 : (n : Int) ≤ (bs.length : Int) := by omega
      have q3 : n ≤ cap := by omega
      have e : rtake (some bs) n = (some (bs.take n), some (bs.drop n)) := by unfold rtake; simp only; rw [if_neg hlt]
      rw [e]
      have h1 := View.take hv (k := n) (by omega)
      have h2 := View.drop hv (k := n) (by omega)
      have hx' := Lib.hid hx
      have q4 : n ≤ bs.length := by omega
      rw [← List.map_take, Nat.mul_one] at h1
      rw [← List.map_drop, Nat.mul_one] at h2
      have l1 : (bs.take n).length = n := by rw [List.length_take]; omega
      have l2 : (bs.drop n).length = bs.length - n := by rw [List.length_drop]
      have hv1 : VB w (.slice A n cap) (bs.take n) := by unfold VB; rw [l1]; exact h1
      generalize hd : bs.drop n = ds at *
      generalize ht : bs.take n = ts at *
      replace hd := Lib.hid hd
      replace ht := Lib.hid ht
      clear h1 hv
      by_cases q5 : cap = n
      all_goals
        first | rw [if_pos q5] at h2 | rw [if_neg q5] at h2
        rcases A with _ | ⟨b, o, sp⟩
      all_goals
        try simp only [Option.map_some, Option.map_none] at h2
        have hv2 := Lib.hid h2
        clear h2
        try subst q5
        replace hv1 := Lib.hid hv1
        replace l1 := Lib.hid l1
        replace l2 := Lib.hid l2
        replace hx := Lib.hid hx
        replace hne := Lib.hid hne
        go_enter Try.func78, Try.ntmps78
        go_wp2_with fail
        go_ret2
        have hu := fun u => (Upd.refl (fun b => b = q) w).setCell (p := ⟨q, 0, none⟩) (.inr rfl) u
        refine ⟨⟨_, rfl, View.upd hv1.out (hu _) (fun b' e1 e2 => hne.out (by subst e2; exact e1))⟩, ⟨_, hx'.out.set 0 _, ?_, fun e1 => hne.out (by first | exact e1 | (unfold blockOf at e1 ⊢; simp only [add_block] at e1; exact e1))⟩, hu _⟩
        unfold VB
        rw [l2.out]
        refine View.upd (by first | exact hv2.out | (have := hv2.out; simp only [Nat.sub_self, show bs.length - cap = 0 by omega] at this ⊢; exact this)) (hu _) (fun b' e1 e2 => hne.out (by subst e2; first | exact e1 | (unfold blockOf at e1 ⊢; simp only [add_block] at e1; exact e1)))

/-- The number that k bytes spell. -/
def dec (bs : List Int) : Nat → Int
  | 0 => 0
  | k + 1 => bits .or .u64 (dec bs k) (IntKind.u64.wrap (IntKind.u64.wrap (bs.getD k 0) * 2 ^ (8 * k)))
def rnum (st : Option (List Int)) (n : Nat) : Int := match (rtake st n).1 with
  | none => 0
  | some bs => dec bs bs.length

set_option maxRecDepth 100000 in
set_option maxHeartbeats 8000000 in
theorem rnumber_any (w : World) (q : Nat) (st : Option (List Int)) (n : Nat) (h : Rr w q st) (hn : n ≤ 8) :
    Calls Try.prog 79 #[.pointer (some ⟨q, 0, none⟩), .int .i64 n] w fun e w' => e = .returned (.int .u64 (rnum st n)) ∧ Rr w' q (rtake st n).2 ∧ Upd (fun b => b = q) w w' := by
  have kt := Lib.hid (take_any w q st n h (by omega))
  have hlen : ∀ bs, (rtake st n).1 = some bs → bs.length = n := fun bs e => by
    unfold rtake at e
    split at e
    · cases e
    · split at e
      · cases e
      · cases e; rw [List.length_take]; omega
  unfold rnum
  cases ht : (rtake st n).1 with
  | none =>
    rw [ht] at kt
    go_enter Try.func79, Try.ntmps79
    go_wp2_with fail
    refine kt.out.mono ?_; rintro e w1 ⟨⟨v, rfl, hv⟩, h1, hu1⟩
    go_wp2_with fail
    go_ret
    exact ⟨rfl, h1, hu1⟩
  | some bs =>
    rw [ht] at kt
    have hl := hlen bs ht
    go_enter Try.func79, Try.ntmps79
    go_wp2_with fail
    refine kt.out.mono ?_; rintro e w1 ⟨⟨v, rfl, hv⟩, h1, hu1⟩
    obtain ⟨A, cap, rfl, hc, hcm⟩ := hv.cells
    replace hv : VB w1 (.slice A bs.length cap) bs := hv
    simp only [Option.getD_some]
    clear kt
    replace hlen := Lib.hid hlen
    go_wp2_with fail
    go_loop [7, 20] (fun a i => ∃ k : Nat, k ≤ bs.length ∧ i = .int .i64 k ∧ a = .int .u64 (dec bs k)) (fun _ i => bs.length - (intOf i).toNat)
    case atStart => exact ⟨0, by omega, rfl, rfl⟩
    case round =>
      obtain ⟨k, hk, rfl, rfl⟩ := hrel
      by_cases hlt : k < bs.length
      · have q1 : (k : Int) < (bs.length : Int) := by omega
        obtain ⟨b, o, c', e, _, _, hbl, hcc⟩ := View.at_ hv (by omega)
        injection e with e1 e2 e3
        subst e1 e3
        have d0 : w1.cell? ⟨b, o + k, none⟩ = some (bv (bs.getD k 0)) := hcc k _ (by simp [hlt, List.getD_eq_getElem?_getD])
        unfold bv at d0
        have ew : IntKind.i64.wrap (8 * (k : Int)) = ((8 * k : Nat) : Int) := by rw [IntKind.wrap_i64]; omega
        have hd : dec bs (k + 1) = bits .or .u64 (dec bs k) (IntKind.u64.wrap (IntKind.u64.wrap (bs.getD k 0) * 2 ^ (8 * k))) := rfl
        generalize bs.getD k 0 = cv at *
        replace hd := Lib.hid hd
        clear hcc
        go_wp2_with fail
        go_round
        case rel => exact ⟨k + 1, by omega, by go_num, by rw [hd.out]⟩
        case measure => simp [intOf]; omega
      · obtain rfl : k = bs.length := by omega
        have q1 : ¬ (bs.length : Int) < (bs.length : Int) := by omega
        go_wp2_with fail
        go_ret
        exact ⟨rfl, h1, hu1⟩

set_option maxHeartbeats 4000000 in
theorem rint_any (w : World) (q : Nat) (st : Option (List Int)) (h : Rr w q st) :
    Calls Try.prog 74 #[.pointer (some ⟨q, 0, none⟩)] w fun e w' => e = .returned (.int .i64 (wrap64 (rnum st 8))) ∧ Rr w' q (rtake st 8).2 ∧ Upd (fun b => b = q) w w' := by
  have k := Lib.hid (rnumber_any w q st 8 h (by decide))
  go_enter Try.func74, Try.ntmps74
  go_wp2_with fail
  refine k.out.mono ?_; rintro e w1 ⟨rfl, h1, hu1⟩
  go_wp2_with fail
  go_ret
  exact ⟨rfl, h1, hu1⟩

/-- What is left behind a text. -/
def rtext (st : Option (List Int)) : Option (List Int) := (rtake (rtake st 2).2 (rnum st 2).toNat).2
set_option maxRecDepth 100000 in
set_option maxHeartbeats 4000000 in
theorem rtext_any (w : World) (q : Nat) (st : Option (List Int)) (h : Rr w q st) (h0 : 0 ≤ rnum st 2) (h1 : rnum st 2 < 65536) :
    Calls Try.prog 73 #[.pointer (some ⟨q, 0, none⟩)] w fun e w' => (∃ s, e = .returned (.string s)) ∧ Rr w' q (rtext st) ∧ Upd (fun b => b = q) w w' := by
  have k := Lib.hid (rnumber_any w q st 2 h (by decide))
  unfold rtext
  obtain ⟨m, hm⟩ : ∃ m : Nat, rnum st 2 = m := ⟨(rnum st 2).toNat, by omega⟩
  rw [hm] at k h0 h1 ⊢
  rw [Int.toNat_natCast]
  have hw : IntKind.i64.wrap (m : Int) = (m : Int) := by rw [IntKind.wrap_i64]; omega
  generalize (rtake st 2).2 = st2 at *
  clear hm h
  go_enter Try.func73, Try.ntmps73
  go_wp2_with fail
  refine k.out.mono ?_; rintro e w1 ⟨rfl, hr1, hu1⟩
  have k2 := Lib.hid (take_any w1 q st2 m hr1 (by omega))
  clear k
  go_wp2_with fail
  refine k2.out.mono ?_; rintro e w2 ⟨⟨v, rfl, hv⟩, hr2, hu2⟩
  have hu := Lib.hid (hu1.trans hu2 (fun _ _ h => h))
  clear k2
  obtain ⟨A, cap, rfl, hc, hcm⟩ := hv.cells
  have hcv := conv_any w2 _ _ hv
  generalize (rtake st2 m).1.isSome = okb at *
  cases okb
  all_goals
    go_wp2_with fail
    go_ret
    exact ⟨⟨_, rfl⟩, hr2, hu.out⟩

set_option maxHeartbeats 4000000 in
theorem reader_any (w : World) (v : Value) (bs : List Int) (h : VB w v bs) (hl : bs.length ≤ 1000000) :
    Calls Try.prog 72 #[v] w fun e w' => ∃ q, e = .returned (.pointer (some ⟨q, 0, none⟩)) ∧ w.heap.size ≤ q ∧ Rr w' q (some bs) ∧ Below w.heap.size w w' := by
  have k := Lib.hid (cloneB w v bs h hl)
  go_enter Try.func72, Try.ntmps72
  go_wp2_with fail
  refine k.out.mono ?_; rintro e w1 ⟨v1, rfl, ho1, hb1⟩
  have hlt := fun b (hb : blockOf v1 = some b) => own_lt ho1 ((block_own v1).symm.trans hb)
  have hv := ho1.view
  obtain ⟨A, c, rfl, _, _, _⟩ := own_shape ho1
  clear k ho1 h
  replace hv := Lib.hid hv
  go_wp2_with fail
  go_ret
  exact ⟨_, rfl, hb1.size, ⟨_, Whole.new w1 103 #[.slice A bs.length c, .bool false], View.alloc hv.out _, fun e => by have := (hlt _ e).2; omega⟩, hb1.alloc hb1.size _⟩
end Go.Proofs.Ytbfcaapompkjhaa
