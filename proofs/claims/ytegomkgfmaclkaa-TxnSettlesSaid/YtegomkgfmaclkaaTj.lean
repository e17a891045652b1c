/-
  tree: part.add by its contract, for parts of every height.
-/
import Derived.Test.YtegomkgfmaclkaaTi
set_option linter.unusedVariables false
set_option linter.unusedSimpArgs false
namespace Go.Proofs.Ytegomkgfmaclkaa
open Go.RowKit Go.Proofs.PosteOrd Go.Proofs.PosteMem

theorem Keeps.belowB {B : Nat} {w w' : World} (k : Below B w w') : Keeps (fun b => b < B) w w' :=
  ⟨fun b => B ≤ b, ⟨k.os, k.tape, k.output, k.size, fun b _ hs => k.block b (by omega)⟩, fun b hb => by omega⟩
theorem view_lt {W : World} {sz n : Nat} {v : Value} {xs : List Value} (h : View W sz v n xs) (h0 : 0 < n) (hs : 0 < sz) : ∀ b, blockOf v = some b → b < W.heap.size := fun b hb => by
  obtain ⟨b', off, cap, e, _, _, hlt, _⟩ := h.at_ (Nat.mul_pos h0 hs)
  rw [e] at hb
  have hb' : some b' = some b := hb
  injection hb' with hb'
  omega
/-- All its blocks are there. -/
theorem PAt.lt {W : World} {K : Nat → Prop} : ∀ (h q : Nat) (t : T h), PAt W K h q t → PAt W (fun b => K b ∧ b < W.heap.size) h q t
  | 0, q, l, H => by
    obtain ⟨h1, v, h2, h3, h4⟩ := H
    exact ⟨⟨h1, h2.lt⟩, v, h2, h3, fun h0 b hb => ⟨h4 h0 b hb, view_lt h3 h0 (by decide) b hb⟩⟩
  | h + 1, q, kids, H => by
    obtain ⟨h1, v, qs, h2, h3, h4, h5, h6⟩ := H
    exact ⟨⟨h1, h2.lt⟩, v, qs, h2, h3, h4, fun h0 b hb => ⟨h5 h0 b hb, view_lt h4 h0 (by decide) b hb⟩, fun i a t ht => PAt.lt h _ t (h6 i a t ht)⟩

set_option maxRecDepth 100000 in
set_option maxHeartbeats 8000000 in
theorem partAdd_any : ∀ (h : Nat) (w : World) (B q : Nat) (t : T h) (out : Value) (L : List Row), PAt w (fun b => b < B) h q t → ORows w B out L → B ≤ w.heap.size → L.length + (rowsT h t).length ≤ 1000000 →
    Calls Try.prog 82 #[.agg #[.pointer (pa h q), .pointer (pb h q)], out] w fun e w' => ∃ v', e = .returned v' ∧ ORows w' B v' (L ++ rowsT h t) ∧ Below B w w'
  | 0, w, B, q, M, out, L, H, ho, hB, hm => by
    obtain ⟨i0, hi0, hz0, hz1, hz2⟩ := info_parts infoRow
    obtain ⟨M, rfl⟩ : ∃ x : List Row, x = M := ⟨M, rfl⟩
    obtain ⟨_, v, hx, hv, _⟩ := H.leaf
    have hm' : L.length + M.length ≤ 1000000 := hm
    have hb0 := (Below.refl w.heap.size w).alloc (Nat.le_refl _) (.cells #[ptr q, .pointer none] 108)
    have hx1 := hx.below hb0
    have hv1 := Lib.hid (View.below hv hb0)
    have hbx := Whole.new w 108 #[ptr q, .pointer none]
    obtain ⟨A, cap, rfl, _, _⟩ := hv.cells
    have p0 := hbx.cell 0
    have hq := hx1.lt
    have c2 := hx1.cell 2
    have ho1 := Lib.hid (own_below ho hb0)
    have hB0 := Lib.hid (hb0.mono hB)
    have hs1 : B ≤ (w.alloc (.cells #[ptr q, .pointer none] 108)).heap.size := Nat.le_trans hB hb0.size
    show Calls Try.prog _ _ w fun e w' => ∃ v', e = .returned v' ∧ ORows w' B v' (L ++ M) ∧ Below B w w'
    clear hx hv H ho hb0
    simp only [pa, pb]
    go_enter Try.func82, Try.ntmps82
    go_wp2_with (at_builtin; refine wpList_append_view _ rfl (.tmp 10) (.tmp 15) _ rfl B 31 i0 zRow 2 32 Try.underlying22 hi0 hz0 hz1 hz2 rfl (by decide) _ L.length _ rfl ho1.out _ M.length _ rfl hv1.out (Row.one M) (by omega) (by simp only [maxLen]; omega) hs1 ?_; intro v5 w5 hown5 hg5 hat5)
    go_ret
    exact ⟨_, rfl, rows_app hown5, hB0.out.grown hg5 hs1 (fun j hj => (ho1.out.lt j hj).1)⟩
  | h + 1, w, B, q, kids, out, L, H, ho, hB, hm => by
    obtain ⟨kids, rfl⟩ : ∃ x : List (T h), x = kids := ⟨kids, rfl⟩
    obtain ⟨_, v, hx, hv⟩ := H.inner
    have hm' : L.length + (List.flatMap (rowsT h) kids).length ≤ 1000000 := hm
    have hb0 := (Below.refl w.heap.size w).alloc (Nat.le_refl _) (.cells #[.pointer none, ptr q] 108)
    have hx1 := hx.below hb0
    have hbx := Whole.new w 108 #[.pointer none, ptr q]
    obtain ⟨A, cap, rfl, hcl, hcm⟩ := hv.cells
    have hkl : kids.length ≤ 9223372036854775807 := Nat.le_trans hcl (Nat.le_trans hcm (by decide))
    have p0 := hbx.cell 0
    have p1 := hbx.cell 1
    have hq := hx1.lt
    have c2 := hx1.cell 2
    have ho1 := Lib.hid (own_below ho hb0)
    have hB0 := Lib.hid (hb0.mono hB)
    have hs1 : B ≤ (w.alloc (.cells #[.pointer none, ptr q] 108)).heap.size := Nat.le_trans hB hb0.size
    show Calls Try.prog _ _ w fun e w' => ∃ v', e = .returned v' ∧ ORows w' B v' (L ++ List.flatMap (rowsT h) kids) ∧ Below B w w'
    have hvs : 0 < kids.length → ∃ b off, A = some ⟨b, off, none⟩ ∧ b < B ∧ ∀ (i : Nat) (hi : i < kids.length), ∃ q, PAt w (fun b => b < B) h q kids[i] ∧ w.cell? ⟨b, off + i * 2, none⟩ = some (.pointer (pa h q)) ∧ w.cell? ⟨b, off + i * 2 + 1, none⟩ = some (.pointer (pb h q)) := fun h0 => by
      obtain ⟨b, off, cap', e, _, _, _, hat⟩ := hv.at_ h0
      injection e with e1 e2 e3
      subst e1
      obtain ⟨_, _, _, hK, _⟩ := hv
      exact ⟨b, off, rfl, hK h0 b rfl, hat⟩
    have hsu := sumK_le h kids
    have htk : ∀ k (hk : k < kids.length), List.flatMap (rowsT h) (kids.take (k + 1)) = List.flatMap (rowsT h) (kids.take k) ++ rowsT h kids[k] := fun k hk => by
      rw [List.take_succ_eq_append_getElem hk, List.flatMap_append]
      simp [List.flatMap]
    have hta : List.flatMap (rowsT h) (kids.take kids.length) = List.flatMap (rowsT h) kids := by rw [List.take_length]
    have IH := fun (W : World) (hW : Below B w W) (k : Nat) (hk : k < kids.length) (q : Nat) (hp : PAt w (fun b => b < B) h q kids[k]) (o : Value) (ho : ORows W B o (L ++ List.flatMap (rowsT h) (kids.take k))) => partAdd_any h W B q kids[k] o _ (PAt.keep (Keeps.belowB hW) h q _ hp) ho (Nat.le_trans hB hW.size) (by
      have h9 := hsu (k + 1)
      unfold sumK at h9
      rw [htk k hk] at h9
      simp only [List.length_append] at h9 ⊢
      omega)
    have ho1' : ORows (w.alloc (.cells #[.pointer none, ptr q] 108)) B out (L ++ List.flatMap (rowsT h) (kids.take 0)) := by rw [List.take_zero, List.flatMap_nil, List.append_nil]; exact ho1.out
    replace hvs := Lib.hid hvs
    replace htk := Lib.hid htk
    replace hta := Lib.hid hta
    replace IH := Lib.hid IH
    replace ho1' := Lib.hid ho1'
    clear hx hv H ho hb0 ho1 hsu hm hm'
    simp only [pa, pb]
    go_enter Try.func82, Try.ntmps82
    go_upto_region 4 with fail
    go_loopw [1, 23] (fun o i wr => ∃ (k : Nat) (o0 : Value), k ≤ kids.length ∧ o = o0 ∧ i = .int .i64 k ∧ ORows wr B o0 (L ++ List.flatMap (rowsT h) (kids.take k)) ∧ Below B w wr) (fun _ i _ => kids.length - (intOf i).toNat)
    case atStart => exact ⟨0, _, by omega, rfl, rfl, ho1'.out, hB0.out⟩
    case round =>
      clear ho1' hB0
      obtain ⟨k, o0, hk, rfl, rfl, ho, hBr⟩ := hrel
      by_cases hlt : k < kids.length
      · have q1 : (k : Int) < (kids.length : Int) := by omega
        obtain ⟨b, off, rfl, hbB, hat⟩ := hvs.out (by omega)
        obtain ⟨qk, a1, a2, a3⟩ := hat k hlt
        have p0 := (hBr.cell (p := ⟨b, off + k * 2, none⟩) hbB).trans a2
        have p1 := (hBr.cell (p := ⟨b, off + k * 2 + 1, none⟩) hbB).trans a3
        have hbl : b < wr.heap.size := Nat.lt_of_lt_of_le hbB (Nat.le_trans hB hBr.size)
        have hBa := hBr.alloc (Nat.le_trans hB hBr.size) (.cells #[.pointer (pa h qk), .pointer (pb h qk)] 108)
        have kA := IH.out _ hBa k hlt qk a1 _ (own_below ho ((Below.refl _ _).alloc (Nat.le_refl _) _))
        have ht := htk.out k hlt
        rw [List.append_assoc, ← ht] at kA
        generalize pa h qk = a0 at *
        generalize pb h qk = b0 at *
        replace kA := Lib.hid kA
        replace hBa := Lib.hid hBa
        clear hat a1 a2 a3 ho hBr ht
        go_wp2_with fail
        refine kA.out.mono ?_; rintro e w5 ⟨v5, rfl, ho5, hb5⟩
        have hB5 := Lib.hid (hBa.out.trans hb5)
        replace ho5 := Lib.hid ho5
        clear kA hb5
        go_wp2_with fail
        go_roundw
        case rel => exact ⟨k + 1, _, by omega, rfl, by go_num, ho5.out, hB5.out⟩
        case measure => simp [intOf]; omega
      · obtain rfl : k = kids.length := by omega
        have q1 : ¬ (kids.length : Int) < (kids.length : Int) := by omega
        rw [hta.out] at ho
        replace ho := Lib.hid ho
        go_wp2_with fail
        go_ret
        exact ⟨_, rfl, ho.out, hBr⟩
end Go.Proofs.Ytegomkgfmaclkaa
