/-
  tree: inner.kid by its contract.
-/
import Derived.Test.YtegomkgfmaclkaaTf
set_option linter.unusedVariables false
set_option linter.unusedSimpArgs false
namespace Go.Proofs.Ytegomkgfmaclkaa
open Go.RowKit Go.Proofs.PosteOrd Go.Proofs.PosteMem

theorem lastN_next {α : Type} (f : α → Bool) (l : List α) (k : Nat) (hk : k < l.length) : lastN f l (k + 1) = if f l[k] = true then k else lastN f l k := by
  show (if (l[k]?.map f).getD false = true then k else lastN f l k) = _
  rw [List.getElem?_eq_getElem hk]
  rfl
set_option maxRecDepth 100000 in
set_option maxHeartbeats 4000000 in
theorem kid_any {w : World} {K : Nat → Prop} {h q : Nat} {kids : List (T h)} (H : PAt w K (h + 1) q kids) (key : ByteArray) (h0 : 0 < kids.length) (hl : kids.length ≤ 1000000) : Calls Try.prog 98 #[ptr q, .string key] w fun e w' => e = .returned (.int .i64 (kidT h kids key)) ∧ Below w.heap.size w w' := by
  obtain ⟨_, v, hx, HP⟩ := H.inner
  obtain ⟨b, off, cap, rfl, hbl, hcl, hcm, hat⟩ := HP.at_ h0
  have c2 := hx.cell 2
  have hq := hx.lt
  unfold kidT
  have hf := lastN_next (fun k => decide (¬ lt key (firstT h k))) kids
  have hl0 : lastN (fun k => decide (¬ lt key (firstT h k))) kids 0 = 0 := rfl
  generalize lastN (fun k => decide (¬ lt key (firstT h k))) kids = F at *
  replace hf := Lib.hid hf
  replace hat := Lib.hid hat
  clear hx HP H
  go_enter Try.func98, Try.ntmps98
  go_upto_region 3 with fail
  go_loopw [5, 13] (fun n i wr => ∃ k : Nat, k ≤ kids.length ∧ i = .int .i64 k ∧ n = .int .i64 (F k : Nat) ∧ Below w.heap.size w wr) (fun _ i _ => kids.length - (intOf i).toNat)
  case atStart => exact ⟨0, by omega, rfl, by rw [hl0]; rfl, Below.refl _ _⟩
  case round =>
    clear hl0
    obtain ⟨k, hk, rfl, rfl, hB⟩ := hrel
    by_cases hlt : k < kids.length
    · have q1 : (k : Int) < (kids.length : Int) := by omega
      obtain ⟨qk, a1, a2, a3⟩ := hat.out k hlt
      have p0 := (hB.cell (p := ⟨b, off + k * 2, none⟩) hbl).trans a2
      have p1 := (hB.cell (p := ⟨b, off + k * 2 + 1, none⟩) hbl).trans a3
      have hBk := hB.alloc hB.size (.cells #[.pointer (pa h qk), .pointer (pb h qk)] 108)
      have kS : Calls Try.prog 101 #[.agg #[.pointer (pa h qk), .pointer (pb h qk)]] (wr.alloc (.cells #[.pointer (pa h qk), .pointer (pb h qk)] 108)) _ := first_any (a1.below hBk)
      have hfk := hf.out k hlt
      generalize firstT h kids[k] = key2 at *
      generalize pa h qk = a0 at *
      generalize pb h qk = b0 at *
      replace kS := Lib.hid kS
      replace hBk := Lib.hid hBk
      by_cases hlt2 : lt key key2
      · have hfk2 : F (k + 1) = F k := by rw [hfk, decide_eq_false (fun c => c hlt2)]; rfl
        have q2 : Op.bytesLess key2.toList key.toList = false := less_asymm _ _ (cmpL_neg.1 hlt2)
        have q3 : (key2.toList == key.toList) = false := by
          cases hc : (key2.toList == key.toList) with
          | false => rfl
          | true =>
            have he : key2.toList = key.toList := by simpa using hc
            have hx := cmpL_neg.1 hlt2
            rw [he, less_irrefl] at hx
            cases hx
        generalize F k = n at *
        replace hfk2 := Lib.hid hfk2
        clear hB a1 a2 a3 hfk
        go_wp2_with fail
        refine kS.out.mono ?_; rintro e w3 ⟨rfl, hb3⟩
        have hB3 := Lib.hid (hBk.out.trans (hb3.mono hBk.out.size))
        clear hb3
        go_wp2_with fail
        go_roundw
        case rel => exact ⟨k + 1, by omega, by go_num, by rw [hfk2.out], hB3.out⟩
        case measure => simp [intOf]; omega
      · have hfk2 : F (k + 1) = k := by rw [hfk, decide_eq_true hlt2]; rfl
        have q2 : Op.bytesLess key2.toList key.toList = true ∨ (key2.toList == key.toList) = true := by
          cases hc : Op.bytesLess key2.toList key.toList with
          | true => exact .inl rfl
          | false =>
            right
            have hd : Op.bytesLess key.toList key2.toList = false := by
              cases hc : Op.bytesLess key.toList key2.toList with
              | false => rfl
              | true => exact absurd (cmpL_neg.2 hc) hlt2
            rw [less_total _ _ hc hd]
            simp
        generalize F k = n at *
        replace hfk2 := Lib.hid hfk2
        clear hB a1 a2 a3 hfk
        go_wp2_with fail
        refine kS.out.mono ?_; rintro e w3 ⟨rfl, hb3⟩
        have hB3 := Lib.hid (hBk.out.trans (hb3.mono hBk.out.size))
        clear hb3
        go_wp2_with fail
        rotate_left
        · exfalso
          have hc : Op.bytesLess key2.toList key.toList = false ∧ (key2.toList == key.toList) = false := by assumption
          rcases q2 with q | q
          · rw [hc.1] at q; cases q
          · rw [hc.2] at q; cases q
        go_roundw
        case rel => exact ⟨k + 1, by omega, by go_num, by rw [hfk2.out], hB3.out⟩
        case measure => simp [intOf]; omega
    · obtain rfl : k = kids.length := by omega
      have q1 : ¬ (kids.length : Int) < (kids.length : Int) := by omega
      go_wp2_with fail
      go_ret
      exact ⟨rfl, hB⟩
end Go.Proofs.Ytegomkgfmaclkaa
