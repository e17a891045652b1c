/-
  CursorAll: its walk.
-/
import Derived.Test.YtegomkgfmaclkaaTq
import Derived.Test.YtegomkgfmaclkaaRs
set_option linter.unusedVariables false
set_option linter.unusedSimpArgs false
namespace Go.Proofs.Ytegomkgfmaclkaa
open Go.RowKit Go.Proofs.PosteOrd Go.Proofs.PosteMem Go.Proofs.PosteOpen

theorem pos_eq {L : List Row} {key : ByteArray} {i : Nat} (hi : i ≤ L.length) (h1 : ∀ j (hj : j < L.length), j < i → lt L[j].key key) (h2 : ∀ hj : i < L.length, ¬ lt L[i].key key) : pos L key = i := by
  induction L generalizing i with
  | nil => simp at hi; subst hi; rfl
  | cons x L ih =>
    rw [pos_cons]
    rcases i with _ | i
    · have h3 : ¬ lt x.key key := h2 (Nat.succ_pos _)
      rw [if_neg h3]
    · have h3 : lt x.key key := h1 0 (Nat.succ_pos _) (Nat.succ_pos _)
      rw [if_pos h3, ih (i := i) (by simpa using hi) (fun j hj hji => h1 (j + 1) (by simpa using hj) (by omega)) (fun hj => h2 (by simpa using hj))]
theorem pos_empty (L : List Row) : pos L ⟨#[]⟩ = 0 := pos_eq (Nat.zero_le _) (fun j _ hj => absurd hj (Nat.not_lt_zero _)) fun hj => by
  unfold lt
  rw [cmpL_neg, show (⟨#[]⟩ : ByteArray).toList = [] by rw [ByteArray.toList_eq], less_nil]
  decide
theorem srt_lt {L : List Row} (h : Srt L) {i j : Nat} (hij : i < j) (hj : j < L.length) : lt (L[i]'(by omega)).key L[j].key := List.pairwise_iff_getElem.1 h i j (by omega) hj hij
theorem pos_next {L : List Row} (h : Srt L) {i : Nat} (hi : i < L.length) : pos L (L[i].key ++ ⟨#[0]⟩) = i + 1 := by
  refine pos_eq hi (fun j hj hji => ?_) (fun hj => ?_)
  · unfold lt
    rw [next_toList, cmpL_next_iff]
    by_cases hji2 : j = i
    · subst hji2; rw [cmpL_self]; omega
    · have := srt_lt h (show j < i by omega) hi
      unfold lt at this
      omega
  · unfold lt
    rw [next_toList, cmpL_next_iff]
    have := srt_lt h (show i < i + 1 by omega) hj
    unfold lt at this
    rw [cmpL_swap]
    omega
theorem putAll_mem {L : List Row} {y : Row} (h : y ∈ putAll L) : y ∈ L := by
  have : ∀ (L M : List Row), y ∈ L.foldl putS M → y ∈ M ∨ y ∈ L := by
    intro L
    induction L with
    | nil => intro M h; exact .inl h
    | cons x L ih =>
      intro M h
      rcases ih (putS M x) h with h | h
      · rcases putS_mem h with rfl | h
        · exact .inr List.mem_cons_self
        · exact .inl h
      · exact .inr (List.mem_cons_of_mem _ h)
  rcases this L [] h with h | h
  · cases h
  · exact h
theorem putAll_ok {L : List Row} (h : RowsOk L) (k : Nat) : RowsOk (putAll (L.take k)) := fun r hr => h r (List.mem_of_mem_take (putAll_mem hr))

set_option maxRecDepth 100000 in
set_option maxHeartbeats 8000000 in
theorem alive9 (w : World) : Calls Try.prog 39 #[] w fun e w' => e = .returned (.bool true) ∧ Below w.heap.size w w' := by
  have kN := Lib.hid (tnew_any (w := w) (v := .slice none 0 0) (L := []) (View.nil _ _) (by decide))
  go_enter Try.func39, Try.ntmps39
  go_wp2_with fail
  refine kN.out.mono ?_; rintro e w1 ⟨g, rfl, hg, hT, hb1⟩
  have kC := Lib.hid (cnew_any hT)
  replace hb1 := Lib.hid hb1
  clear kN hT
  go_wp2_with fail
  refine kC.out.mono ?_; rintro e w2 ⟨rfl, hC, hb2⟩
  have hB2 := Lib.hid (below_then hb1.out hb2)
  have hba := (Below.refl w2.heap.size w2).alloc (Nat.le_refl _) (.cells #[.string ⟨#[97]⟩, .string ⟨#[]⟩] 31)
  have hv : VRows (w2.alloc (.cells #[.string ⟨#[97]⟩, .string ⟨#[]⟩] 31)) (.slice (some ⟨w2.heap.size, 0, none⟩) 1 1) [⟨⟨#[97]⟩, ⟨#[]⟩⟩] := View.boxAt _ [.string ⟨#[97]⟩, .string ⟨#[]⟩] _ _ rfl rfl
  have kN := Lib.hid (tnew_any hv (by decide))
  have hC2 := Lib.hid (hC.below hba)
  have hB3 := Lib.hid (hB2.out.trans (hba.mono hB2.out.size))
  generalize w1.heap.size = c1 at *
  clear kC hb2 hba hv hC hb1
  go_wp2_with fail
  refine kN.out.mono ?_; rintro e w4 ⟨g2, rfl, hg2, hT2, hb4⟩
  have hC4 := hC2.out.below hb4
  have hB4 := hB3.out.trans (hb4.mono hB3.out.size)
  have kC2 := Lib.hid (cnew_any hT2)
  replace hC4 := Lib.hid hC4
  replace hB4 := Lib.hid hB4
  clear kN hT2 hb4
  go_wp2_with fail
  refine kC2.out.mono ?_; rintro e w5 ⟨rfl, hD, hb5⟩
  have hC5 := hC4.out.below hb5
  have hB5 := hB4.out.trans (hb5.mono hB4.out.size)
  have kX := cnext_any hC5 (fun r hr => by cases hr)
  have hn0 : (putAll ([] : List Row))[pos (putAll ([] : List Row)) ⟨#[]⟩]? = none := rfl
  rw [hn0] at kX
  simp only [resC] at kX
  replace kX := Lib.hid kX
  replace hD := Lib.hid hD
  replace hB5 := Lib.hid hB5
  have hc2 : w.heap.size ≤ w4.heap.size := hB4.out.size
  generalize w4.heap.size = c2 at *
  clear kC2 hb5 hC5 hn0
  go_wp2_with fail
  refine kX.out.mono ?_; rintro e w6 ⟨rfl, _, _, hb6⟩
  replace hb6 := by first | exact hb6 rfl | exact hb6 trivial
  have hD6 := hD.out.below hb6
  have hB6 := hB5.out.trans (hb6.mono hB5.out.size)
  have hba := (Below.refl w6.heap.size w6).alloc (Nat.le_refl _) (.cells #[.string ⟨#[]⟩, .string ⟨#[]⟩] 31)
  have kY := cnext_any (hD6.below hba) (fun r hr => by
    have : r ∈ ([⟨⟨#[97]⟩, ⟨#[]⟩⟩] : List Row) := hr
    rw [List.mem_singleton] at this
    subst this
    decide)
  have hn1 : (putAll ([⟨⟨#[97]⟩, ⟨#[]⟩⟩] : List Row))[pos (putAll ([⟨⟨#[97]⟩, ⟨#[]⟩⟩] : List Row)) ⟨#[]⟩]? = some ⟨⟨#[97]⟩, ⟨#[]⟩⟩ := by rw [pos_empty]; rfl
  rw [hn1] at kY
  simp only [resC] at kY
  have hB7 := Lib.hid (hB6.trans (hba.mono hB6.size))
  replace kY := Lib.hid kY
  clear kX hb6 hD6 hB6 hba hn1
  go_wp2_with fail
  refine kY.out.mono ?_; rintro e w8 ⟨rfl, _, hU8, _⟩
  have hB8 := hB7.out.trans (hU8.below hB7.out.size (fun b hb => by omega))
  have hB9 := Lib.hid (hB8.alloc hB8.size (.cells #[.string ⟨#[97]⟩, .string ⟨#[]⟩] 31))
  clear kY hU8 hB8
  go_wp2_with fail
  go_ret
  exact ⟨rfl, hB9.out⟩

set_option maxRecDepth 100000 in
set_option maxHeartbeats 8000000 in
theorem cursorAll_core (w : World) (v : Value) (l : List Row) (key : ByteArray) (h : VRows w v l) (hok : RowsOk l) (hk : key.size ≤ 140737488351232) :
    Calls Try.prog 9 #[v, .string key] w fun e w' => e = .returned (.bool true) ∧ Below w.heap.size w w' := by
  obtain ⟨A, cap, rfl, _, _⟩ := View.cells h
  replace h := Lib.hid h
  by_cases hm : 60 < l.length
  · have q1 : (60 : Int) < (l.length : Int) := by omega
    go_enter Try.func9, Try.ntmps9
    go_wp2_with fail
    refine (alive9 _).mono ?_; rintro e w1 ⟨rfl, hb1⟩
    go_wp2_with fail
    go_ret
    exact ⟨rfl, hb1⟩
  have q1 : ¬ (60 : Int) < (l.length : Int) := by omega
  replace hok := Lib.hid hok
  go_enter Try.func9, Try.ntmps9
  go_wp2_with fail
  refine (alive9 _).mono ?_; rintro e w1 ⟨rfl, hb1⟩
  have kN := Lib.hid (tnew_any (View.below h.out hb1) (by omega))
  replace hb1 := Lib.hid hb1
  go_wp2_with fail
  refine kN.out.mono ?_; rintro e w2 ⟨g, rfl, hg, hT, hb2⟩
  have hB2 := below_then hb1.out hb2
  clear kN hb2 hb1
  go_upto_region 7 with fail
  clear q1
  have e1 : decide ((60 : Int) < (l.length : Int)) = false := decide_eq_false (by omega)
  simp only [e1]
  clear e1
  go_loopw [7, 8] (fun o i wr => ∃ (k : Nat) (o0 : Value), k ≤ l.length ∧ o = o0 ∧ i = .int .i64 k ∧ ORows wr w.heap.size o0 (putAll (l.take k)) ∧ Tr wr g (putAll l) ∧ Below w.heap.size w wr) (fun _ i _ => l.length - (intOf i).toNat)
  case atStart => exact ⟨0, _, by omega, rfl, rfl, World.ownsRow_nil _ _ _ _, hT, hB2⟩
  case round =>
    clear hT hB2
    obtain ⟨k, o0, hk2, rfl, rfl, ho, hT, hB⟩ := hrel
    by_cases hlt : k < l.length
    · have q1 : (k : Int) < (l.length : Int) := by omega
      obtain ⟨b, off, cap', e, _, _, hbl, hat⟩ := rows_at h.out (by omega)
      injection e with e1 e2 e3
      subst e1 e3
      obtain ⟨a2, a3⟩ := hat k hlt
      have p0 := (hB.cell (p := ⟨b, off + k * 2, none⟩) hbl).trans a2
      have p1 := (hB.cell (p := ⟨b, off + k * 2 + 1, none⟩) hbl).trans a3
      have hbl2 : b < wr.heap.size := Nat.lt_of_lt_of_le hbl hB.size
      have hks := hok.out _ (List.getElem_mem hlt)
      have hpl := putAll_len (l.take k)
      rw [List.length_take] at hpl
      have kP := refPut_any (x := l[k]) (View.of_own ho) (by omega) (putAll_ok hok.out k) hks
      rw [← putAll_succ hlt] at kP
      generalize l[k] = x at *
      obtain ⟨xk, xv⟩ := x
      simp only at p0 p1 kP
      replace kP := Lib.hid kP
      replace hT := Lib.hid hT
      replace hB := Lib.hid hB
      clear hat a2 a3 ho hks
      go_wp2_with fail
      refine kP.out.mono ?_; rintro e w5 ⟨v5, rfl, ho5, hb5⟩
      have ho5' := Lib.hid (own_mono ho5 hB.out.size)
      have hT5 := Lib.hid (hT.out.below hb5)
      have hB5 := Lib.hid (hB.out.trans (hb5.mono hB.out.size))
      clear kP ho5 hb5 hT
      go_wp2_with fail
      go_roundw
      case rel => exact ⟨k + 1, _, by omega, rfl, by go_num, ho5'.out, hT5.out, hB5.out⟩
      case measure => simp [intOf]; omega
    · obtain rfl : k = l.length := by omega
      have q1 : ¬ (l.length : Int) < (l.length : Int) := by omega
      rw [List.take_length] at ho
      have hsr := hT.srt
      have hpok : RowsOk (putAll l) := by have := putAll_ok hok.out l.length; rw [List.take_length] at this; exact this
      have hpl := putAll_len l
      have hv := View.of_own ho
      have hv2 : VRows wr _ (putAll l) := hv
      generalize putAll l = L at *
      have kC := Lib.hid (cnew_any hT)
      have hoL := Lib.hid (fun x (hx : Value.ownBlock _ = some x) => own_lt ho hx)
      obtain ⟨Ao, co, rfl, _, _, _⟩ := own_shape ho
      replace hB := Lib.hid hB
      replace ho := Lib.hid ho
      clear hv hv2 hT
      go_wp2_with fail
      refine kC.out.mono ?_; rintro e w5 ⟨rfl, hC, hb5⟩
      have ho5 := own_below ho.out hb5
      have hB5 := hB.out.trans (hb5.mono hB.out.size)
      have hcg : w.heap.size ≤ wr.heap.size := hB.out.size
      have hne : ∀ x, (Value.slice Ao L.length co).ownBlock = some x → x ≠ wr.heap.size := fun x hx => by have := (hoL.out x hx).2; omega
      generalize wr.heap.size = c at *
      clear kC hb5 ho hoL hB
      go_upto_region 14 with fail
      have hl60 : L.length ≤ 60 := by omega
      replace hpok := Lib.hid hpok
      replace hsr := Lib.hid hsr
      replace hne := Lib.hid hne
      go_loopw [10] (fun t wr => ∃ (n : Int) (a : ByteArray), (n = 0 ∨ n = 1 ∨ n = 2) ∧ t = .int .i64 n ∧ Cu wr c g a L ∧ (n = 0 → a = ⟨#[]⟩) ∧ ORows wr w.heap.size (.slice Ao L.length co) L ∧ Below w.heap.size w wr) (fun t _ => 2 - (intOf t).toNat)
      case atStart => exact ⟨0, _, .inl rfl, rfl, hC, fun _ => rfl, ho5, hB5⟩
      case round =>
        clear hC ho5 hB5
        obtain ⟨n, a, hn2, rfl, hC, ha, ho, hB⟩ := hrel
        rcases hn2 with rfl | rfl | rfl
        · have hpa : pos L a = 0 := by rw [ha rfl]; exact pos_empty L
          clear ha
          go_upto_region 20 with fail
          go_loopw [11] (fun t wr => ∃ (k : Nat) (a : ByteArray), k ≤ L.length + 1 ∧ t = .int .i64 k ∧ Cu wr c g a L ∧ (k ≤ L.length → pos L a = k) ∧ ORows wr w.heap.size (.slice Ao L.length co) L ∧ Below w.heap.size w wr) (fun t _ => L.length + 1 - (intOf t).toNat)
          case atStart => exact ⟨0, a, Nat.zero_le _, rfl, hC, fun _ => hpa, ho, hB⟩
          case round =>
            clear hC ho hB
            obtain ⟨k, a, hk1, rfl, hC, hpa, ho, hB⟩ := hrel
            by_cases hle : k ≤ L.length
            · have q1 : (k : Int) ≤ (L.length : Int) := by omega
              have hpk := hpa hle
              have kX := cnext_any hC hpok.out
              have hnx : nxt L a = match L[pos L a]? with
                | some r => r.key ++ ⟨#[0]⟩
                | none => a := rfl
              rw [hpk] at kX hnx
              replace ho := Lib.hid ho
              replace hB := Lib.hid hB
              by_cases hlt : k < L.length
              · have q2 : (k : Int) < (L.length : Int) := by omega
                rw [List.getElem?_eq_getElem hlt] at kX hnx
                have hpn := pos_next hsr.out hlt
                have hat := (rows_at (View.of_own ho.out) (by omega))
                generalize hx : L[k] = x at *
                obtain ⟨xk, xv⟩ := x
                simp only [resC] at kX
                simp only at hnx hpn
                rw [hnx] at kX
                replace kX := Lib.hid kX
                replace hpn := Lib.hid hpn
                clear hC hpa hpk hnx hat
                replace hx := Lib.hid hx
                go_wp2_with fail
                refine kX.out.mono ?_; rintro e w8 ⟨rfl, hC8, hU8, _⟩
                have ho8 := own_upd ho.out hU8 (fun x hx => hne.out x hx)
                have hB8 := hB.out.trans (hU8.below hB.out.size (fun b hb => by omega))
                have hba := (Below.refl w8.heap.size w8).alloc (Nat.le_refl _) (.cells #[.string xk, .string xv] 31)
                have hr9 := Whole.new w8 31 #[.string xk, .string xv]
                have ho9 := Lib.hid (own_below ho8 hba)
                have hC9 := Lib.hid (hC8.below hba)
                have hB9 := Lib.hid (hB8.trans (hba.mono hB8.size))
                obtain ⟨ob, oo, ocap, e, _, _, hobl, hat⟩ := rows_at (View.of_own ho9.out) (by omega)
                injection e with e1 e2 e3
                subst e1 e3
                obtain ⟨p0, p1⟩ := hat k hlt
                rw [hx.out] at p0 p1
                simp only at p0 p1
                have r0 := hr9.cell 0
                have r1 := hr9.cell 1
                have rl := hr9.lt
                clear hat kX hU8 ho8 hB8 hC8 hba ho hB hr9
                go_upto_region 23 with fail
                generalize w8.heap.size = g9 at *
                generalize w8.alloc (.cells #[.string xk, .string xv] 31) = w9 at *
                go_quiet (fail)
                go_wp2_with fail
                go_roundw
                case rel => exact ⟨k + 1, _, by omega, by go_num, hC9.out.below (by first | exact Below.drew (Below.refl _ _) | exact below_dn _ (Below.refl _ _)), fun _ => hpn.out, ho9.out, by first | exact Below.drew hB9.out | exact below_dn _ hB9.out⟩
                case measure => simp [intOf]; omega
              · have hkl : L[k]? = none := List.getElem?_eq_none (by omega)
                rw [hkl] at kX hnx
                simp only [resC] at kX
                simp only at hnx
                have q2 : ¬ (k : Int) < (L.length : Int) := by omega
                rw [hnx] at kX
                replace kX := Lib.hid kX
                clear hC hpa hpk hnx hkl
                go_wp2_with fail
                refine kX.out.mono ?_; rintro e w8 ⟨rfl, hC8, hU8, _⟩
                have ho8 := own_upd ho.out hU8 (fun x hx => hne.out x hx)
                have hB8 := hB.out.trans (hU8.below hB.out.size (fun b hb => by omega))
                have hba := (Below.refl w8.heap.size w8).alloc (Nat.le_refl _) (.cells #[.string ⟨#[]⟩, .string ⟨#[]⟩] 31)
                have ho9 := Lib.hid (own_below ho8 hba)
                have hC9 := Lib.hid (hC8.below hba)
                have hB9 := Lib.hid (hB8.trans (hba.mono hB8.size))
                clear kX hU8 ho8 hB8 hC8 hba ho hB
                go_upto_region 23 with fail
                generalize w8.heap.size = g9 at *
                generalize w8.alloc (.cells #[.string ⟨#[]⟩, .string ⟨#[]⟩] 31) = w9 at *
                go_quiet (fail)
                go_wp2_with fail
                go_roundw
                case rel => exact ⟨k + 1, _, by omega, by go_num, hC9.out.below (by first | exact Below.drew (Below.refl _ _) | exact below_dn _ (Below.refl _ _)), fun hh => by omega, ho9.out, by first | exact Below.drew hB9.out | exact below_dn _ hB9.out⟩
                case measure => simp [intOf]; omega
            · have q1 : ¬ (k : Int) ≤ (L.length : Int) := by omega
              replace hC := Lib.hid hC
              replace ho := Lib.hid ho
              replace hB := Lib.hid hB
              go_wp2_with fail
              go_roundw
              case rel => exact ⟨1, a, by omega, rfl, hC.out, fun hh => by omega, ho.out, hB.out⟩
              case measure => simp [intOf]
        · clear ha
          have kS := Lib.hid (cseek_any (key := key) hC)
          replace ho := Lib.hid ho
          replace hB := Lib.hid hB
          clear hC
          go_wp2_with fail
          refine kS.out.mono ?_; rintro e w6 ⟨rfl, hC6, hU6⟩
          have ho6 := own_upd ho.out hU6 (fun x hx => hne.out x hx)
          have hB6 := hB.out.trans (hU6.below hB.out.size (fun b hb => by omega))
          have kF := Lib.hid (refFind_any (View.of_own ho6) (by omega) hpok.out hk)
          replace ho6 := Lib.hid ho6
          replace hB6 := Lib.hid hB6
          replace hC6 := Lib.hid hC6
          clear kS hU6 ho hB
          go_wp2_with fail
          refine kF.out.mono ?_; rintro e w7 ⟨rfl, m7, rfl⟩
          have hC := hC6.out.below (below_dn m7 (Below.refl w6.heap.size w6))
          have ho := own_below ho6.out (below_dn m7 (Below.refl w6.heap.size w6))
          have hB := below_dn m7 hB6.out
          have hple := pos_le L key
          clear kF ho6 hB6 hC6
          generalize hp : pos L key = p at *
          replace hp := Lib.hid hp
          generalize w6.drewN m7 = w7 at *
          go_upto_region 20 with fail
          go_loopw [11] (fun t wr => ∃ (k : Nat) (a : ByteArray), k ≤ L.length + 1 ∧ t = .int .i64 k ∧ Cu wr c g a L ∧ (k ≤ L.length → pos L a = k) ∧ ORows wr w.heap.size (.slice Ao L.length co) L ∧ Below w.heap.size w wr) (fun t _ => L.length + 1 - (intOf t).toNat)
          case atStart => exact ⟨p, key, by omega, rfl, hC, fun _ => hp.out, ho, hB⟩
          case round =>
            clear hC ho hB
            obtain ⟨k, a, hk1, rfl, hC, hpa, ho, hB⟩ := hrel
            by_cases hle : k ≤ L.length
            · have q1 : (k : Int) ≤ (L.length : Int) := by omega
              have hpk := hpa hle
              have kX := cnext_any hC hpok.out
              have hnx : nxt L a = match L[pos L a]? with
                | some r => r.key ++ ⟨#[0]⟩
                | none => a := rfl
              rw [hpk] at kX hnx
              replace ho := Lib.hid ho
              replace hB := Lib.hid hB
              by_cases hlt : k < L.length
              · have q2 : (k : Int) < (L.length : Int) := by omega
                rw [List.getElem?_eq_getElem hlt] at kX hnx
                have hpn := pos_next hsr.out hlt
                have hat := (rows_at (View.of_own ho.out) (by omega))
                generalize hx : L[k] = x at *
                obtain ⟨xk, xv⟩ := x
                simp only [resC] at kX
                simp only at hnx hpn
                rw [hnx] at kX
                replace kX := Lib.hid kX
                replace hpn := Lib.hid hpn
                clear hC hpa hpk hnx hat
                replace hx := Lib.hid hx
                go_wp2_with fail
                refine kX.out.mono ?_; rintro e w8 ⟨rfl, hC8, hU8, _⟩
                have ho8 := own_upd ho.out hU8 (fun x hx => hne.out x hx)
                have hB8 := hB.out.trans (hU8.below hB.out.size (fun b hb => by omega))
                have hba := (Below.refl w8.heap.size w8).alloc (Nat.le_refl _) (.cells #[.string xk, .string xv] 31)
                have hr9 := Whole.new w8 31 #[.string xk, .string xv]
                have ho9 := Lib.hid (own_below ho8 hba)
                have hC9 := Lib.hid (hC8.below hba)
                have hB9 := Lib.hid (hB8.trans (hba.mono hB8.size))
                obtain ⟨ob, oo, ocap, e, _, _, hobl, hat⟩ := rows_at (View.of_own ho9.out) (by omega)
                injection e with e1 e2 e3
                subst e1 e3
                obtain ⟨p0, p1⟩ := hat k hlt
                rw [hx.out] at p0 p1
                simp only at p0 p1
                have r0 := hr9.cell 0
                have r1 := hr9.cell 1
                have rl := hr9.lt
                clear hat kX hU8 ho8 hB8 hC8 hba ho hB hr9
                go_upto_region 23 with fail
                generalize w8.heap.size = g9 at *
                generalize w8.alloc (.cells #[.string xk, .string xv] 31) = w9 at *
                go_quiet (fail)
                go_wp2_with fail
                go_roundw
                case rel => exact ⟨k + 1, _, by omega, by go_num, hC9.out.below (by first | exact Below.drew (Below.refl _ _) | exact below_dn _ (Below.refl _ _)), fun _ => hpn.out, ho9.out, by first | exact Below.drew hB9.out | exact below_dn _ hB9.out⟩
                case measure => simp [intOf]; omega
              · have hkl : L[k]? = none := List.getElem?_eq_none (by omega)
                rw [hkl] at kX hnx
                simp only [resC] at kX
                simp only at hnx
                have q2 : ¬ (k : Int) < (L.length : Int) := by omega
                rw [hnx] at kX
                replace kX := Lib.hid kX
                clear hC hpa hpk hnx hkl
                go_wp2_with fail
                refine kX.out.mono ?_; rintro e w8 ⟨rfl, hC8, hU8, _⟩
                have ho8 := own_upd ho.out hU8 (fun x hx => hne.out x hx)
                have hB8 := hB.out.trans (hU8.below hB.out.size (fun b hb => by omega))
                have hba := (Below.refl w8.heap.size w8).alloc (Nat.le_refl _) (.cells #[.string ⟨#[]⟩, .string ⟨#[]⟩] 31)
                have ho9 := Lib.hid (own_below ho8 hba)
                have hC9 := Lib.hid (hC8.below hba)
                have hB9 := Lib.hid (hB8.trans (hba.mono hB8.size))
                clear kX hU8 ho8 hB8 hC8 hba ho hB
                go_upto_region 23 with fail
                generalize w8.heap.size = g9 at *
                generalize w8.alloc (.cells #[.string ⟨#[]⟩, .string ⟨#[]⟩] 31) = w9 at *
                go_quiet (fail)
                go_wp2_with fail
                go_roundw
                case rel => exact ⟨k + 1, _, by omega, by go_num, hC9.out.below (by first | exact Below.drew (Below.refl _ _) | exact below_dn _ (Below.refl _ _)), fun hh => by omega, ho9.out, by first | exact Below.drew hB9.out | exact below_dn _ hB9.out⟩
                case measure => simp [intOf]; omega
            · have q1 : ¬ (k : Int) ≤ (L.length : Int) := by omega
              replace hC := Lib.hid hC
              replace ho := Lib.hid ho
              replace hB := Lib.hid hB
              go_wp2_with fail
              go_roundw
              case rel => exact ⟨2, a, by omega, rfl, hC.out, fun hh => by omega, ho.out, hB.out⟩
              case measure => simp [intOf]
        · go_wp2_with fail
          go_ret
          exact ⟨rfl, hB⟩
theorem cursorAll_walk (W : World) (A : Option Addr) (n c : Nat) (l : List KRow.T) (r : Rd Try.prog W (.sl 31 KRow) [.slice A n c] l) (key : ByteArray) (hk : key.size ≤ 140737488351232) :
    Calls Try.prog 9 #[.slice A n c, .string key] W fun e w' => e = .returned (.bool true) ∧ Below W.heap.size W w' := cursorAll_core W _ _ key (rows_of_rd r).1 (rows_of_rd r).2 hk
end Go.Proofs.Ytegomkgfmaclkaa
