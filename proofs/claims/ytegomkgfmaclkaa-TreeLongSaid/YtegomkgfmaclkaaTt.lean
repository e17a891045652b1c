/-
  TreePlays: its walk.
-/
import Derived.Test.YtegomkgfmaclkaaTs
import Derived.Test.YtegomkgfmaclkaaTr
set_option linter.unusedVariables false
set_option linter.unusedSimpArgs false
namespace Go.Proofs.Ytegomkgfmaclkaa
open Go.RowKit Go.Proofs.PosteOrd Go.Proofs.PosteMem Go.Proofs.PosteOpen

theorem putS_ok {L : List Row} {x : Row} (h : RowsOk L) (hk : x.key.size ≤ 140737488351232) : RowsOk (putS L x) := fun r hr => by
  rcases putS_mem hr with rfl | hr
  · exact hk
  · exact h r hr
theorem cutS_ok {L : List Row} {key : ByteArray} (h : RowsOk L) : RowsOk (cutS L key) := fun r hr => h r ((cutS_sub L key).subset hr)
theorem putS_le (L : List Row) (x : Row) : (putS L x).length ≤ L.length + 1 := by
  rw [putS_len]; split <;> omega
theorem cutS_le (L : List Row) (key : ByteArray) : (cutS L key).length ≤ L.length := by
  rw [cutS_len]; split <;> omega
theorem getK_hit {L : List Row} {key : ByteArray} (h : hit L key = true) : ∃ hp : pos L key < L.length, getK L key = L[pos L key].val := by
  have hp : pos L key < L.length := found_lt (by have := found_at L key; rw [h] at this; exact this)
  refine ⟨hp, ?_⟩
  unfold getK
  rw [if_pos h, List.getElem?_eq_getElem hp]
  rfl
theorem getK_not {L : List Row} {key : ByteArray} (h : hit L key = false) : getK L key = ⟨#[]⟩ := by
  unfold getK
  rw [h]
  rfl

@[reducible] def KAc : Kd := .cons 3 (.int .i64) (.cons 31 KRow .nil)
def acOf (x : KAc.T) : Int × Row := (x.1, rowOf x.2.1)
def ActsAt (W : World) (A : Option Addr) (l : List (Int × Row)) : Prop := ∀ i (hi : i < l.length), ∃ b o, A = some ⟨b, o, none⟩ ∧ b < W.heap.size ∧ W.cell? ⟨b, o + i * 3, none⟩ = some (.int .i64 l[i].1) ∧ W.cell? ⟨b, o + i * 3 + 1, none⟩ = some (.string l[i].2.key) ∧ W.cell? ⟨b, o + i * 3 + 2, none⟩ = some (.string l[i].2.val) ∧ l[i].2.key.size ≤ 140737488351232
theorem acts_of_rd {W : World} {A : Option Addr} {n c : Nat} {l : List KAc.T} (z : Rd Try.prog W (.sl 81 KAc) [.slice A n c] l) : n = (l.map acOf).length ∧ ActsAt W A (l.map acOf) := by
  obtain ⟨css, h1, h2, hv, h4⟩ := rd_view z
  obtain ⟨A', c', e, _, _⟩ := View.cells hv
  injection e with e1 e2 e3
  subst e1 e2 e3
  refine ⟨(List.length_map _).symm, fun i hi => ?_⟩
  have hi' : i < l.length := by rw [List.length_map] at hi; exact hi
  rw [List.getElem_map]
  obtain ⟨b, o, c'', e, _, _, hb, f⟩ := View.at_ hv (Nat.mul_pos (by omega) (by decide))
  injection e with e
  have hr := h4 i hi' (by omega)
  have hfl : ∀ q, q < 3 → W.cell? ⟨b, o + (i * 3 + q), none⟩ = css[i][q]? := fun q hq => by
    have hl : css[i].length = 3 := h2 css[i] (List.getElem_mem _)
    have := flatten_at 3 css h2 i (by omega) q hq
    have e2 : css[i][q]? = some (css[i][q]'(by omega)) := List.getElem?_eq_getElem (by omega)
    rw [e2] at this ⊢
    exact f (i * 3 + q) _ this
  have hfl0 := hfl 0 (by decide)
  have hfl1 := hfl 1 (by decide)
  have hfl2 := hfl 2 (by decide)
  clear hfl
  generalize hcs : css[i] = cs at *
  generalize l[i] = x at *
  obtain ⟨c1, r1, rfl, _, ⟨rfl, _⟩, c2, r2, rfl, _, ⟨d1, s1, rfl, _, ⟨rfl, hk⟩, d2, s2, rfl, _, ⟨rfl, _⟩, hn1⟩, hn2⟩ := hr
  obtain rfl : s2 = [] := hn1
  obtain rfl : r2 = [] := hn2
  refine ⟨b, o, e, hb, ?_, ?_, ?_, hk⟩
  · simpa [Nat.add_assoc, acOf, rowOf] using hfl0
  · simpa [Nat.add_assoc, acOf, rowOf] using hfl1
  · simpa [Nat.add_assoc, acOf, rowOf] using hfl2

set_option maxRecDepth 100000 in
set_option maxHeartbeats 8000000 in
theorem alive8 (w : World) : Calls Try.prog 45 #[] w fun e w' => e = .returned (.bool true) ∧ Below w.heap.size w w' := by
  have kN := Lib.hid (tnew_any (w := w) (v := .slice none 0 0) (L := []) (View.nil _ _) (by decide))
  go_enter Try.func45, Try.ntmps45
  go_wp2_with fail
  refine kN.out.mono ?_; rintro e w1 ⟨g, rfl, hg, hT, hb1⟩
  have hT1 : Tr w1 g [] := hT
  have kH : Calls Try.prog 50 #[ptr g] w1 fun e w' => e = .returned (.int .i64 1) ∧ Below w1.heap.size w1 w' := by
    obtain ⟨h, t, H, e⟩ := hT1
    have hl : h ≤ (rowsT h t).length := Top.tall (let ⟨_, _, _, h3⟩ := H; h3)
    rw [e] at hl
    obtain rfl : h = 0 := Nat.le_zero.1 hl
    exact theight_any H (by decide)
  have kP := fun {w2 : World} (hb : Below w1.heap.size w1 w2) => tput_any (Tr.below hT1 hb) ⟨⟨#[97]⟩, ⟨#[98]⟩⟩ (by decide)
  replace kH := Lib.hid kH
  replace hb1 := Lib.hid hb1
  clear kN hT hT1
  go_wp2_with fail
  refine kH.out.mono ?_; rintro e w2 ⟨rfl, hb2⟩
  have kP2 := Lib.hid (kP hb2)
  have hB2 := Lib.hid (hb1.out.trans (hb2.mono hb1.out.size))
  clear kH kP hb2 hb1
  go_wp2_with fail
  refine kP2.out.mono ?_; rintro e w3 ⟨rfl, hT3, hU3⟩
  have hB3 := Lib.hid (hB2.out.trans (hU3.below hB2.out.size (fun b hb => by omega)))
  have e3 : putS [] (⟨⟨#[97]⟩, ⟨#[98]⟩⟩ : Row) = [⟨⟨#[97]⟩, ⟨#[98]⟩⟩] := rfl
  rw [e3] at hT3
  have kG := tget_tr hT3 ⟨#[97]⟩
  have hp0 : pos [(⟨⟨#[97]⟩, ⟨#[98]⟩⟩ : Row)] ⟨#[97]⟩ = 0 := pos_eq (Nat.zero_le _) (fun j _ hj => absurd hj (Nat.not_lt_zero _)) fun hj => by
    show ¬ lt ⟨#[97]⟩ ⟨#[97]⟩
    unfold lt
    rw [cmpL_self]
    omega
  have hh : hit [(⟨⟨#[97]⟩, ⟨#[98]⟩⟩ : Row)] ⟨#[97]⟩ = true := hit_iff.2 ⟨⟨⟨#[97]⟩, ⟨#[98]⟩⟩, by rw [hp0]; rfl, rfl⟩
  have hg2 : getK [(⟨⟨#[97]⟩, ⟨#[98]⟩⟩ : Row)] ⟨#[97]⟩ = ⟨#[98]⟩ := by
    obtain ⟨hp, e⟩ := getK_hit hh
    have : ∀ i (hi : i < [(⟨⟨#[97]⟩, ⟨#[98]⟩⟩ : Row)].length), i = 0 → ([(⟨⟨#[97]⟩, ⟨#[98]⟩⟩ : Row)][i]).val = ⟨#[98]⟩ := fun i hi h => by subst h; rfl
    rw [e, this _ hp hp0]
  rw [hh, hg2] at kG
  replace kG := Lib.hid kG
  replace hT3 := Lib.hid hT3
  clear hh hg2 hp0 kP2 hU3 hB2 e3
  go_wp2_with fail
  refine kG.out.mono ?_; rintro e w4 ⟨rfl, hb4⟩
  have kL := Lib.hid (tlen_tr (hT3.out.below hb4))
  have hB4 := Lib.hid (hB3.out.trans (hb4.mono hB3.out.size))
  clear kG hb4 hT3 hB3
  go_wp2_with fail
  refine kL.out.mono ?_; rintro e w5 ⟨rfl, hb5⟩
  have hB5 := hB4.out.trans (hb5.mono hB4.out.size)
  go_wp2_with fail
  go_ret
  exact ⟨rfl, hB5⟩

set_option maxRecDepth 100000 in
set_option maxHeartbeats 8000000 in
theorem treePlays_core (w : World) (v : Value) (l : List Row) (A2 : Option Addr) (cap2 : Nat) (acts : List (Int × Row)) (h : VRows w v l) (hok : RowsOk l) (hact : ActsAt w A2 acts) :
    Calls Try.prog 11 #[v, .slice A2 acts.length cap2] w fun e w' => e = .returned (.bool true) ∧ Below w.heap.size w w' := by
  obtain ⟨A, cap, rfl, _, _⟩ := View.cells h
  replace h := Lib.hid h
  by_cases hm : 40 < l.length
  · have q1 : (40 : Int) < (l.length : Int) := by omega
    go_enter Try.func11, Try.ntmps11
    go_wp2_with fail
    refine (alive8 _).mono ?_; rintro e w1 ⟨rfl, hb1⟩
    go_wp2_with fail
    go_ret
    exact ⟨rfl, hb1⟩
  have q1 : ¬ (40 : Int) < (l.length : Int) := by omega
  by_cases hm2 : 150 < acts.length
  · have q2 : (150 : Int) < (acts.length : Int) := by omega
    go_enter Try.func11, Try.ntmps11
    go_wp2_with fail
    refine (alive8 _).mono ?_; rintro e w1 ⟨rfl, hb1⟩
    go_wp2_with fail
    go_ret
    exact ⟨rfl, hb1⟩
  have q2 : ¬ (150 : Int) < (acts.length : Int) := by omega
  replace hok := Lib.hid hok
  replace hact := Lib.hid hact
  go_enter Try.func11, Try.ntmps11
  go_wp2_with fail
  refine (alive8 _).mono ?_; rintro e w1 ⟨rfl, hb1⟩
  have kN := Lib.hid (tnew_any (View.below h.out hb1) (by omega))
  replace hb1 := Lib.hid hb1
  go_wp2_with fail
  refine kN.out.mono ?_; rintro e w2 ⟨g, rfl, hg, hT, hb2⟩
  have hB2 := below_then hb1.out hb2
  have hgw : w.heap.size ≤ g := Nat.le_trans hb1.out.size hg
  clear kN hb2 hb1 hg
  go_upto_region 7 with fail
  clear q1 q2
  have e1 : decide ((40 : Int) < (l.length : Int)) = false := decide_eq_false (by omega)
  have e2 : decide ((150 : Int) < (acts.length : Int)) = false := decide_eq_false (by omega)
  simp only [e1, e2, Bool.or_self]
  clear e1 e2
  go_loopw [7, 8] (fun o i wr => ∃ (k : Nat) (o0 : Value), k ≤ l.length ∧ o = o0 ∧ i = .int .i64 k ∧ ORows wr w.heap.size o0 (putAll (l.take k)) ∧ (∀ x, o0.ownBlock = some x → x ≠ g) ∧ Tr wr g (putAll l) ∧ Below w.heap.size w wr) (fun _ i _ => l.length - (intOf i).toNat)
  case atStart => exact ⟨0, _, by omega, rfl, rfl, World.ownsRow_nil _ _ _ _, (fun x hx => by cases hx), hT, hB2⟩
  case round =>
    clear hT hB2
    obtain ⟨k, o0, hk2, rfl, rfl, ho, hne, hT, hB⟩ := hrel
    by_cases hlt : k < l.length
    · have q1 : (k : Int) < (l.length : Int) := by omega
      obtain ⟨b, off, cap', e, _, _, hbl, hat⟩ := rows_at h.out (by omega)
      injection e with e1 e2 e3
      subst e1 e3
      obtain ⟨a2, a3⟩ := hat k hlt
      have p0 := (hB.cell (p := ⟨b, off + k * 2, none⟩) hbl).trans a2
      have p1 := (hB.cell (p := ⟨b, off + k * 2 + 1, none⟩) hbl).trans a3
      have hbl2 : b < wr.heap.size := Nat.lt_of_lt_of_le hbl hB.size
      have hks := hok.out _ (List.getElem_mem hlt)
      have hpl := putAll_len (l.take k)
      rw [List.length_take] at hpl
      have kP := refPut_any (x := l[k]) (View.of_own ho) (by omega) (putAll_ok hok.out k) hks
      rw [← putAll_succ hlt] at kP
      generalize l[k] = x at *
      obtain ⟨xk, xv⟩ := x
      simp only at p0 p1 kP
      have hgl := hT.lt
      replace kP := Lib.hid kP
      replace hT := Lib.hid hT
      replace hB := Lib.hid hB
      clear hat a2 a3 ho hks hne
      go_wp2_with fail
      refine kP.out.mono ?_; rintro e w5 ⟨v5, rfl, ho5, hb5⟩
      have hne5 := Lib.hid (fun x (hx : v5.ownBlock = some x) => (show x ≠ g from by have := (own_lt ho5 hx).1; omega))
      have ho5' := Lib.hid (own_mono ho5 hB.out.size)
      have hT5 := Lib.hid (hT.out.below hb5)
      have hB5 := Lib.hid (hB.out.trans (hb5.mono hB.out.size))
      clear kP ho5 hb5 hT
      go_wp2_with fail
      go_roundw
      case rel => exact ⟨k + 1, _, by omega, rfl, by go_num, ho5'.out, hne5.out, hT5.out, hB5.out⟩
      case measure => simp [intOf]; omega
    · obtain rfl : k = l.length := by omega
      have q1 : ¬ (l.length : Int) < (l.length : Int) := by omega
      rw [List.take_length] at ho
      have hpok : RowsOk (putAll l) := by have := putAll_ok hok.out l.length; rw [List.take_length] at this; exact this
      have hpl : (putAll l).length ≤ 40 := by have := putAll_len l; omega
      generalize putAll l = L at *
      go_upto_region 11 with fail
      go_loopw [7, 9] (fun o i wr => ∃ (k : Nat) (o0 : Value) (L : List Row), k ≤ acts.length ∧ o = o0 ∧ i = .int .i64 k ∧ ORows wr w.heap.size o0 L ∧ (∀ x, o0.ownBlock = some x → x ≠ g) ∧ Tr wr g L ∧ RowsOk L ∧ L.length ≤ 40 + k ∧ Below w.heap.size w wr) (fun _ i _ => acts.length - (intOf i).toNat)
      case atStart => exact ⟨0, _, L, by omega, rfl, rfl, ho, hne, hT, hpok, by omega, hB⟩
      case round =>
        clear hT hB hpok hpl ho hne
        obtain ⟨k, o0, L, hk, rfl, rfl, ho, hne, hT, hpok, hlen, hB⟩ := hrel
        have q2 : (k : Int) ≤ (acts.length : Int) := by omega
        have hL : L.length ≤ 190 := by omega
        obtain ⟨Ao, co, rfl, _, _, _⟩ := own_shape ho
        have kA := Lib.hid (tall_tr hT (by omega))
        have hob := Lib.hid (fun x hx => own_lt ho (b := x) hx)
        replace ho0 := Lib.hid ho
        replace hT0 := Lib.hid hT
        replace hB0 := Lib.hid hB
        replace hne := Lib.hid hne
        replace hpok := Lib.hid hpok
        replace hlen := Lib.hid hlen
        clear ho hT hB
        go_wp2_with fail
        refine kA.out.mono ?_; rintro e w1 ⟨v1, rfl, ho1, hb1⟩
        have kS := Lib.hid (same_rows w1 v1 _ L (View.of_own ho1) (View.of_own (own_below ho0.out hb1)) (by omega))
        clear kA ho1
        have ho1 := Lib.hid (own_below ho0.out hb1)
        have hT1 := Lib.hid (hT0.out.below hb1)
        have hB1 := Lib.hid (hB0.out.trans (hb1.mono hB0.out.size))
        clear ho0 hT0 hB0 hb1
        go_wp2_with fail
        refine kS.out.mono ?_; rintro e w2 ⟨rfl, m2, rfl⟩
        have hb2 := below_dn m2 (Below.refl w1.heap.size w1)
        clear kS
        have ho2 := Lib.hid (own_below ho1.out hb2)
        have hT2 := Lib.hid (hT1.out.below hb2)
        have hB2 := Lib.hid (hB1.out.trans (hb2.mono hB1.out.size))
        clear ho1 hT1 hB1 hb2
        generalize w1.drewN m2 = w2 at *
        have kL := Lib.hid (tlen_tr hT2.out)
        go_wp2_with fail
        refine kL.out.mono ?_; rintro e w3 ⟨rfl, hb3⟩
        clear kL
        have ho3 := Lib.hid (own_below ho2.out hb3)
        have hT3 := Lib.hid (hT2.out.below hb3)
        have hB3 := Lib.hid (hB2.out.trans (hb3.mono hB2.out.size))
        clear ho2 hT2 hB2 hb3
        obtain ⟨n, hn2, hn1, kH⟩ := theight_tr hT3.out (by omega)
        replace kH := Lib.hid kH
        go_wp2_with fail
        refine kH.out.mono ?_; rintro e w4 ⟨rfl, hb4⟩
        clear kH
        have ho4 := Lib.hid (own_below ho3.out hb4)
        have hT4 := Lib.hid (hT3.out.below hb4)
        have hB4 := Lib.hid (hB3.out.trans (hb4.mono hB3.out.size))
        clear ho3 hT3 hB3 hb4
        have kT := Lib.hid (refTall_any w4 L.length (by omega))
        have qh : ¬ (((2 + d3 L.length : Nat) : Int) < (n : Int)) := by omega
        go_wp2_with fail
        refine kT.out.mono ?_; rintro e w4 ⟨rfl, rfl⟩
        clear kT
        obtain ⟨n2, hn22, hn21, kH⟩ := theight_tr hT4.out (by omega)
        replace kH := Lib.hid kH
        have qh2 : ¬ ((n2 : Int) < 1) := by omega
        go_wp2_with fail
        refine kH.out.mono ?_; rintro e w5 ⟨rfl, hb5⟩
        clear kH
        have ho5 := Lib.hid (own_below ho4.out hb5)
        have hT5 := Lib.hid (hT4.out.below hb5)
        have hB5 := Lib.hid (hB4.out.trans (hb5.mono hB4.out.size))
        clear ho4 hT4 hB4 hb5
        clear hn2 hn1 hn22 hn21
        by_cases hlt : k < acts.length
        · have q3 : ¬ (k : Int) = (acts.length : Int) := by omega
          obtain ⟨b2, off2, e, hbl2, a0, a1, a2, hks⟩ := hact.out k hlt
          subst e
          have p0 := (hB5.out.cell (p := ⟨b2, off2 + k * 3, none⟩) hbl2).trans a0
          have p1 := (hB5.out.cell (p := ⟨b2, off2 + k * 3 + 1, none⟩) hbl2).trans a1
          have p2 := (hB5.out.cell (p := ⟨b2, off2 + k * 3 + 2, none⟩) hbl2).trans a2
          clear a0 a1 a2
          generalize acts[k] = x at *
          obtain ⟨way, xk, xv⟩ := x
          simp only at p0 p1 p2 hks
          have hba := (Below.refl w5.heap.size w5).alloc (Nat.le_refl _) (.cells #[.int .i64 way, .string xk, .string xv] 81)
          have hr9 := Whole.new w5 81 #[.int .i64 way, .string xk, .string xv]
          have h9g : w5.heap.size ≠ g := by have := hT5.out.lt; omega
          have hba5 := hba
          have hoa := Lib.hid (own_below ho5.out hba)
          have hTa := Lib.hid (hT5.out.below hba)
          have hBa := Lib.hid (hB5.out.trans (hba.mono hB5.out.size))
          clear ho5 hT5 hB5 hba
          go_upto_region 18 with fail
          clear p0 p1 p2
          generalize w5.heap.size = g9 at *
          generalize w5.alloc (.cells #[.int .i64 way, .string xk, .string xv] 81) = w9 at *
          have r0 := hr9.cell 0
          have r1 := hr9.cell 1
          have r2 := hr9.cell 2
          have rl := hr9.lt
          have kF := refFind_any (View.of_own hoa.out) (by omega) hpok.out hks
          have kG := fun {w' : World} (hb : Below w9.heap.size w9 w') => tget_tr (hTa.out.below hb) xk
          cases hh : hit L xk with
          | true =>
            obtain ⟨hpp, hgk⟩ := getK_hit hh
            rw [hh] at kF kG
            generalize hvv : getK L xk = vv at *
            obtain ⟨ob, oo, oc, e, _, _, hobl, hat⟩ := rows_at (View.of_own hoa.out) (by omega)
            injection e with e1 e2 e3
            subst e1 e3
            have s1 := (hat _ hpp).2
            rw [← hgk] at s1
            have hple := pos_le L xk
            clear hat hgk hvv
            generalize hpv : pos L xk = pv at *
            have q4 : (pv : Int) < (L.length : Int) := by omega
            clear hpv
            replace kF := Lib.hid kF
            replace hh := Lib.hid hh
            go_wp2_with fail
            refine kF.out.mono ?_; rintro e w10 ⟨rfl, m7, rfl⟩
            have hba2 := below_dn m7 (Below.refl w9.heap.size w9)
            have kG2 := Lib.hid (kG hba2)
            have hr10 := hr9.below hba2
            have hb10 := hba2
            clear kF kG hba2 r0 r1 r2 rl hr9
            have ho10 := Lib.hid (own_below hoa.out hb10)
            have hT10 := Lib.hid (hTa.out.below hb10)
            have hB10 := Lib.hid (hBa.out.trans (hb10.mono hBa.out.size))
            clear hoa hTa hBa hb10
            replace s1 := (kc (below_dn m7 (Below.refl w9.heap.size w9)) s1)
            generalize w9.drewN m7 = w10 at *
            have r0 := hr10.cell 0
            have r1 := hr10.cell 1
            have r2 := hr10.cell 2
            have rl := hr10.lt
            go_wp2_with fail
            refine kG2.out.mono ?_; rintro e w11 ⟨rfl, hb11⟩
            have hr11 := hr10.below hb11
            clear kG2 r0 r1 r2 rl hr10
            have r0 := hr11.cell 0
            have r1 := hr11.cell 1
            have r2 := hr11.cell 2
            have rl := hr11.lt
            replace s1 := kc hb11 s1
            have ho11 := Lib.hid (own_below ho10.out hb11)
            have hT11 := Lib.hid (hT10.out.below hb11)
            have hB11 := Lib.hid (hB10.out.trans (hb11.mono hB10.out.size))
            clear ho10 hT10 hB10 hb11
            go_upto_region 22 with fail
            clear s1 q4 hobl
            by_cases hw0 : way = 0
            · subst hw0
              have kP := tput_any hT11.out ⟨xk, xv⟩ (by omega)
              rw [hh.out] at kP
              replace kP := Lib.hid kP
              go_wp2_with fail
              refine kP.out.mono ?_; rintro e w12 ⟨rfl, hT12, hU12⟩
              have hr12 := hr11.upd hU12 h9g
              have ho12 := own_upd ho11.out hU12 (fun x hx => hne.out x hx)
              have hB12 := Lib.hid (hB11.out.trans (hU12.below hB11.out.size (fun b hb => by omega)))
              clear hr11 r0 r1 r2 rl hU12 ho11 hT11 hB11
              have r0 := hr12.cell 0
              have r1 := hr12.cell 1
              have r2 := hr12.cell 2
              have rl := hr12.lt
              have kR := Lib.hid (refPut_any (x := ⟨xk, xv⟩) (View.of_own ho12) (by omega) hpok.out hks)
              have hT12' := Lib.hid hT12
              have hle2 := putS_le L ⟨xk, xv⟩
              have hok2 := Lib.hid (putS_ok (x := ⟨xk, xv⟩) hpok.out hks)
              clear ho12 hT12 kP
              go_wp2_with fail
              refine kR.out.mono ?_; rintro e w13 ⟨v13, rfl, ho13, hb13⟩
              have hgl := hT12'.out.lt
              have hne5 := Lib.hid (fun x (hx : v13.ownBlock = some x) => (show x ≠ g from by have := (own_lt ho13 hx).1; omega))
              have ho5' := Lib.hid (own_mono ho13 hB12.out.size)
              have hT5 := Lib.hid (hT12'.out.below hb13)
              have hB5 := Lib.hid (hB12.out.trans (hb13.mono hB12.out.size))
              clear kR ho13 hb13 hT12' hr12 r0 r1 r2 rl
              go_wp2_with fail
              go_roundw
              case rel => exact ⟨k + 1, _, _, by omega, rfl, by go_num, ho5'.out, hne5.out, hT5.out, hok2.out, by have := hlen.out; omega, hB5.out⟩
              case measure => simp [intOf]; omega
            · by_cases hw1 : way = 1
              · subst hw1
                have kP := tcut_any hT11.out xk (by omega)
                rw [hh.out] at kP
                replace kP := Lib.hid kP
                go_wp2_with fail
                refine kP.out.mono ?_; rintro e w12 ⟨rfl, hT12, hU12⟩
                have hr12 := hr11.upd hU12 h9g
                have ho12 := own_upd ho11.out hU12 (fun x hx => hne.out x hx)
                have hB12 := Lib.hid (hB11.out.trans (hU12.below hB11.out.size (fun b hb => by omega)))
                clear hr11 r0 r1 r2 rl hU12 ho11 hT11 hB11
                have r0 := hr12.cell 0
                have r1 := hr12.cell 1
                have r2 := hr12.cell 2
                have rl := hr12.lt
                have kR := refCut_any (View.of_own ho12) (by omega) hpok.out hks
                have hT12' := Lib.hid hT12
                have hle2 := cutS_le L xk
                have hok2 := Lib.hid (cutS_ok (key := xk) hpok.out)
                replace kR := Lib.hid kR
                clear ho12 hT12 kP
                go_wp2_with fail
                refine kR.out.mono ?_; rintro e w13 ⟨v13, rfl, ho13, hb13⟩
                have hgl := hT12'.out.lt
                have hne5 := Lib.hid (fun x (hx : v13.ownBlock = some x) => (show x ≠ g from by have := (own_lt ho13 hx).1; omega))
                have ho5' := Lib.hid (own_mono ho13 hB12.out.size)
                have hT5 := Lib.hid (hT12'.out.below hb13)
                have hB5 := Lib.hid (hB12.out.trans (hb13.mono hB12.out.size))
                clear kR ho13 hb13 hT12' hr12 r0 r1 r2 rl
                go_wp2_with fail
                go_roundw
                case rel => exact ⟨k + 1, _, _, by omega, rfl, by go_num, ho5'.out, hne5.out, hT5.out, hok2.out, by have := hlen.out; omega, hB5.out⟩
                case measure => simp [intOf]; omega
              · go_wp2_with fail
                go_roundw
                case rel => exact ⟨k + 1, _, L, by omega, rfl, by go_num, ho11.out, hne.out, hT11.out, hpok.out, by have := hlen.out; omega, hB11.out⟩
                case measure => simp [intOf]; omega
          | false =>
            have hgk := getK_not hh
            rw [hgk, hh] at kG
            rw [hh] at kF
            have hple := pos_le L xk
            clear hgk
            generalize pos L xk = pv at *
            replace kF := Lib.hid kF
            replace hh := Lib.hid hh
            go_wp2_with fail
            refine kF.out.mono ?_; rintro e w10 ⟨rfl, m7, rfl⟩
            have hba2 := below_dn m7 (Below.refl w9.heap.size w9)
            have kG2 := Lib.hid (kG hba2)
            have hr10 := hr9.below hba2
            have hb10 := hba2
            clear kF kG hba2 r0 r1 r2 rl hr9
            have ho10 := Lib.hid (own_below hoa.out hb10)
            have hT10 := Lib.hid (hTa.out.below hb10)
            have hB10 := Lib.hid (hBa.out.trans (hb10.mono hBa.out.size))
            clear hoa hTa hBa hb10
            generalize w9.drewN m7 = w10 at *
            have r0 := hr10.cell 0
            have r1 := hr10.cell 1
            have r2 := hr10.cell 2
            have rl := hr10.lt
            go_wp2_with fail
            refine kG2.out.mono ?_; rintro e w11 ⟨rfl, hb11⟩
            have hr11 := hr10.below hb11
            clear kG2 r0 r1 r2 rl hr10
            have r0 := hr11.cell 0
            have r1 := hr11.cell 1
            have r2 := hr11.cell 2
            have rl := hr11.lt
            have ho11 := Lib.hid (own_below ho10.out hb11)
            have hT11 := Lib.hid (hT10.out.below hb11)
            have hB11 := Lib.hid (hB10.out.trans (hb11.mono hB10.out.size))
            clear ho10 hT10 hB10 hb11
            go_upto_region 22 with fail
            by_cases hw0 : way = 0
            · subst hw0
              have kP := tput_any hT11.out ⟨xk, xv⟩ (by omega)
              rw [hh.out] at kP
              replace kP := Lib.hid kP
              go_wp2_with fail
              refine kP.out.mono ?_; rintro e w12 ⟨rfl, hT12, hU12⟩
              have hr12 := hr11.upd hU12 h9g
              have ho12 := own_upd ho11.out hU12 (fun x hx => hne.out x hx)
              have hB12 := Lib.hid (hB11.out.trans (hU12.below hB11.out.size (fun b hb => by omega)))
              clear hr11 r0 r1 r2 rl hU12 ho11 hT11 hB11
              have r0 := hr12.cell 0
              have r1 := hr12.cell 1
              have r2 := hr12.cell 2
              have rl := hr12.lt
              have kR := Lib.hid (refPut_any (x := ⟨xk, xv⟩) (View.of_own ho12) (by omega) hpok.out hks)
              have hT12' := Lib.hid hT12
              have hle2 := putS_le L ⟨xk, xv⟩
              have hok2 := Lib.hid (putS_ok (x := ⟨xk, xv⟩) hpok.out hks)
              clear ho12 hT12 kP
              go_wp2_with fail
              refine kR.out.mono ?_; rintro e w13 ⟨v13, rfl, ho13, hb13⟩
              have hgl := hT12'.out.lt
              have hne5 := Lib.hid (fun x (hx : v13.ownBlock = some x) => (show x ≠ g from by have := (own_lt ho13 hx).1; omega))
              have ho5' := Lib.hid (own_mono ho13 hB12.out.size)
              have hT5 := Lib.hid (hT12'.out.below hb13)
              have hB5 := Lib.hid (hB12.out.trans (hb13.mono hB12.out.size))
              clear kR ho13 hb13 hT12' hr12 r0 r1 r2 rl
              go_wp2_with fail
              go_roundw
              case rel => exact ⟨k + 1, _, _, by omega, rfl, by go_num, ho5'.out, hne5.out, hT5.out, hok2.out, by have := hlen.out; omega, hB5.out⟩
              case measure => simp [intOf]; omega
            · by_cases hw1 : way = 1
              · subst hw1
                have kP := tcut_any hT11.out xk (by omega)
                rw [hh.out] at kP
                replace kP := Lib.hid kP
                go_wp2_with fail
                refine kP.out.mono ?_; rintro e w12 ⟨rfl, hT12, hU12⟩
                have hr12 := hr11.upd hU12 h9g
                have ho12 := own_upd ho11.out hU12 (fun x hx => hne.out x hx)
                have hB12 := Lib.hid (hB11.out.trans (hU12.below hB11.out.size (fun b hb => by omega)))
                clear hr11 r0 r1 r2 rl hU12 ho11 hT11 hB11
                have r0 := hr12.cell 0
                have r1 := hr12.cell 1
                have r2 := hr12.cell 2
                have rl := hr12.lt
                have kR := refCut_any (View.of_own ho12) (by omega) hpok.out hks
                have hT12' := Lib.hid hT12
                have hle2 := cutS_le L xk
                have hok2 := Lib.hid (cutS_ok (key := xk) hpok.out)
                replace kR := Lib.hid kR
                clear ho12 hT12 kP
                go_wp2_with fail
                refine kR.out.mono ?_; rintro e w13 ⟨v13, rfl, ho13, hb13⟩
                have hgl := hT12'.out.lt
                have hne5 := Lib.hid (fun x (hx : v13.ownBlock = some x) => (show x ≠ g from by have := (own_lt ho13 hx).1; omega))
                have ho5' := Lib.hid (own_mono ho13 hB12.out.size)
                have hT5 := Lib.hid (hT12'.out.below hb13)
                have hB5 := Lib.hid (hB12.out.trans (hb13.mono hB12.out.size))
                clear kR ho13 hb13 hT12' hr12 r0 r1 r2 rl
                go_wp2_with fail
                go_roundw
                case rel => exact ⟨k + 1, _, _, by omega, rfl, by go_num, ho5'.out, hne5.out, hT5.out, hok2.out, by have := hlen.out; omega, hB5.out⟩
                case measure => simp [intOf]; omega
              · go_wp2_with fail
                go_roundw
                case rel => exact ⟨k + 1, _, L, by omega, rfl, by go_num, ho11.out, hne.out, hT11.out, hpok.out, by have := hlen.out; omega, hB11.out⟩
                case measure => simp [intOf]; omega
        · obtain rfl : k = acts.length := by omega
          go_wp2_with fail
          go_ret
          exact ⟨rfl, hB5.out⟩
theorem treePlays_walk (W : World) (A : Option Addr) (n c : Nat) (l : List KRow.T) (r : Rd Try.prog W (.sl 31 KRow) [.slice A n c] l) (A2 : Option Addr) (n2 c2 : Nat) (l2 : List KAc.T) (r2 : Rd Try.prog W (.sl 81 KAc) [.slice A2 n2 c2] l2) :
    Calls Try.prog 11 #[.slice A n c, .slice A2 n2 c2] W fun e w' => e = .returned (.bool true) ∧ Below W.heap.size W w' := by
  obtain ⟨h1, h2⟩ := rows_of_rd r
  obtain ⟨rfl, h4⟩ := acts_of_rd r2
  exact treePlays_core W _ _ _ _ _ h1 h2 h4
end Go.Proofs.Ytegomkgfmaclkaa
