/-
  txn.Settle, by its contract.
-/
import Derived.Test.YtegomkgfmaclkaaVf
import Derived.Test.YtegomkgfmaclkaaVd
import Derived.Deep.DeepCutAuto
set_option linter.unusedVariables false
set_option linter.unusedSimpArgs false
namespace Go.Proofs.Ytegomkgfmaclkaa
open Go.RowKit Go.Proofs.PosteOrd Go.Proofs.PosteMem Go.Maps

def Ef.vv (x : Ef) : Value := .agg x.cells.toArray
def lastV (E : List Ef) (o k : ByteArray) : Value := ((lastOf E o k).map Ef.vv).getD zEf
theorem lastV_put {E : List Ef} {i : Nat} (hi : i < E.length) (h : onR E[i] = true) (o k : ByteArray) : (if o = E[i].obj ∧ k = E[i].key then E[i].vv else lastV (E.take i) o k) = lastV (E.take (i + 1)) o k := by
  unfold lastV
  rw [last_take hi]
  by_cases e : o = E[i].obj ∧ k = E[i].key
  · obtain ⟨rfl, rfl⟩ := e
    have : at_ E[i].obj E[i].key E[i] = true := by unfold at_; simp [h]
    simp [this]
  · have : ¬ at_ o k E[i] = true := by
      unfold at_
      intro h2
      simp only [Bool.and_eq_true, decide_eq_true_eq] at h2
      exact e ⟨h2.1.2.symm, h2.2.symm⟩
    simp [e, this]
theorem lastV_keep {E : List Ef} {i : Nat} (hi : i < E.length) (h : onR E[i] = false) (o k : ByteArray) : lastV (E.take i) o k = lastV (E.take (i + 1)) o k := by
  unfold lastV
  rw [last_take hi]
  have : ¬ at_ o k E[i] = true := by unfold at_; simp [h]
  simp [this]
theorem met_put {E : List Ef} {i : Nat} (hi : i < E.length) (h : onR E[i] = true) (o k : ByteArray) : (if o = E[i].obj ∧ k = E[i].key then Value.bool true else .bool (met (E.take i) o k)) = .bool (met (E.take (i + 1)) o k) := by
  rw [met_take hi]
  by_cases e : o = E[i].obj ∧ k = E[i].key
  · obtain ⟨rfl, rfl⟩ := e
    have : at_ E[i].obj E[i].key E[i] = true := by unfold at_; simp [h]
    simp [this]
  · have : at_ o k E[i] = false := by
      rw [Bool.eq_false_iff]
      unfold at_
      intro h2
      simp only [Bool.and_eq_true, decide_eq_true_eq] at h2
      exact e ⟨h2.1.2.symm, h2.2.symm⟩
    simp [e, this]
theorem met_keep {E : List Ef} {i : Nat} (hi : i < E.length) (h : onR E[i] = false ∨ met (E.take i) E[i].obj E[i].key = true) (o k : ByteArray) : met (E.take i) o k = met (E.take (i + 1)) o k := by
  rw [met_take hi]
  by_cases e : at_ o k E[i] = true
  · unfold at_ at e
    simp only [Bool.and_eq_true, decide_eq_true_eq] at e
    obtain ⟨⟨e1, rfl⟩, rfl⟩ := e
    rcases h with h | h
    · rw [h] at e1; cases e1
    · rw [h]; rfl
  · rw [Bool.not_eq_true] at e
    rw [e, Bool.or_false]

theorem field_ef (w : World) (y0 : Int) (y1 y2 y3 : ByteArray) (y4 y5 : Int) (y6 : Bool) (y7 y8 y9 : Int) (y10 : Bool) (y11 y12 : ByteArray) : (Instr.field 50 (.agg #[.int .i64 y0, .string y1, .string y2, .string y3, .int .i64 y4, .int .i64 y5, .bool y6, .int .i64 y7, .int .i64 y8, .int .i64 y9, .bool y10, .string y11, .string y12]) 0).run Try.prog w = .ok (.int .i64 y0) w := by kernel_rfl
/-- What a transaction's settling has at hand: two maps, the state's box, and the row that comes out. -/
structure SS (wz : World) (p n1 n2 : Nat) (D D2 : DataW Value) (c0 c1 u : Value) (M : List Ef) (W : World) : Prop where
  m1 : OM W (p + 1) n1 D
  m2 : OM W (p + 2) n2 D2
  x : Whole W p 45 #[c0, c1]
  o : OEfs W wz.heap.size u M
  u : Upd (fun b => b = p + 2) wz W
  lt : p + 2 < wz.heap.size
theorem SS.below {wz : World} {p n1 n2 : Nat} {D D2 : DataW Value} {c0 c1 u : Value} {M : List Ef} {W W' : World} (h : SS wz p n1 n2 D D2 c0 c1 u M W) (k : Below W.heap.size W W') : SS wz p n1 n2 D D2 c0 c1 u M W' :=
  ⟨h.m1.below k, h.m2.below k, h.x.below k, own_below h.o k, h.u.trans (Upd.of_below (S := fun _ => False) k) (fun _ _ t => t.elim), h.lt⟩
theorem SS.put {wz : World} {p n1 n2 n' : Nat} {D D2 D' : DataW Value} {c0 c1 u : Value} {M : List Ef} {W W' : World} (h : SS wz p n1 n2 D D2 c0 c1 u M W) (hown : OM W' (p + 2) n' D') (hg : W.grownBy W' (some (p + 2))) : SS wz p n1 n' D D' c0 c1 u M W' := by
  have hu := Upd.of_grown (S := fun b => b = p + 2) hg (fun k hk => (Option.some.inj hk).symm)
  refine ⟨h.m1.keep hu (by omega), hown, h.x.upd hu (by omega), own_upd h.o hu (fun b hb e => ?_), h.u.trans hu (fun _ _ t => t), h.lt⟩
  have := (own_lt h.o hb).1
  have := h.lt
  omega
theorem SS.app {wz : World} {p n1 n2 : Nat} {D D2 : DataW Value} {c0 c1 u u' : Value} {M : List Ef} {x : Ef} {W W' : World} (h : SS wz p n1 n2 D D2 c0 c1 u M W) (hown : W'.ownsRow wz.heap.size 50 13 u' (M.length + 1) (M.flatMap Ef.cells ++ x.cells)) (hg : W.grownBy W' u.ownBlock) : SS wz p n1 n2 D D2 c0 c1 u' (M ++ [x]) W' := by
  have hu := Upd.of_grown (S := fun b => u.ownBlock = some b) hg (fun _ h => h)
  have h1 := h.lt
  have h2 : ∀ b, u.ownBlock = some b → wz.heap.size ≤ b := fun b hb => (own_lt h.o hb).1
  refine ⟨h.m1.keep hu (fun e => ?_), h.m2.keep hu (fun e => ?_), h.x.upd hu (fun e => ?_), efs_snoc hown, h.u.trans hu (fun b hb t => ?_), h1⟩
  · have := h2 _ e; omega
  · have := h2 _ e; omega
  · have := h2 _ e; omega
  · have := h2 _ t; omega
theorem SS.low {wz : World} {p n1 n2 : Nat} {D D2 : DataW Value} {c0 c1 u : Value} {M : List Ef} {W : World} (h : SS wz p n1 n2 D D2 c0 c1 u M W) {w : World} (hw : w.heap.size ≤ p) (hb : Below w.heap.size w wz) : Below w.heap.size w W :=
  hb.trans (h.u.below hb.size (fun b e => by omega))

set_option maxRecDepth 100000 in
set_option maxHeartbeats 8000000 in
theorem tsettle_any (w : World) (next : Int) (v : Value) (L : List Ob) (wv : Value) (E : List Ef) (hL : VObs w v L) (hE : VEfs w wv E) (hm : L.length ≤ 1000000) (hr : ∀ o ∈ L, o.rows.length ≤ 400000) (hn : E.length ≤ 100000) (hs : ∀ o ∈ L, Srt o.rows) (hz : ∀ e ∈ E, e.obj.size ≤ szS ∧ e.key.size ≤ szS) :
    Calls Try.prog 31 #[.agg #[.int .i64 next, v], wv] w fun e w' => ∃ v', e = .returned v' ∧ OEfs w' w.heap.size v' (settleTo L E E.length) ∧ Below w.heap.size w w' := by
  obtain ⟨i0, hi0, hz0, hz1, hz2⟩ := info_parts infoEf
  obtain ⟨A, cap, rfl, hc, _⟩ := hL.view.cells
  obtain ⟨A2, cap2, rfl, hc2, _⟩ := hE.cells
  have hmm := @run_makeMap Try.prog
  have hb0 : Below w.heap.size w (w.alloc (.cells #[.int .i64 next, .slice A L.length cap] 45)) := (Below.refl _ _).alloc (Nat.le_refl _) _
  have hbA := (hb0.alloc hb0.size (.map #[] 0))
  have hbB := Lib.hid (hbA.alloc hbA.size (.map #[] 0))
  have hx := ((Whole.new w 45 #[.int .i64 next, .slice A L.length cap]).alloc (.map #[] 0)).alloc (.map #[] 0)
  have hsz : (w.alloc (.cells #[.int .i64 next, .slice A L.length cap] 45)).heap.size = w.heap.size + 1 := by simp
  have hsz2 : ((w.alloc (.cells #[.int .i64 next, .slice A L.length cap] 45)).alloc (.map #[] 0)).heap.size = w.heap.size + 2 := by simp
  have hO1 := (World.ownsMap_made (H := Value) (w.alloc (.cells #[.int .i64 next, .slice A L.length cap] 45)) Try.prog 104 (fun v => some (.held v, []))).alloc (.map #[] 0)
  rw [hsz] at hO1
  have hO2 := World.ownsMap_made (H := Value) ((w.alloc (.cells #[.int .i64 next, .slice A L.length cap] 45)).alloc (.map #[] 0)) Try.prog 104 (fun v => some (.held v, []))
  rw [hsz2] at hO2
  replace hL := Lib.hid hL
  replace hE := Lib.hid hE
  replace hr := Lib.hid hr
  replace hs := Lib.hid hs
  replace hz := Lib.hid hz
  replace hO1 := Lib.hid hO1
  replace hO2 := Lib.hid hO2
  replace hx := Lib.hid hx
  clear hb0 hbA hsz hsz2
  go_enter Try.func31, Try.ntmps31
  go_upto_region 3 with fail
  clear hmm
  generalize ((w.alloc (.cells #[.int .i64 next, .slice A L.length cap] 45)).alloc (.map #[] 0)).alloc (.map #[] 0) = wA at *
  go_loopw [19] (fun i wr => ∃ (k : Nat) (D : DataW Value), k ≤ E.length ∧ i = .int .i64 k ∧ OM wr (w.heap.size + 1) k D ∧ MapIs zEf D (lastV (E.take k)) ∧ OM wr (w.heap.size + 2) 0 (.map []) ∧ Whole wr w.heap.size 45 #[.int .i64 next, .slice A L.length cap] ∧ Below w.heap.size w wr) (fun i _ => E.length - (intOf i).toNat)
  case atStart => exact ⟨0, .map [], by omega, rfl, hO1.out, MapIs.nil zEf, hO2.out, hx.out, hbB.out⟩
  case round =>
    clear hO1 hO2 hx hbB
    obtain ⟨k, D, hk, rfl, hM, hI, hM2, hX, hB⟩ := hrel
    by_cases hlt : k < E.length
    · have q1 : (k : Int) < (E.length : Int) := by omega
      obtain ⟨b, off, cap', e, _, _, hbl, f⟩ := efs_at (View.below hE.out hB) (by omega)
      injection e with e1 e2 e3
      subst e1 e3
      obtain ⟨p0, p1, p2, p3, p4, p5, p6, p7, p8, p9, p10, p11, p12⟩ := f k hlt
      clear f
      obtain ⟨z1, z2⟩ := hz.out E[k] (List.getElem_mem hlt)
      have hput := lastV_put hlt
      have hkeep := lastV_keep hlt
      have hMx := hM.alloc (.cells E[k].cells.toArray 50)
      have hM2x := hM2.alloc (.cells E[k].cells.toArray 50)
      have hXx := hX.alloc (.cells E[k].cells.toArray 50)
      have hBx := hB.alloc hB.size (.cells E[k].cells.toArray 50)
      generalize E[k] = x at *
      obtain ⟨x0, x1, x2, x3, x4, x5, x6, ⟨x7, x8, x9, x10, x11, x12⟩⟩ := x
      unfold Ef.cells at hMx hM2x hXx hBx
      simp only at p0 p1 p2 p3 p4 p5 p6 p7 p8 p9 p10 p11 p12 z1 z2 hMx hM2x hXx hBx
      have hkey := Lib.hid (place_key z1 z2)
      have hI1 := fun hh => (hI.put z1 z2 (Ef.vv ⟨x0, x1, x2, x3, x4, x5, x6, ⟨x7, x8, x9, x10, x11, x12⟩⟩)).congr (hput hh)
      have hI2 := fun hh => hI.congr (hkeep hh)
      clear hput hkeep hM hM2 hX hB hI
      have hkk : k < maxLen := by simp only [maxLen]; omega
      by_cases h2 : x0 = 2
      · subst h2
        replace hI1 := Lib.hid (hI1 rfl)
        clear hI2
        replace hMx := Lib.hid hMx
        replace hM2x := Lib.hid hM2x
        replace hXx := Lib.hid hXx
        replace hBx := Lib.hid hBx
        go_wp2_with (at_mapUpdate; refine wpList_mapUpdate_own _ rfl _ _ _ 101 rfl 104 50 law_place Try.underlying101 _ (w.heap.size + 1) k D rfl hMx.out hkk (pl x1 x2) _ (KL x1 x2) rfl rfl hkey.out _ [] rfl ?_; intro w4 hown4 hg4)
        go_roundw
        case rel => exact ⟨k + 1, _, by omega, by go_num, hown4, hI1.out, hM2x.out.kept hg4 (by simp), hXx.out.grown hg4 (by simp), hBx.out.grown hg4 hBx.out.size (fun j hj => by simp at hj; omega)⟩
        case measure => simp [intOf]; omega
      · by_cases h3 : x0 = 3
        · subst h3
          replace hI1 := Lib.hid (hI1 rfl)
          clear hI2
          replace hMx := Lib.hid hMx
          replace hM2x := Lib.hid hM2x
          replace hXx := Lib.hid hXx
          replace hBx := Lib.hid hBx
          go_wp2_with (at_mapUpdate; refine wpList_mapUpdate_own _ rfl _ _ _ 101 rfl 104 50 law_place Try.underlying101 _ (w.heap.size + 1) k D rfl hMx.out hkk (pl x1 x2) _ (KL x1 x2) rfl rfl hkey.out _ [] rfl ?_; intro w4 hown4 hg4)
          go_roundw
          case rel => exact ⟨k + 1, _, by omega, by go_num, hown4, hI1.out, hM2x.out.kept hg4 (by simp), hXx.out.grown hg4 (by simp), hBx.out.grown hg4 hBx.out.size (fun j hj => by simp at hj; omega)⟩
          case measure => simp [intOf]; omega
        · have h2' : (x0 == 2) = false := beq_eq_false_iff_ne.2 h2
          have h3' : (x0 == 3) = false := beq_eq_false_iff_ne.2 h3
          replace hI2 := Lib.hid (hI2 (by unfold onR; simp [h2, h3]))
          clear hI1 hkey
          replace hMx := Lib.hid hMx
          replace hM2x := Lib.hid hM2x
          replace hXx := Lib.hid hXx
          replace hBx := Lib.hid hBx
          go_wp2_with fail
          go_roundw
          case rel => exact ⟨k + 1, D, by omega, by go_num, hMx.out.mono (by omega), hI2.out, hM2x.out, hXx.out, hBx.out⟩
          case measure => simp [intOf]; omega
    · have hlt' : k = E.length := by omega
      subst hlt'
      rw [List.take_length] at hI
      have q1 : ¬ (E.length : Int) < (E.length : Int) := by omega
      obtain ⟨wz, hwz⟩ : ∃ x, x = wr := ⟨wr, rfl⟩
      subst hwz
      have hS0 : SS wz w.heap.size E.length 0 D (.map []) (.int .i64 next) (.slice A L.length cap) (.slice none 0 0) (settleTo L E 0) wz := ⟨hM, hM2, hX, World.ownsRow_nil _ _ _ _, Upd.refl _ _, hM2.lt⟩
      replace hS0 := Lib.hid hS0
      replace hI := Lib.hid hI
      replace hB := Lib.hid hB
      clear hM hM2 hX
      go_upto_region 10 with fail
      go_loopw [9, 41] (fun a i wr => ∃ (k n2 : Nat) (D2 : DataW Value), k ≤ E.length ∧ i = .int .i64 k ∧ n2 ≤ k ∧ MapIs (.bool false) D2 (fun o q => .bool (met (E.take k) o q)) ∧ SS wz w.heap.size E.length n2 D D2 (.int .i64 next) (.slice A L.length cap) a (settleTo L E k) wr) (fun _ i _ => E.length - (intOf i).toNat)
      case atStart => exact ⟨0, 0, .map [], by omega, rfl, Nat.le_refl _, MapIs.nil _, hS0.out⟩
      case round =>
        clear hS0
        obtain ⟨k, n2, D2, hk, rfl, hn2, hI2, hS⟩ := hrel
        by_cases hlt : k < E.length
        · have q1 : (k : Int) < (E.length : Int) := by omega
          have hBw := hS.low (Nat.le_refl _) hB.out
          obtain ⟨b, off, cap', e, _, _, hbl, f⟩ := efs_at (View.below hE.out hBw) (by omega)
          injection e with e1 e2 e3
          subst e1 e3
          obtain ⟨p0, p1, p2, p3, p4, p5, p6, p7, p8, p9, p10, p11, p12⟩ := f k hlt
          clear f
          obtain ⟨z1, z2⟩ := hz.out E[k] (List.getElem_mem hlt)
          have hput := met_put hlt
          have hkeep := met_keep hlt
          have hsu := settle_succ (L := L) hlt
          have hsl := settle_len (L := L) (E := E) hk
          have hls : at_ E[k].obj E[k].key E[k] = true → ∃ e, lastOf E E[k].obj E[k].key = some e ∧ at_ E[k].obj E[k].key e = true := fun hh => last_some hlt hh
          generalize E[k] = x at *
          obtain ⟨x0, x1, x2, x3, x4, x5, x6, ⟨x7, x8, x9, x10, x11, x12⟩⟩ := x
          simp only at p0 p1 p2 p3 p4 p5 p6 p7 p8 p9 p10 p11 p12 z1 z2 hls
          have hkey := Lib.hid (place_key z1 z2)
          have hal : Below wr.heap.size wr (wr.alloc (.cells #[.int .i64 x0, .string x1, .string x2, .string x3, .int .i64 x4, .int .i64 x5, .bool x6, .int .i64 x7, .int .i64 x8, .int .i64 x9, .bool x10, .string x11, .string x12] 50)) := (Below.refl _ _).alloc (Nat.le_refl _) _
          have hSx := hS.below hal
          have hE4 : (Ef.mk x0 x1 x2 x3 x4 x5 x6 ⟨x7, x8, x9, x10, x11, x12⟩).kind = x0 := rfl
          by_cases h4 : x0 = 4 ∨ x0 = 5
          · have hst : stepE L E k ⟨x0, x1, x2, x3, x4, x5, x6, ⟨x7, x8, x9, x10, x11, x12⟩⟩ = [⟨x0, x1, x2, x3, x4, x5, x6, ⟨x7, x8, x9, x10, x11, x12⟩⟩] := by unfold stepE; rw [if_pos h4]
            rw [hst] at hsu
            have hI3 := Lib.hid (hI2.congr (fun o q => congrArg Value.bool (hkeep (.inl (by unfold onR; rcases h4 with rfl | rfl <;> rfl)) o q)))
            clear hput hkeep hls hst hal
            generalize settleTo L E k = M at *
            replace hsu := Lib.hid hsu
            rcases h4 with rfl | rfl
            · go_upto_region 15 with fail
              have hal6 : Below (wr.alloc (.cells #[.int .i64 4, .string x1, .string x2, .string x3, .int .i64 x4, .int .i64 x5, .bool x6, .int .i64 x7, .int .i64 x8, .int .i64 x9, .bool x10, .string x11, .string x12] 50)).heap.size (wr.alloc (.cells #[.int .i64 4, .string x1, .string x2, .string x3, .int .i64 x4, .int .i64 x5, .bool x6, .int .i64 x7, .int .i64 x8, .int .i64 x9, .bool x10, .string x11, .string x12] 50)) ((wr.alloc (.cells #[.int .i64 4, .string x1, .string x2, .string x3, .int .i64 x4, .int .i64 x5, .bool x6, .int .i64 x7, .int .i64 x8, .int .i64 x9, .bool x10, .string x11, .string x12] 50)).alloc (.cells (Ef.mk 4 x1 x2 x3 x4 x5 x6 ⟨x7, x8, x9, x10, x11, x12⟩).cells.toArray 50)) := (Below.refl _ _).alloc (Nat.le_refl _) _
              have hS6 := Lib.hid (hSx.below hal6)
              have hsz6 : wz.heap.size ≤ ((wr.alloc (.cells #[.int .i64 4, .string x1, .string x2, .string x3, .int .i64 x4, .int .i64 x5, .bool x6, .int .i64 x7, .int .i64 x8, .int .i64 x9, .bool x10, .string x11, .string x12] 50)).alloc (.cells (Ef.mk 4 x1 x2 x3 x4 x5 x6 ⟨x7, x8, x9, x10, x11, x12⟩).cells.toArray 50)).heap.size := hS6.out.u.size
              have hvx := Lib.hid (View.boxAt (sz := 13) (wr.alloc (.cells #[.int .i64 4, .string x1, .string x2, .string x3, .int .i64 x4, .int .i64 x5, .bool x6, .int .i64 x7, .int .i64 x8, .int .i64 x9, .bool x10, .string x11, .string x12] 50)) (Ef.mk 4 x1 x2 x3 x4 x5 x6 ⟨x7, x8, x9, x10, x11, x12⟩).cells 50 (wr.heap.size + 1) rfl (by simp))
              clear hal6
              have hob6 : ((wr.alloc (.cells #[.int .i64 4, .string x1, .string x2, .string x3, .int .i64 x4, .int .i64 x5, .bool x6, .int .i64 x7, .int .i64 x8, .int .i64 x9, .bool x10, .string x11, .string x12] 50)).alloc (.cells (Ef.mk 4 x1 x2 x3 x4 x5 x6 ⟨x7, x8, x9, x10, x11, x12⟩).cells.toArray 50)).ownsRow wz.heap.size 50 13 u9 M.length (M.flatMap Ef.cells) := hS6.out.o
              replace hob6 := Lib.hid hob6
              have hvy := hvx.out
              go_wp2_with (at_builtin; refine wpList_append_view _ rfl (.tmp 50) (.tmp 52) _ rfl wz.heap.size 50 i0 zEf 13 144 Try.underlying46 hi0 hz0 hz1 hz2 rfl (by decide) _ M.length _ rfl hob6.out _ 1 (Ef.mk 4 x1 x2 x3 x4 x5 x6 ⟨x7, x8, x9, x10, x11, x12⟩).cells rfl hvx.out (Ef.one1 _) (by omega) (by simp only [maxLen]; omega) hsz6 ?_; intro v3 w3 hown hg hat)
              have hS7 := hS6.out.app hown hg
              go_roundw
              case rel => exact ⟨k + 1, n2, _, by omega, by go_num, (by omega), hI3.out, by rw [hsu.out]; exact hS7⟩
              case measure => simp [intOf]; omega
            · go_upto_region 15 with fail
              have hal6 : Below (wr.alloc (.cells #[.int .i64 5, .string x1, .string x2, .string x3, .int .i64 x4, .int .i64 x5, .bool x6, .int .i64 x7, .int .i64 x8, .int .i64 x9, .bool x10, .string x11, .string x12] 50)).heap.size (wr.alloc (.cells #[.int .i64 5, .string x1, .string x2, .string x3, .int .i64 x4, .int .i64 x5, .bool x6, .int .i64 x7, .int .i64 x8, .int .i64 x9, .bool x10, .string x11, .string x12] 50)) ((wr.alloc (.cells #[.int .i64 5, .string x1, .string x2, .string x3, .int .i64 x4, .int .i64 x5, .bool x6, .int .i64 x7, .int .i64 x8, .int .i64 x9, .bool x10, .string x11, .string x12] 50)).alloc (.cells (Ef.mk 5 x1 x2 x3 x4 x5 x6 ⟨x7, x8, x9, x10, x11, x12⟩).cells.toArray 50)) := (Below.refl _ _).alloc (Nat.le_refl _) _
              have hS6 := Lib.hid (hSx.below hal6)
              have hsz6 : wz.heap.size ≤ ((wr.alloc (.cells #[.int .i64 5, .string x1, .string x2, .string x3, .int .i64 x4, .int .i64 x5, .bool x6, .int .i64 x7, .int .i64 x8, .int .i64 x9, .bool x10, .string x11, .string x12] 50)).alloc (.cells (Ef.mk 5 x1 x2 x3 x4 x5 x6 ⟨x7, x8, x9, x10, x11, x12⟩).cells.toArray 50)).heap.size := hS6.out.u.size
              have hvx := Lib.hid (View.boxAt (sz := 13) (wr.alloc (.cells #[.int .i64 5, .string x1, .string x2, .string x3, .int .i64 x4, .int .i64 x5, .bool x6, .int .i64 x7, .int .i64 x8, .int .i64 x9, .bool x10, .string x11, .string x12] 50)) (Ef.mk 5 x1 x2 x3 x4 x5 x6 ⟨x7, x8, x9, x10, x11, x12⟩).cells 50 (wr.heap.size + 1) rfl (by simp))
              clear hal6
              have hob6 : ((wr.alloc (.cells #[.int .i64 5, .string x1, .string x2, .string x3, .int .i64 x4, .int .i64 x5, .bool x6, .int .i64 x7, .int .i64 x8, .int .i64 x9, .bool x10, .string x11, .string x12] 50)).alloc (.cells (Ef.mk 5 x1 x2 x3 x4 x5 x6 ⟨x7, x8, x9, x10, x11, x12⟩).cells.toArray 50)).ownsRow wz.heap.size 50 13 u9 M.length (M.flatMap Ef.cells) := hS6.out.o
              replace hob6 := Lib.hid hob6
              have hvy := hvx.out
              go_wp2_with (at_builtin; refine wpList_append_view _ rfl (.tmp 50) (.tmp 52) _ rfl wz.heap.size 50 i0 zEf 13 144 Try.underlying46 hi0 hz0 hz1 hz2 rfl (by decide) _ M.length _ rfl hob6.out _ 1 (Ef.mk 5 x1 x2 x3 x4 x5 x6 ⟨x7, x8, x9, x10, x11, x12⟩).cells rfl hvx.out (Ef.one1 _) (by omega) (by simp only [maxLen]; omega) hsz6 ?_; intro v3 w3 hown hg hat)
              have hS7 := hS6.out.app hown hg
              go_roundw
              case rel => exact ⟨k + 1, n2, _, by omega, by go_num, (by omega), hI3.out, by rw [hsu.out]; exact hS7⟩
              case measure => simp [intOf]; omega
          · by_cases h2 : x0 = 2
            · subst h2
              have hon : onR ⟨2, x1, x2, x3, x4, x5, x6, ⟨x7, x8, x9, x10, x11, x12⟩⟩ = true := rfl
              have hat : at_ x1 x2 ⟨2, x1, x2, x3, x4, x5, x6, ⟨x7, x8, x9, x10, x11, x12⟩⟩ = true := by unfold at_; simp [hon]
              obtain ⟨y, hy1, hy2⟩ := hls hat
              have hst : stepE L E k ⟨2, x1, x2, x3, x4, x5, x6, ⟨x7, x8, x9, x10, x11, x12⟩⟩ = if met (E.take k) x1 x2 = true then [] else keepE L y := by
                unfold stepE
                rw [if_neg h4, if_pos hon]
                show (if met (E.take k) x1 x2 = true then [] else ((lastOf E x1 x2).map (keepE L)).getD []) = _
                rw [hy1]
                rfl
              rw [hst] at hsu
              have hal2 : Below wr.heap.size wr ((wr.alloc (.cells #[.int .i64 2, .string x1, .string x2, .string x3, .int .i64 x4, .int .i64 x5, .bool x6, .int .i64 x7, .int .i64 x8, .int .i64 x9, .bool x10, .string x11, .string x12] 50)).alloc (.cells #[.string x1, .string x2] 104)) := hal.alloc hal.size _
              have hSy := hS.below hal2
              have c1 := ((Whole.new wr 50 #[.int .i64 2, .string x1, .string x2, .string x3, .int .i64 x4, .int .i64 x5, .bool x6, .int .i64 x7, .int .i64 x8, .int .i64 x9, .bool x10, .string x11, .string x12]).alloc (.cells #[.string x1, .string x2] 104)).cell 1
              have c2 := ((Whole.new wr 50 #[.int .i64 2, .string x1, .string x2, .string x3, .int .i64 x4, .int .i64 x5, .bool x6, .int .i64 x7, .int .i64 x8, .int .i64 x9, .bool x10, .string x11, .string x12]).alloc (.cells #[.string x1, .string x2] 104)).cell 2
              have d0 := (Whole.new (wr.alloc (.cells #[.int .i64 2, .string x1, .string x2, .string x3, .int .i64 x4, .int .i64 x5, .bool x6, .int .i64 x7, .int .i64 x8, .int .i64 x9, .bool x10, .string x11, .string x12] 50)) 104 #[.string x1, .string x2]).cell 0
              have d1 := (Whole.new (wr.alloc (.cells #[.int .i64 2, .string x1, .string x2, .string x3, .int .i64 x4, .int .i64 x5, .bool x6, .int .i64 x7, .int .i64 x8, .int .i64 x9, .bool x10, .string x11, .string x12] 50)) 104 #[.string x1, .string x2]).cell 1
              rw [show (wr.alloc (.cells #[.int .i64 2, .string x1, .string x2, .string x3, .int .i64 x4, .int .i64 x5, .bool x6, .int .i64 x7, .int .i64 x8, .int .i64 x9, .bool x10, .string x11, .string x12] 50)).heap.size = wr.heap.size + 1 by simp] at d0 d1
              have hl8 : wr.heap.size + 1 < ((wr.alloc (.cells #[.int .i64 2, .string x1, .string x2, .string x3, .int .i64 x4, .int .i64 x5, .bool x6, .int .i64 x7, .int .i64 x8, .int .i64 x9, .bool x10, .string x11, .string x12] 50)).alloc (.cells #[.string x1, .string x2] 104)).heap.size := by simp
              have hzq : wz.heap.size ≤ wr.heap.size := hS.u.size
              have hzp := hS.lt
              replace hSy := Lib.hid hSy
              replace hI2 := Lib.hid hI2
              replace hsu := Lib.hid hsu
              replace hSx := Lib.hid hSx
              replace hS := Lib.hid hS
              replace hBw := Lib.hid hBw
              replace hput := Lib.hid hput
              replace hkeep := Lib.hid hkeep
              replace hy1 := Lib.hid hy1
              replace hy2 := Lib.hid hy2
              clear hls hst hal hal2 hat
              have c1' := Lib.hid c1
              have c2' := Lib.hid c2
              have d0' := Lib.hid d0
              have d1' := Lib.hid d1
              clear c1 c2 d0 d1
              go_upto_region 19 with fail
              have c1 := c1'.out
              have c2 := c2'.out
              have d0 := d0'.out
              have d1 := d1'.out
              clear c1' c2' d0' d1' hS hSx hBw
              generalize (wr.alloc (.cells #[.int .i64 2, .string x1, .string x2, .string x3, .int .i64 x4, .int .i64 x5, .bool x6, .int .i64 x7, .int .i64 x8, .int .i64 x9, .bool x10, .string x11, .string x12] 50)).alloc (.cells #[.string x1, .string x2] 104) = W1 at *
              generalize wr.heap.size = q at *
              have hlk := hSy.out.m2.look hI2.out Try.underlying102 (zero_bool W1) z1 z2
              unfold pl at hlk
              generalize settleTo L E k = M at *
              by_cases hmet : met (E.take k) x1 x2 = true
              · rw [hmet] at hlk
                have hI3 := Lib.hid (hI2.out.congr (fun o q => congrArg Value.bool (hkeep.out (.inr hmet) o q)))
                have hsu2 := hsu.out
                rw [if_pos hmet, List.append_nil] at hsu2
                replace hsu2 := Lib.hid hsu2
                replace hmet := Lib.hid hmet
                clear hkey hput hkeep hI2 hsu hmet
                go_wp2_with fail
                go_roundw
                case rel => exact ⟨k + 1, n2, D2, by omega, by go_num, by omega, hI3.out, by rw [hsu2.out]; exact hSy.out⟩
                case measure => simp [intOf]; omega
              · rw [Bool.not_eq_true] at hmet
                rw [hmet] at hlk
                have hI3 := Lib.hid ((hI2.out.put z1 z2 (.bool true)).congr (hput.out hon))
                have hsu2 := hsu.out
                rw [if_neg (by rw [hmet]; decide)] at hsu2
                replace hsu2 := Lib.hid hsu2
                clear hmet hsu hput hkeep hI2
                have hkk : n2 < maxLen := by simp only [maxLen]; omega
                go_upto_region 21 with (at_mapUpdate; refine wpList_mapUpdate_own _ rfl _ _ _ 102 rfl 104 4 law_place Try.underlying102 _ (w.heap.size + 2) n2 D2 rfl hSy.out.m2 hkk (pl x1 x2) (.bool true) (KL x1 x2) rfl rfl hkey.out (.held (.bool true)) [] rfl ?_; intro w4 hown4 hg4)
                have hu4 := Upd.of_grown (S := fun b => b = w.heap.size + 2) hg4 (fun k hk => (Option.some.inj hk).symm)
                have hS4 := hSy.out.put hown4 hg4
                replace c1 := (hu4.cell (p := ⟨q, 1, none⟩) (by show q < _; omega) (by show ¬ q = _; omega)).trans c1
                replace c2 := (hu4.cell (p := ⟨q, 2, none⟩) (by show q < _; omega) (by show ¬ q = _; omega)).trans c2
                replace d0 := (hu4.cell (p := ⟨q + 1, 0, none⟩) (by show q + 1 < _; omega) (by show ¬ q + 1 = _; omega)).trans d0
                replace d1 := (hu4.cell (p := ⟨q + 1, 1, none⟩) (by show q + 1 < _; omega) (by show ¬ q + 1 = _; omega)).trans d1
                have hl4 : q + 1 < w4.heap.size := Nat.lt_of_lt_of_le hl8 hu4.size
                have hB4 := hS4.low (Nat.le_refl _) hB.out
                have kG := tget1_any w4 next _ L (.slice none 0 0) [] x1 x2 (hL.out.below hB4) (View.nil _ _) hm hr.out (by simp) (base_srt hs.out)
                rw [show tab L [] x1 = baseR L x1 from rfl] at kG
                have e0 := hS4.x.cell 0
                have e1 := hS4.x.cell 1
                have e2 := hS4.x.lt
                replace kG := Lib.hid kG
                replace hS4 := Lib.hid hS4
                clear hlk hown4 hg4 hu4 hSy hB4 hl8
                go_upto_region 22 with (go_at_call 24; refine kG.out.mono ?_; rintro e w5 ⟨rfl, hb5⟩)
                have hS5 := hS4.out.below hb5
                replace d0 := (hb5.cell (p := ⟨q + 1, 0, none⟩) hl4).trans d0
                replace d1 := (hb5.cell (p := ⟨q + 1, 1, none⟩) hl4).trans d1
                have hl5 : q + 1 < w5.heap.size := Nat.lt_of_lt_of_le hl4 hb5.size
                have hlk1 := hS5.m1.look hI.out Try.underlying101 (zero_ef w5) z1 z2
                rw [show lastV E x1 x2 = y.vv by unfold lastV; rw [hy1.out]; rfl] at hlk1
                have hth : thereB L y = (look (baseR L x1) x2).isSome := by
                  have h9 := hy2.out
                  unfold at_ at h9
                  simp only [Bool.and_eq_true, decide_eq_true_eq] at h9
                  unfold thereB
                  rw [h9.1.2, h9.2]
                have hsu3 := hsu2.out
                unfold keepE at hsu3
                rw [hth] at hsu3
                clear hy1 hy2 hth hsu2 hS4 kG c1 c2 e0 e1 e2 hb5
                obtain ⟨y0, y1, y2, y3, y4, y5, y6, ⟨y7, y8, y9, y10, y11, y12⟩⟩ := y
                unfold Ef.vv Ef.cells pl at hlk1
                simp only at hlk1 hsu3
                have hfld : (Instr.field 50 (.agg #[.int .i64 y0, .string y1, .string y2, .string y3, .int .i64 y4, .int .i64 y5, .bool y6, .int .i64 y7, .int .i64 y8, .int .i64 y9, .bool y10, .string y11, .string y12]) 0).run Try.prog w5 = .ok (.int .i64 y0) w5 := field_ef _ _ _ _ _ _ _ _ _ _ _ _ _ _
                generalize look (baseR L x1) x2 = lr at *
                by_cases hy : y0 = 2
                · subst hy
                  rw [if_pos (.inl rfl)] at hsu3
                  replace hsu := Lib.hid hsu3
                  clear hsu3
                  go_upto_region 23 with fail
                  have hal6 : Below w5.heap.size w5 (w5.alloc (.cells (Ef.mk 2 y1 y2 y3 y4 y5 y6 ⟨y7, y8, y9, y10, y11, y12⟩).cells.toArray 50)) := (Below.refl _ _).alloc (Nat.le_refl _) _
                  have hS6 := Lib.hid (hS5.below hal6)
                  have hsz6 : wz.heap.size ≤ (w5.alloc (.cells (Ef.mk 2 y1 y2 y3 y4 y5 y6 ⟨y7, y8, y9, y10, y11, y12⟩).cells.toArray 50)).heap.size := hS6.out.u.size
                  have hvx := Lib.hid (View.boxAt (sz := 13) w5 (Ef.mk 2 y1 y2 y3 y4 y5 y6 ⟨y7, y8, y9, y10, y11, y12⟩).cells 50 w5.heap.size rfl rfl)
                  clear hal6
                  have hob6 : (w5.alloc (.cells (Ef.mk 2 y1 y2 y3 y4 y5 y6 ⟨y7, y8, y9, y10, y11, y12⟩).cells.toArray 50)).ownsRow wz.heap.size 50 13 u9 M.length (M.flatMap Ef.cells) := hS6.out.o
                  replace hob6 := Lib.hid hob6
                  have hvy := hvx.out
                  go_wp2_with (at_builtin; refine wpList_append_view _ rfl (.tmp 84) (.tmp 88) _ rfl wz.heap.size 50 i0 zEf 13 144 Try.underlying46 hi0 hz0 hz1 hz2 rfl (by decide) _ M.length _ rfl hob6.out _ 1 (Ef.mk 2 y1 y2 y3 y4 y5 y6 ⟨y7, y8, y9, y10, y11, y12⟩).cells rfl hvx.out (Ef.one1 _) (by omega) (by simp only [maxLen]; omega) hsz6 ?_; intro v3 w3 hown hg hat)
                  have hS7 := hS6.out.app hown hg
                  go_roundw
                  case rel => exact ⟨k + 1, (n2 + 1), _, by omega, by go_num, (by omega), hI3.out, by rw [hsu.out]; exact hS7⟩
                  case measure => simp [intOf]; omega
                · have hy' : (y0 == 2) = false := beq_eq_false_iff_ne.2 hy
                  cases lr with
                  | some t =>
                    rw [if_pos (.inr rfl)] at hsu3
                    replace hsu := Lib.hid hsu3
                    clear hsu3
                    go_upto_region 23 with fail
                    have hal6 : Below w5.heap.size w5 (w5.alloc (.cells (Ef.mk y0 y1 y2 y3 y4 y5 y6 ⟨y7, y8, y9, y10, y11, y12⟩).cells.toArray 50)) := (Below.refl _ _).alloc (Nat.le_refl _) _
                    have hS6 := Lib.hid (hS5.below hal6)
                    have hsz6 : wz.heap.size ≤ (w5.alloc (.cells (Ef.mk y0 y1 y2 y3 y4 y5 y6 ⟨y7, y8, y9, y10, y11, y12⟩).cells.toArray 50)).heap.size := hS6.out.u.size
                    have hvx := Lib.hid (View.boxAt (sz := 13) w5 (Ef.mk y0 y1 y2 y3 y4 y5 y6 ⟨y7, y8, y9, y10, y11, y12⟩).cells 50 w5.heap.size rfl rfl)
                    clear hal6
                    have hob6 : (w5.alloc (.cells (Ef.mk y0 y1 y2 y3 y4 y5 y6 ⟨y7, y8, y9, y10, y11, y12⟩).cells.toArray 50)).ownsRow wz.heap.size 50 13 u9 M.length (M.flatMap Ef.cells) := hS6.out.o
                    replace hob6 := Lib.hid hob6
                    have hvy := hvx.out
                    go_wp2_with (at_builtin; refine wpList_append_view _ rfl (.tmp 84) (.tmp 88) _ rfl wz.heap.size 50 i0 zEf 13 144 Try.underlying46 hi0 hz0 hz1 hz2 rfl (by decide) _ M.length _ rfl hob6.out _ 1 (Ef.mk y0 y1 y2 y3 y4 y5 y6 ⟨y7, y8, y9, y10, y11, y12⟩).cells rfl hvx.out (Ef.one1 _) (by omega) (by simp only [maxLen]; omega) hsz6 ?_; intro v3 w3 hown hg hat)
                    have hS7 := hS6.out.app hown hg
                    go_roundw
                    case rel => exact ⟨k + 1, (n2 + 1), _, by omega, by go_num, (by omega), hI3.out, by rw [hsu.out]; exact hS7⟩
                    case measure => simp [intOf]; omega
                  | none =>
                    rw [if_neg (by rintro (h | h); exact hy h; cases h), List.append_nil] at hsu3
                    replace hsu := Lib.hid hsu3
                    clear hsu3
                    replace hS5 := Lib.hid hS5
                    go_wp2_with fail
                    go_roundw
                    case rel => exact ⟨k + 1, n2 + 1, _, by omega, by go_num, by omega, hI3.out, by rw [hsu.out]; exact hS5.out⟩
                    case measure => simp [intOf]; omega
            · by_cases h3 : x0 = 3
              · subst h3
                have hon : onR ⟨3, x1, x2, x3, x4, x5, x6, ⟨x7, x8, x9, x10, x11, x12⟩⟩ = true := rfl
                have hat : at_ x1 x2 ⟨3, x1, x2, x3, x4, x5, x6, ⟨x7, x8, x9, x10, x11, x12⟩⟩ = true := by unfold at_; simp [hon]
                obtain ⟨y, hy1, hy2⟩ := hls hat
                have hst : stepE L E k ⟨3, x1, x2, x3, x4, x5, x6, ⟨x7, x8, x9, x10, x11, x12⟩⟩ = if met (E.take k) x1 x2 = true then [] else keepE L y := by
                  unfold stepE
                  rw [if_neg h4, if_pos hon]
                  show (if met (E.take k) x1 x2 = true then [] else ((lastOf E x1 x2).map (keepE L)).getD []) = _
                  rw [hy1]
                  rfl
                rw [hst] at hsu
                have hal2 : Below wr.heap.size wr ((wr.alloc (.cells #[.int .i64 3, .string x1, .string x2, .string x3, .int .i64 x4, .int .i64 x5, .bool x6, .int .i64 x7, .int .i64 x8, .int .i64 x9, .bool x10, .string x11, .string x12] 50)).alloc (.cells #[.string x1, .string x2] 104)) := hal.alloc hal.size _
                have hSy := hS.below hal2
                have c1 := ((Whole.new wr 50 #[.int .i64 3, .string x1, .string x2, .string x3, .int .i64 x4, .int .i64 x5, .bool x6, .int .i64 x7, .int .i64 x8, .int .i64 x9, .bool x10, .string x11, .string x12]).alloc (.cells #[.string x1, .string x2] 104)).cell 1
                have c2 := ((Whole.new wr 50 #[.int .i64 3, .string x1, .string x2, .string x3, .int .i64 x4, .int .i64 x5, .bool x6, .int .i64 x7, .int .i64 x8, .int .i64 x9, .bool x10, .string x11, .string x12]).alloc (.cells #[.string x1, .string x2] 104)).cell 2
                have d0 := (Whole.new (wr.alloc (.cells #[.int .i64 3, .string x1, .string x2, .string x3, .int .i64 x4, .int .i64 x5, .bool x6, .int .i64 x7, .int .i64 x8, .int .i64 x9, .bool x10, .string x11, .string x12] 50)) 104 #[.string x1, .string x2]).cell 0
                have d1 := (Whole.new (wr.alloc (.cells #[.int .i64 3, .string x1, .string x2, .string x3, .int .i64 x4, .int .i64 x5, .bool x6, .int .i64 x7, .int .i64 x8, .int .i64 x9, .bool x10, .string x11, .string x12] 50)) 104 #[.string x1, .string x2]).cell 1
                rw [show (wr.alloc (.cells #[.int .i64 3, .string x1, .string x2, .string x3, .int .i64 x4, .int .i64 x5, .bool x6, .int .i64 x7, .int .i64 x8, .int .i64 x9, .bool x10, .string x11, .string x12] 50)).heap.size = wr.heap.size + 1 by simp] at d0 d1
                have hl8 : wr.heap.size + 1 < ((wr.alloc (.cells #[.int .i64 3, .string x1, .string x2, .string x3, .int .i64 x4, .int .i64 x5, .bool x6, .int .i64 x7, .int .i64 x8, .int .i64 x9, .bool x10, .string x11, .string x12] 50)).alloc (.cells #[.string x1, .string x2] 104)).heap.size := by simp
                have hzq : wz.heap.size ≤ wr.heap.size := hS.u.size
                have hzp := hS.lt
                replace hSy := Lib.hid hSy
                replace hI2 := Lib.hid hI2
                replace hsu := Lib.hid hsu
                replace hSx := Lib.hid hSx
                replace hS := Lib.hid hS
                replace hBw := Lib.hid hBw
                replace hput := Lib.hid hput
                replace hkeep := Lib.hid hkeep
                replace hy1 := Lib.hid hy1
                replace hy2 := Lib.hid hy2
                clear hls hst hal hal2 hat
                have c1' := Lib.hid c1
                have c2' := Lib.hid c2
                have d0' := Lib.hid d0
                have d1' := Lib.hid d1
                clear c1 c2 d0 d1
                go_upto_region 19 with fail
                have c1 := c1'.out
                have c2 := c2'.out
                have d0 := d0'.out
                have d1 := d1'.out
                clear c1' c2' d0' d1' hS hSx hBw
                generalize (wr.alloc (.cells #[.int .i64 3, .string x1, .string x2, .string x3, .int .i64 x4, .int .i64 x5, .bool x6, .int .i64 x7, .int .i64 x8, .int .i64 x9, .bool x10, .string x11, .string x12] 50)).alloc (.cells #[.string x1, .string x2] 104) = W1 at *
                generalize wr.heap.size = q at *
                have hlk := hSy.out.m2.look hI2.out Try.underlying102 (zero_bool W1) z1 z2
                unfold pl at hlk
                generalize settleTo L E k = M at *
                by_cases hmet : met (E.take k) x1 x2 = true
                · rw [hmet] at hlk
                  have hI3 := Lib.hid (hI2.out.congr (fun o q => congrArg Value.bool (hkeep.out (.inr hmet) o q)))
                  have hsu2 := hsu.out
                  rw [if_pos hmet, List.append_nil] at hsu2
                  replace hsu2 := Lib.hid hsu2
                  replace hmet := Lib.hid hmet
                  clear hkey hput hkeep hI2 hsu hmet
                  go_wp2_with fail
                  go_roundw
                  case rel => exact ⟨k + 1, n2, D2, by omega, by go_num, by omega, hI3.out, by rw [hsu2.out]; exact hSy.out⟩
                  case measure => simp [intOf]; omega
                · rw [Bool.not_eq_true] at hmet
                  rw [hmet] at hlk
                  have hI3 := Lib.hid ((hI2.out.put z1 z2 (.bool true)).congr (hput.out hon))
                  have hsu2 := hsu.out
                  rw [if_neg (by rw [hmet]; decide)] at hsu2
                  replace hsu2 := Lib.hid hsu2
                  clear hmet hsu hput hkeep hI2
                  have hkk : n2 < maxLen := by simp only [maxLen]; omega
                  go_upto_region 21 with (at_mapUpdate; refine wpList_mapUpdate_own _ rfl _ _ _ 102 rfl 104 4 law_place Try.underlying102 _ (w.heap.size + 2) n2 D2 rfl hSy.out.m2 hkk (pl x1 x2) (.bool true) (KL x1 x2) rfl rfl hkey.out (.held (.bool true)) [] rfl ?_; intro w4 hown4 hg4)
                  have hu4 := Upd.of_grown (S := fun b => b = w.heap.size + 2) hg4 (fun k hk => (Option.some.inj hk).symm)
                  have hS4 := hSy.out.put hown4 hg4
                  replace c1 := (hu4.cell (p := ⟨q, 1, none⟩) (by show q < _; omega) (by show ¬ q = _; omega)).trans c1
                  replace c2 := (hu4.cell (p := ⟨q, 2, none⟩) (by show q < _; omega) (by show ¬ q = _; omega)).trans c2
                  replace d0 := (hu4.cell (p := ⟨q + 1, 0, none⟩) (by show q + 1 < _; omega) (by show ¬ q + 1 = _; omega)).trans d0
                  replace d1 := (hu4.cell (p := ⟨q + 1, 1, none⟩) (by show q + 1 < _; omega) (by show ¬ q + 1 = _; omega)).trans d1
                  have hl4 : q + 1 < w4.heap.size := Nat.lt_of_lt_of_le hl8 hu4.size
                  have hB4 := hS4.low (Nat.le_refl _) hB.out
                  have kG := tget1_any w4 next _ L (.slice none 0 0) [] x1 x2 (hL.out.below hB4) (View.nil _ _) hm hr.out (by simp) (base_srt hs.out)
                  rw [show tab L [] x1 = baseR L x1 from rfl] at kG
                  have e0 := hS4.x.cell 0
                  have e1 := hS4.x.cell 1
                  have e2 := hS4.x.lt
                  replace kG := Lib.hid kG
                  replace hS4 := Lib.hid hS4
                  clear hlk hown4 hg4 hu4 hSy hB4 hl8
                  go_upto_region 22 with (go_at_call 24; refine kG.out.mono ?_; rintro e w5 ⟨rfl, hb5⟩)
                  have hS5 := hS4.out.below hb5
                  replace d0 := (hb5.cell (p := ⟨q + 1, 0, none⟩) hl4).trans d0
                  replace d1 := (hb5.cell (p := ⟨q + 1, 1, none⟩) hl4).trans d1
                  have hl5 : q + 1 < w5.heap.size := Nat.lt_of_lt_of_le hl4 hb5.size
                  have hlk1 := hS5.m1.look hI.out Try.underlying101 (zero_ef w5) z1 z2
                  rw [show lastV E x1 x2 = y.vv by unfold lastV; rw [hy1.out]; rfl] at hlk1
                  have hth : thereB L y = (look (baseR L x1) x2).isSome := by
                    have h9 := hy2.out
                    unfold at_ at h9
                    simp only [Bool.and_eq_true, decide_eq_true_eq] at h9
                    unfold thereB
                    rw [h9.1.2, h9.2]
                  have hsu3 := hsu2.out
                  unfold keepE at hsu3
                  rw [hth] at hsu3
                  clear hy1 hy2 hth hsu2 hS4 kG c1 c2 e0 e1 e2 hb5
                  obtain ⟨y0, y1, y2, y3, y4, y5, y6, ⟨y7, y8, y9, y10, y11, y12⟩⟩ := y
                  unfold Ef.vv Ef.cells pl at hlk1
                  simp only at hlk1 hsu3
                  have hfld : (Instr.field 50 (.agg #[.int .i64 y0, .string y1, .string y2, .string y3, .int .i64 y4, .int .i64 y5, .bool y6, .int .i64 y7, .int .i64 y8, .int .i64 y9, .bool y10, .string y11, .string y12]) 0).run Try.prog w5 = .ok (.int .i64 y0) w5 := field_ef _ _ _ _ _ _ _ _ _ _ _ _ _ _
                  generalize look (baseR L x1) x2 = lr at *
                  by_cases hy : y0 = 2
                  · subst hy
                    rw [if_pos (.inl rfl)] at hsu3
                    replace hsu := Lib.hid hsu3
                    clear hsu3
                    go_upto_region 23 with fail
                    have hal6 : Below w5.heap.size w5 (w5.alloc (.cells (Ef.mk 2 y1 y2 y3 y4 y5 y6 ⟨y7, y8, y9, y10, y11, y12⟩).cells.toArray 50)) := (Below.refl _ _).alloc (Nat.le_refl _) _
                    have hS6 := Lib.hid (hS5.below hal6)
                    have hsz6 : wz.heap.size ≤ (w5.alloc (.cells (Ef.mk 2 y1 y2 y3 y4 y5 y6 ⟨y7, y8, y9, y10, y11, y12⟩).cells.toArray 50)).heap.size := hS6.out.u.size
                    have hvx := Lib.hid (View.boxAt (sz := 13) w5 (Ef.mk 2 y1 y2 y3 y4 y5 y6 ⟨y7, y8, y9, y10, y11, y12⟩).cells 50 w5.heap.size rfl rfl)
                    clear hal6
                    have hob6 : (w5.alloc (.cells (Ef.mk 2 y1 y2 y3 y4 y5 y6 ⟨y7, y8, y9, y10, y11, y12⟩).cells.toArray 50)).ownsRow wz.heap.size 50 13 u9 M.length (M.flatMap Ef.cells) := hS6.out.o
                    replace hob6 := Lib.hid hob6
                    have hvy := hvx.out
                    go_wp2_with (at_builtin; refine wpList_append_view _ rfl (.tmp 84) (.tmp 88) _ rfl wz.heap.size 50 i0 zEf 13 144 Try.underlying46 hi0 hz0 hz1 hz2 rfl (by decide) _ M.length _ rfl hob6.out _ 1 (Ef.mk 2 y1 y2 y3 y4 y5 y6 ⟨y7, y8, y9, y10, y11, y12⟩).cells rfl hvx.out (Ef.one1 _) (by omega) (by simp only [maxLen]; omega) hsz6 ?_; intro v3 w3 hown hg hat)
                    have hS7 := hS6.out.app hown hg
                    go_roundw
                    case rel => exact ⟨k + 1, (n2 + 1), _, by omega, by go_num, (by omega), hI3.out, by rw [hsu.out]; exact hS7⟩
                    case measure => simp [intOf]; omega
                  · have hy' : (y0 == 2) = false := beq_eq_false_iff_ne.2 hy
                    cases lr with
                    | some t =>
                      rw [if_pos (.inr rfl)] at hsu3
                      replace hsu := Lib.hid hsu3
                      clear hsu3
                      go_upto_region 23 with fail
                      have hal6 : Below w5.heap.size w5 (w5.alloc (.cells (Ef.mk y0 y1 y2 y3 y4 y5 y6 ⟨y7, y8, y9, y10, y11, y12⟩).cells.toArray 50)) := (Below.refl _ _).alloc (Nat.le_refl _) _
                      have hS6 := Lib.hid (hS5.below hal6)
                      have hsz6 : wz.heap.size ≤ (w5.alloc (.cells (Ef.mk y0 y1 y2 y3 y4 y5 y6 ⟨y7, y8, y9, y10, y11, y12⟩).cells.toArray 50)).heap.size := hS6.out.u.size
                      have hvx := Lib.hid (View.boxAt (sz := 13) w5 (Ef.mk y0 y1 y2 y3 y4 y5 y6 ⟨y7, y8, y9, y10, y11, y12⟩).cells 50 w5.heap.size rfl rfl)
                      clear hal6
                      have hob6 : (w5.alloc (.cells (Ef.mk y0 y1 y2 y3 y4 y5 y6 ⟨y7, y8, y9, y10, y11, y12⟩).cells.toArray 50)).ownsRow wz.heap.size 50 13 u9 M.length (M.flatMap Ef.cells) := hS6.out.o
                      replace hob6 := Lib.hid hob6
                      have hvy := hvx.out
                      go_wp2_with (at_builtin; refine wpList_append_view _ rfl (.tmp 84) (.tmp 88) _ rfl wz.heap.size 50 i0 zEf 13 144 Try.underlying46 hi0 hz0 hz1 hz2 rfl (by decide) _ M.length _ rfl hob6.out _ 1 (Ef.mk y0 y1 y2 y3 y4 y5 y6 ⟨y7, y8, y9, y10, y11, y12⟩).cells rfl hvx.out (Ef.one1 _) (by omega) (by simp only [maxLen]; omega) hsz6 ?_; intro v3 w3 hown hg hat)
                      have hS7 := hS6.out.app hown hg
                      go_roundw
                      case rel => exact ⟨k + 1, (n2 + 1), _, by omega, by go_num, (by omega), hI3.out, by rw [hsu.out]; exact hS7⟩
                      case measure => simp [intOf]; omega
                    | none =>
                      rw [if_neg (by rintro (h | h); exact hy h; cases h), List.append_nil] at hsu3
                      replace hsu := Lib.hid hsu3
                      clear hsu3
                      replace hS5 := Lib.hid hS5
                      go_wp2_with fail
                      go_roundw
                      case rel => exact ⟨k + 1, n2 + 1, _, by omega, by go_num, by omega, hI3.out, by rw [hsu.out]; exact hS5.out⟩
                      case measure => simp [intOf]; omega
              · have h2' : (x0 == 2) = false := beq_eq_false_iff_ne.2 h2
                have h3' : (x0 == 3) = false := beq_eq_false_iff_ne.2 h3
                have h4' : (x0 == 4) = false := beq_eq_false_iff_ne.2 (fun e => h4 (.inl e))
                have h5' : (x0 == 5) = false := beq_eq_false_iff_ne.2 (fun e => h4 (.inr e))
                have hno : onR ⟨x0, x1, x2, x3, x4, x5, x6, ⟨x7, x8, x9, x10, x11, x12⟩⟩ = false := by unfold onR; simp [h2, h3]
                have hst : stepE L E k ⟨x0, x1, x2, x3, x4, x5, x6, ⟨x7, x8, x9, x10, x11, x12⟩⟩ = [] := by unfold stepE; rw [if_neg h4, if_neg (by rw [hno]; decide)]
                rw [hst, List.append_nil] at hsu
                have hI3 := Lib.hid (hI2.congr (fun o q => congrArg Value.bool (hkeep (.inl hno) o q)))
                clear hput hkeep hls hst hno hkey
                replace hsu := Lib.hid hsu
                replace hSx := Lib.hid hSx
                replace hS := Lib.hid hS
                replace hBw := Lib.hid hBw
                clear hal hI2
                go_wp2_with fail
                go_roundw
                case rel => exact ⟨k + 1, n2, D2, by omega, by go_num, by omega, hI3.out, by rw [hsu.out]; exact hSx.out⟩
                case measure => simp [intOf]; omega
        · have hlt' : k = E.length := by omega
          subst hlt'
          have hSo := own_mono hS.o hB.out.size
          have hBe := hS.low (Nat.le_refl _) hB.out
          replace hS := Lib.hid hS
          go_wp2_with fail
          go_ret
          exact ⟨_, rfl, hSo, hBe⟩
end Go.Proofs.Ytegomkgfmaclkaa
