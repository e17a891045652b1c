/-
  States and effects as arguments; postelaw19.Few.
-/
import Derived.Test.YtegomkgfmaclkaaVj
import Derived.Test.YtegomkgfmaclkaaOpenV
import Derived.BigQuiet
set_option linter.unusedVariables false
set_option linter.unusedSimpArgs false
namespace Go.Proofs.Ytegomkgfmaclkaa
open Go.RowKit Go.Proofs.PosteOrd Go.Proofs.PosteMem Go.Proofs.PosteOpen

@[reducible] def KMsg : Kd := .cons 3 (.int .i64) (.cons 3 (.int .i64) (.cons 3 (.int .i64) (.cons 4 .bool (.cons 9 .str (.cons 9 .str .nil)))))
@[reducible] def KOb : Kd := .cons 9 .str (.cons 3 (.int .i64) (.cons 3 (.int .i64) (.cons 22 (.sl 31 KRow) (.cons 40 (.sl 48 KMsg) (.cons 40 (.sl 48 KMsg) .nil)))))
@[reducible] def KSt : Kd := .cons 3 (.int .i64) (.cons 43 (.sl 42 KOb) .nil)
@[reducible] def KEf : Kd := .cons 3 (.int .i64) (.cons 9 .str (.cons 9 .str (.cons 9 .str (.cons 3 (.int .i64) (.cons 3 (.int .i64) (.cons 4 .bool (.cons 48 KMsg .nil)))))))
theorem ef_fits : KEf.fits Try.prog 12 50 = true := by kernel_rfl
theorem st_fits : KSt.fits Try.prog 12 45 = true := by kernel_rfl
def msgOf (x : KMsg.T) : Msg := ⟨x.1, x.2.1, x.2.2.1, x.2.2.2.1, x.2.2.2.2.1, x.2.2.2.2.2.1⟩
def efOf (x : KEf.T) : Ef := ⟨x.1, x.2.1, x.2.2.1, x.2.2.2.1, x.2.2.2.2.1, x.2.2.2.2.2.1, x.2.2.2.2.2.2.1, msgOf x.2.2.2.2.2.2.2.1⟩
theorem enc_msgs (l : List KMsg.T) : l.flatMap KMsg.enc = (l.map msgOf).flatMap Msg.cells := by
  induction l with
  | nil => rfl
  | cons a l ih => rw [List.flatMap_cons, List.map_cons, List.flatMap_cons, ih]; rfl
theorem enc_efs (l : List KEf.T) : l.flatMap KEf.enc = (l.map efOf).flatMap Ef.cells := by
  induction l with
  | nil => rfl
  | cons a l ih => rw [List.flatMap_cons, List.map_cons, List.flatMap_cons, ih]; rfl
theorem msgs_of_rd {W : World} {v : Value} {l : List KMsg.T} (r : Rd Try.prog W (.sl 48 KMsg) [v] l) : VMsgs W v (l.map msgOf) := by
  have hv := rd_view_flat rfl r
  rw [enc_msgs] at hv
  unfold VMsgs
  rw [List.length_map]
  exact hv
theorem reach_is : reachBytes = 140737488351232 := by decide
theorem sl_len {W : World} {e : TypeId} {k : Kd} {v : Value} {l : List k.T} (r : Rd Try.prog W (.sl e k) [v] l) (hb : 1 ≤ Try.prog.bytesOf e) : l.length ≤ 140737488351232 := by
  obtain ⟨A, cap, _, h1, _, h2, _⟩ := r
  rw [reach_is] at h2
  have : cap * 1 ≤ cap * Try.prog.bytesOf e := Nat.mul_le_mul_left _ hb
  omega
structure Ob.ok (o : Ob) : Prop where
  name : o.name.size ≤ 140737488351232
  rows : RowsOk o.rows
  l1 : o.rows.length ≤ 140737488351232
  l2 : o.msgs.length ≤ 140737488351232
  l3 : o.dead.length ≤ 140737488351232
theorem b_row : 1 ≤ Try.prog.bytesOf 31 := Nat.le_of_ble_eq_true (by kernel_rfl)
theorem b_msg : 1 ≤ Try.prog.bytesOf 48 := Nat.le_of_ble_eq_true (by kernel_rfl)
theorem b_ob : 1 ≤ Try.prog.bytesOf 42 := Nat.le_of_ble_eq_true (by kernel_rfl)
theorem ob_of_rd {W : World} {c : List Value} {x : KOb.T} (z : Rd Try.prog W KOb c x) : ∃ o : Ob, c = o.cells ∧ VOb W o ∧ o.ok := by
  obtain ⟨c1, t1, e1, _, h1, z⟩ := z
  obtain ⟨c2, t2, e2, _, h2, z⟩ := z
  obtain ⟨c3, t3, e3, _, h3, z⟩ := z
  obtain ⟨c4, t4, e4, _, h4, z⟩ := z
  obtain ⟨c5, t5, e5, _, h5, z⟩ := z
  obtain ⟨c6, t6, e6, _, h6, z⟩ := z
  obtain ⟨A4, n4, f4, _⟩ := id h4
  obtain ⟨A5, n5, f5, _⟩ := id h5
  obtain ⟨A6, n6, f6, _⟩ := id h6
  rw [f4] at h4
  rw [f5] at h5
  rw [f6] at h6
  have hn : x.1.size ≤ 140737488351232 := by have := h1.2; rw [reach_is] at this; exact this
  refine ⟨⟨x.1, x.2.1, x.2.2.1, x.2.2.2.1.map rowOf, x.2.2.2.2.1.map msgOf, x.2.2.2.2.2.1.map msgOf, _, _, _⟩, ?_, ⟨(rows_of_rd h4).1, msgs_of_rd h5, msgs_of_rd h6⟩, ⟨hn, (rows_of_rd h4).2, ?_, ?_, ?_⟩⟩
  · have g1 := h1.1
    have g2 := h2.1
    have g3 := h3.1
    have g6 : t6 = [] := z
    rw [g1, e2, g2, e3, g3, e4, f4, e5, f5, e6, f6, g6] at e1
    exact e1
  · rw [List.length_map]; exact sl_len h4 b_row
  · rw [List.length_map]; exact sl_len h5 b_msg
  · rw [List.length_map]; exact sl_len h6 b_msg
theorem obs_of_rd {W : World} {v : Value} {l : List KOb.T} (r : Rd Try.prog W (.sl 42 KOb) [v] l) : ∃ L : List Ob, VObs W v L ∧ (∀ o ∈ L, o.ok) ∧ L.length ≤ 140737488351232 := by
  have hlen := sl_len r b_ob
  obtain ⟨css, h1, h2, hv, h3⟩ := rd_view r
  obtain ⟨L, hL1, hL2⟩ := list_of_pts2 css (fun i hi (o : Ob) => css[i] = o.cells ∧ VOb W o ∧ o.ok) (fun i hi => ob_of_rd (h3 i (by omega) hi))
  have he : css = L.map Ob.cells := by
    refine List.ext_getElem (by rw [List.length_map, hL1]) fun i g1 g2 => ?_
    rw [List.getElem_map]
    exact (hL2 i g1 (by omega)).1
  refine ⟨L, ⟨?_, fun o ho => ?_⟩, fun o ho => ?_, by omega⟩
  · rw [he, show (L.map Ob.cells).flatten = L.flatMap Ob.cells from (List.flatMap_def).symm, ← h1, he, List.length_map] at hv
    exact hv
  · obtain ⟨i, hi, rfl⟩ := List.getElem_of_mem ho
    exact (hL2 i (by omega) hi).2.1
  · obtain ⟨i, hi, rfl⟩ := List.getElem_of_mem ho
    exact (hL2 i (by omega) hi).2.2
theorem efs_of_rd {W : World} {v : Value} {l : List KEf.T} (r : Rd Try.prog W (.sl 50 KEf) [v] l) : ∃ E : List Ef, VEfs W v E ∧ ∀ e ∈ E, e.obj.size ≤ 140737488351232 ∧ e.key.size ≤ 140737488351232 := by
  obtain ⟨css, h1, h2, _, h3⟩ := rd_view r
  refine ⟨l.map efOf, ?_, fun e he => ?_⟩
  · have hv := rd_view_flat rfl r
    rw [enc_efs] at hv
    unfold VEfs
    rw [List.length_map]
    exact hv
  · obtain ⟨x, hx, rfl⟩ := List.mem_map.1 he
    obtain ⟨i, hi, rfl⟩ := List.getElem_of_mem hx
    obtain ⟨_, _, _, _, _, z⟩ := h3 i hi (by omega)
    obtain ⟨_, _, _, _, a, z⟩ := z
    obtain ⟨_, _, _, _, b, z⟩ := z
    have a2 := a.2
    have b2 := b.2
    rw [reach_is] at a2 b2
    exact ⟨a2, b2⟩
theorem st_of_rd {W : World} {cs : Array Value} {x : KSt.T} (z : Rd Try.prog W KSt (Value.agg cs).cells.toList x) : ∃ next v L, Value.agg cs = .agg #[.int .i64 next, v] ∧ VObs W v L ∧ (∀ o ∈ L, o.ok) ∧ L.length ≤ 140737488351232 := by
  obtain ⟨c1, t1, e1, _, h1, z⟩ := z
  obtain ⟨c2, t2, e2, _, h2, z⟩ := z
  obtain ⟨A2, n2, f2, _⟩ := id h2
  rw [f2] at h2
  obtain ⟨L, hL, hok, hlen⟩ := obs_of_rd h2
  refine ⟨x.1, _, L, ?_, hL, hok, hlen⟩
  have e : cs.toList = ([.int .i64 x.1] ++ ([.slice A2 x.2.1.length n2] ++ [])) := by
    have g1 := h1.1
    have g2 : t2 = [] := z
    rw [g1, e2, f2, g2] at e1
    exact e1
  congr 1
  exact Array.toList_inj.1 e

/-- What Few tells. -/
def FewPost (L : List Ob) (e : Ending) : Prop := ∃ b : Bool, e = .returned (.bool b) ∧ (b = true → L.length ≤ 200 ∧ ∀ j (hj : j < L.length), L[j].rows.length ≤ 200 ∧ L[j].msgs.length ≤ 200 ∧ L[j].dead.length ≤ 200)
set_option maxRecDepth 100000 in
set_option maxHeartbeats 4000000 in
theorem few_any (w : World) (next : Int) (v : Value) (L : List Ob) (hL : VObs w v L) (hok : ∀ o ∈ L, o.ok) (hlen : L.length ≤ 140737488351232) :
    Calls Try.prog 26 #[.agg #[.int .i64 next, v]] w fun e w' => FewPost L e ∧ Below w.heap.size w w' := by
  obtain ⟨A, cap, rfl, hc, _⟩ := hL.view.cells
  have hb0 : Below w.heap.size w (w.alloc (.cells #[.int .i64 next, .slice A L.length cap] 45)) := (Below.refl _ _).alloc (Nat.le_refl _) _
  have hbx := Whole.new w 45 #[.int .i64 next, .slice A L.length cap]
  have hlt0 : w.heap.size < (w.alloc (.cells #[.int .i64 next, .slice A L.length cap] 45)).heap.size := hbx.lt
  have hv0 := Lib.hid (hL.below hb0)
  replace hok := Lib.hid hok
  go_enter Try.func26, Try.ntmps26
  go_upto_region 3 with fail
  have c0 := hbx.cell 0
  have c1 := hbx.cell 1
  replace hb0 := Lib.hid hb0
  clear hbx hL
  generalize w.alloc (.cells #[.int .i64 next, .slice A L.length cap] 45) = W at *
  go_loopw [3, 4] (fun a i wr => ∃ k N : Nat, k ≤ L.length ∧ i = .int .i64 k ∧ a = .int .i64 N ∧ k ≤ N ∧ N ≤ 1000000000000000 ∧ (∀ j (hj : j < L.length), j < k → L[j].rows.length ≤ N ∧ L[j].msgs.length ≤ N ∧ L[j].dead.length ≤ N) ∧ Same W wr) (fun _ i _ => L.length - (intOf i).toNat)
  case atStart => exact ⟨0, 0, by omega, rfl, rfl, Nat.le_refl _, by omega, (fun j _ h => by omega), 0, rfl⟩
  case round =>
    obtain ⟨k, N, hk, rfl, rfl, hkN, hN9, hall, m, rfl⟩ := hrel
    replace hall := Lib.hid hall
    by_cases hlt : k < L.length
    · have q1 : (k : Int) < (L.length : Int) := by omega
      by_cases hN : N ≤ 200
      · have q2 : (N : Int) ≤ 200 := by omega
        obtain ⟨b, off, cap', e, _, _, hbl, f⟩ := obs_at hv0.out (by omega)
        injection e with e1 e2 e3
        subst e1 e3
        obtain ⟨_, _, _, r3, r4, r5⟩ := f k hlt
        clear f
        have hO := hv0.out.each _ (List.getElem_mem hlt)
        obtain ⟨_, _, o1, o2, o3⟩ := hok.out _ (List.getElem_mem hlt)
        obtain ⟨Ar, cr, er, _, _⟩ := hO.rows.cells
        obtain ⟨Am, cm, em, _, _⟩ := hO.msgs.cells
        obtain ⟨Ad, cd, ed, _, _⟩ := hO.dead.cells
        rw [er] at r3
        rw [em] at r4
        rw [ed] at r5
        have hst : ∀ N' : Nat, N ≤ N' → L[k].rows.length ≤ N' → L[k].msgs.length ≤ N' → L[k].dead.length ≤ N' → ∀ j (hj : j < L.length), j < k + 1 → L[j].rows.length ≤ N' ∧ L[j].msgs.length ≤ N' ∧ L[j].dead.length ≤ N' := fun N' h1 h2 h3 h4 j hj hjk => by
          rcases Nat.lt_or_ge j k with h8 | h8
          · have := hall.out j hj h8
            exact ⟨by omega, by omega, by omega⟩
          · obtain rfl : j = k := by omega
            exact ⟨h2, h3, h4⟩
        replace hst := Lib.hid hst
        clear hO er em ed
        generalize L[k].rows.length = a1 at *
        generalize L[k].msgs.length = a2 at *
        generalize L[k].dead.length = a3 at *
        obtain ⟨N1, h1⟩ : ∃ N1, N1 = N + 1 := ⟨_, rfl⟩
        obtain ⟨N2, h2⟩ : ∃ N2, N2 = N1 + a1 := ⟨_, rfl⟩
        obtain ⟨N3, h3⟩ : ∃ N3, N3 = N2 + a2 := ⟨_, rfl⟩
        obtain ⟨N4, h4⟩ : ∃ N4, N4 = N3 + a3 := ⟨_, rfl⟩
        have w1 : IntKind.i64.wrap ((N : Int) + 1) = (N1 : Int) := by rw [IntKind.wrap_i64]; omega
        have w2 : IntKind.i64.wrap ((N1 : Int) + (a1 : Int)) = (N2 : Int) := by rw [IntKind.wrap_i64]; omega
        have w3 : IntKind.i64.wrap ((N2 : Int) + (a2 : Int)) = (N3 : Int) := by rw [IntKind.wrap_i64]; omega
        have w4 : IntKind.i64.wrap ((N3 : Int) + (a3 : Int)) = (N4 : Int) := by rw [IntKind.wrap_i64]; omega
        have hst2 := Lib.hid (hst.out N4 (by omega) (by omega) (by omega) (by omega))
        have hN4 : k + 1 ≤ N4 ∧ N4 ≤ 1000000000000000 := by omega
        replace h1 := Lib.hid h1
        replace h2 := Lib.hid h2
        replace h3 := Lib.hid h3
        replace h4 := Lib.hid h4
        go_upto_region 5 with fail
        go_quiet (fail)
        go_wp2_with fail
        go_roundw
        case rel => exact ⟨k + 1, N4, by omega, by go_num, rfl, hN4.1, hN4.2, hst2.out, _, rfl⟩
        case measure => simp [intOf]; omega
      · have q2 : ¬ (N : Int) ≤ 200 := by omega
        go_wp2_with fail
        go_ret
        exact ⟨⟨false, rfl, fun h => by cases h⟩, below_dn m hb0.out⟩
    · have q1 : ¬ (k : Int) < (L.length : Int) := by omega
      by_cases hN : N ≤ 200
      · have q2 : (N : Int) ≤ 200 := by omega
        go_wp2_with fail
        go_ret
        exact ⟨⟨true, rfl, fun _ => ⟨by omega, fun j hj => by have := hall.out j hj (by omega); exact ⟨by omega, by omega, by omega⟩⟩⟩, below_dn m hb0.out⟩
      · have q2 : ¬ (N : Int) ≤ 200 := by omega
        go_wp2_with fail
        go_ret
        exact ⟨⟨false, rfl, fun h => by cases h⟩, below_dn m hb0.out⟩
end Go.Proofs.Ytegomkgfmaclkaa
