/-
  rows.Put, rows.Cut, txn.table, txn.Get and postelaw23.alive, each by its contract.
-/
import Derived.Test.YtegomkgfmaclkaaVa
import Derived.Test.YtegomkgfmaclkaaRs
import Derived.Deep.DeepCutAuto
import Derived.Deep.RegionWith
set_option linter.unusedVariables false
set_option linter.unusedSimpArgs false
namespace Go.Proofs.Ytegomkgfmaclkaa
open Go.RowKit Go.Proofs.PosteOrd Go.Proofs.PosteMem

set_option maxHeartbeats 1000000 in
theorem rput_any (w : World) (v : Value) (L : List Row) (x : Row) (h : VRows w v L) (hm : L.length ≤ 999999) :
    Calls Try.prog 89 #[v, .agg #[.string x.key, .string x.val]] w fun e w' => ∃ v', e = .returned v' ∧ ORows w' w.heap.size v' (putS L x) ∧ Below w.heap.size w w' := by
  have k := Lib.hid (put_any (w.alloc (.cells #[.string x.key, .string x.val] 31)) v L x _ _ (View.alloc h _) hm (found_at L x.key))
  have hb := Lib.hid ((Below.refl w.heap.size w).alloc (Nat.le_refl _) (.cells #[.string x.key, .string x.val] 31))
  unfold putS
  generalize putL L (pos L x.key) (hit L x.key) x = M at *
  go_enter Try.func89, Try.ntmps89
  go_wp2_with fail
  refine k.out.mono ?_; rintro e w1 ⟨v1, rfl, ho, hb1⟩
  go_wp2
  go_ret
  exact ⟨_, rfl, own_mono ho hb.out.size, below_then hb.out hb1⟩
set_option maxHeartbeats 1000000 in
theorem rcut_any (w : World) (v : Value) (L : List Row) (key : ByteArray) (h : VRows w v L) (hm : L.length ≤ 999999) :
    Calls Try.prog 90 #[v, .string key] w fun e w' => ∃ v', e = .returned (.tuple #[v', .bool (hit L key)]) ∧ ORows w' w.heap.size v' (cutS L key) ∧ Below w.heap.size w w' := by
  have k := Lib.hid (cut_any w v L key _ _ h hm (found_at L key))
  unfold cutS
  generalize hit L key = t at *
  generalize cutL L (pos L key) t = M at *
  go_enter Try.func90, Try.ntmps90
  go_wp2_with fail
  refine k.out.mono ?_; rintro e w1 ⟨v1, rfl, ho, hb1⟩
  go_wp2
  go_ret2
  exact ⟨_, rfl, ho, hb1⟩

set_option maxRecDepth 100000 in
set_option maxHeartbeats 8000000 in
theorem table_any (w : World) (next : Int) (v : Value) (L : List Ob) (wv : Value) (E : List Ef) (name : ByteArray) (hL : VObs w v L) (hE : VEfs w wv E) (hm : L.length ≤ 1000000) (hr : ∀ o ∈ L, o.rows.length ≤ 400000) (hn : E.length ≤ 100000) :
    Calls Try.prog 63 #[.agg #[.int .i64 next, v], wv, .string name] w fun e w' => ∃ v', e = .returned v' ∧ VRows w' v' (tab L E name) ∧ Below w.heap.size w w' := by
  obtain ⟨A, cap, rfl, hc, _⟩ := hL.view.cells
  obtain ⟨A2, cap2, rfl, hc2, _⟩ := hE.cells
  have hb0 : Below w.heap.size w (w.alloc (.cells #[.int .i64 next, .slice A L.length cap] 45)) := (Below.refl _ _).alloc (Nat.le_refl _) _
  have hbx := Whole.new w 45 #[.int .i64 next, .slice A L.length cap]
  have kF := sfind_any _ next (.slice A L.length cap) L name (hL.below hb0) hm
  have hlt0 : w.heap.size < (w.alloc (.cells #[.int .i64 next, .slice A L.length cap] 45)).heap.size := hbx.lt
  replace hL := Lib.hid hL
  replace hE := Lib.hid hE
  replace hr := Lib.hid hr
  rcases idxA_cases (isO name) L with ⟨j, hj, ei, hp, hf⟩ | ⟨ei, hf⟩
  · rw [ei] at kF
    replace kF := Lib.hid kF
    have hbase : baseR L name = L[j].rows := by unfold baseR; rw [hf]; rfl
    have q0 : (j : Int) < (L.length : Int) := by omega
    clear ei hp hf
    go_enter Try.func63, Try.ntmps63
    go_upto_region 3 with (go_at_call 88; refine kF.out.mono ?_; rintro e w2 ⟨rfl, hb2⟩)
    have hB2 := below_then hb0 hb2
    have c0 : w2.cell? ⟨w.heap.size, 0, none⟩ = some (.int .i64 next) := (hbx.below hb2).cell 0
    have c1 : w2.cell? ⟨w.heap.size, 1, none⟩ = some (.slice A L.length cap) := (hbx.below hb2).cell 1
    have hlt2 : w.heap.size < w2.heap.size := Nat.lt_of_lt_of_le hlt0 hb2.size
    obtain ⟨b, off, cap', e, _, _, hbl, f⟩ := obs_at (hL.out.below hB2) (by omega)
    injection e with e1 e2 e3
    subst e1 e3
    obtain ⟨p0, p1, p2, p3, p4, p5⟩ := f j hj
    have hV : VRows w2 L[j].r L[j].rows := ((hL.out.each _ (List.getElem_mem hj)).below hB2).rows
    have hR : L[j].rows.length ≤ 400000 := hr.out _ (List.getElem_mem hj)
    clear f hb0 hbx kF hlt0 hb2 p0 p1 p2 p4 p5
    generalize L[j].rows = base at *
    generalize L[j].r = bv at *
    replace hbase := Lib.hid hbase
    replace hV := Lib.hid hV
    replace hB2 := Lib.hid hB2
    go_upto_region 6 with fail
    replace hV := hV.out
    replace hB2 := hB2.out
    replace hbase := hbase.out
    clear p3 c0 c1
    go_loopw [7, 24] (fun a i wr => ∃ k : Nat, k ≤ E.length ∧ i = .int .i64 k ∧ VRows wr a ((E.take k).foldl (tab1 name) base) ∧ Below w.heap.size w wr) (fun _ i _ => E.length - (intOf i).toNat)
    case atStart => exact ⟨0, by omega, rfl, hV, hB2⟩
    case round =>
      clear hV hB2
      obtain ⟨k, hk, rfl, hv, hb⟩ := hrel
      obtain ⟨A3, cap3, rfl, hc3, hc4⟩ := hv.cells
      by_cases hlt : k < E.length
      · have q1 : (k : Int) < (E.length : Int) := by omega
        have hE2 : VEfs wr (.slice A2 E.length cap2) E := View.below hE.out hb
        obtain ⟨b, off, cap', e, _, _, hbl, f⟩ := efs_at hE2 (by omega)
        injection e with e1 e2 e3
        subst e1 e3
        obtain ⟨p0, p1, p2, p3, p4, p5, p6, p7, p8, p9, p10, p11, p12⟩ := f k hlt
        clear f hE2
        have htk := tabs_take (name := name) (L := base) hlt
        have hln := tabs_len name base (E.take k)
        rw [List.length_take] at hln
        generalize (E.take k).foldl (tab1 name) base = M at *
        generalize E[k] = x at *
        have hbx := hb.alloc hb.size (.cells x.cells.toArray 50)
        have hvx : VRows (wr.alloc (.cells x.cells.toArray 50)) _ M := View.alloc hv _
        obtain ⟨x0, x1, x2, x3, x4, x5, x6, ⟨x7, x8, x9, x10, x11, x12⟩⟩ := x
        unfold Ef.cells at hbx hvx
        simp only at p0 p1 p2 p3 p4 p5 p6 p7 p8 p9 p10 p11 p12 hbx hvx
        replace htk := htk.trans (show tab1 name M ⟨x0, x1, x2, x3, x4, x5, x6, ⟨x7, x8, x9, x10, x11, x12⟩⟩ = if x1 = name then if x0 = 2 then putS M ⟨x2, x3⟩ else if x0 = 3 then cutS M x2 else M else M from rfl)
        by_cases ho : x1 = name
        · rw [if_pos ho] at htk
          subst ho
          by_cases h2 : x0 = 2
          · subst h2
            rw [if_pos rfl] at htk
            have kP := Lib.hid (rput_any _ _ M ⟨x2, x3⟩ hvx (by omega))
            replace htk := Lib.hid htk
            replace hvx := Lib.hid hvx
            replace hbx := Lib.hid hbx
            replace hv := Lib.hid hv
            replace hb := Lib.hid hb
            clear hln
            go_wp2_with (go_at_call 89; refine kP.out.mono ?_; rintro e w4 ⟨v4, rfl, ho4, hb4⟩)
            go_roundw
            case rel => exact ⟨k + 1, by omega, by go_num, by rw [htk.out]; exact View.of_own ho4, hbx.out.trans (hb4.mono hbx.out.size)⟩
            case measure => simp [intOf]; omega
          · rw [if_neg h2] at htk
            by_cases h3 : x0 = 3
            · subst h3
              rw [if_pos rfl] at htk
              have kP := Lib.hid (rcut_any _ _ M x2 hvx (by omega))
              replace htk := Lib.hid htk
              replace hvx := Lib.hid hvx
              replace hbx := Lib.hid hbx
              replace hv := Lib.hid hv
              replace hb := Lib.hid hb
              clear hln
              go_wp2_with (go_at_call 90; refine kP.out.mono ?_; rintro e w4 ⟨v4, rfl, ho4, hb4⟩)
              go_roundw
              case rel => exact ⟨k + 1, by omega, by go_num, by rw [htk.out]; exact View.of_own ho4, hbx.out.trans (hb4.mono hbx.out.size)⟩
              case measure => simp [intOf]; omega
            · rw [if_neg h3] at htk
              have h2' : (x0 == 2) = false := beq_eq_false_iff_ne.2 h2
              have h3' : (x0 == 3) = false := beq_eq_false_iff_ne.2 h3
              replace htk := Lib.hid htk
              replace hvx := Lib.hid hvx
              replace hbx := Lib.hid hbx
              replace hv := Lib.hid hv
              replace hb := Lib.hid hb
              clear hln
              go_wp2_with fail
              go_roundw
              case rel => exact ⟨k + 1, by omega, by go_num, by rw [htk.out]; exact hvx.out, hbx.out⟩
              case measure => simp [intOf]; omega
        · rw [if_neg ho] at htk
          have ho' := str_ne ho
          replace htk := Lib.hid htk
          replace hvx := Lib.hid hvx
          replace hbx := Lib.hid hbx
          replace hv := Lib.hid hv
          replace hb := Lib.hid hb
          clear hln
          go_wp2_with fail
          go_roundw
          case rel => exact ⟨k + 1, by omega, by go_num, by rw [htk.out]; exact hvx.out, hbx.out⟩
          case measure => simp [intOf]; omega
      · obtain rfl : k = E.length := by omega
        rw [List.take_length] at hv
        go_wp2_with fail
        go_ret
        refine ⟨_, rfl, ?_, hb⟩
        unfold tab
        rw [hbase]
        refine (show VRows wr (.slice A3 ((E.take E.length).foldl (tab1 name) base).length cap3) (E.foldl (tab1 name) base) from ?_)
        rw [List.take_length]
        exact hv
  · rw [ei] at kF
    replace kF := Lib.hid kF
    have hbase : baseR L name = [] := by unfold baseR; rw [hf]; rfl
    clear ei hf
    go_enter Try.func63, Try.ntmps63
    go_upto_region 3 with (go_at_call 88; refine kF.out.mono ?_; rintro e w2 ⟨rfl, hb2⟩)
    have hB2 := below_then hb0 hb2
    have c0 : w2.cell? ⟨w.heap.size, 0, none⟩ = some (.int .i64 next) := (hbx.below hb2).cell 0
    have c1 : w2.cell? ⟨w.heap.size, 1, none⟩ = some (.slice A L.length cap) := (hbx.below hb2).cell 1
    have hlt2 : w.heap.size < w2.heap.size := Nat.lt_of_lt_of_le hlt0 hb2.size
    have hV : VRows w2 (.slice none 0 0) [] := View.nil _ _
    have hR : ([] : List Row).length ≤ 400000 := Nat.zero_le _
    clear hb0 hbx kF hlt0 hb2
    generalize ([] : List Row) = base at *
    replace hbase := Lib.hid hbase
    replace hV := Lib.hid hV
    replace hB2 := Lib.hid hB2
    go_upto_region 6 with fail
    replace hV := hV.out
    replace hB2 := hB2.out
    replace hbase := hbase.out
    clear c0 c1
    go_loopw [7, 24] (fun a i wr => ∃ k : Nat, k ≤ E.length ∧ i = .int .i64 k ∧ VRows wr a ((E.take k).foldl (tab1 name) base) ∧ Below w.heap.size w wr) (fun _ i _ => E.length - (intOf i).toNat)
    case atStart => exact ⟨0, by omega, rfl, hV, hB2⟩
    case round =>
      clear hV hB2
      obtain ⟨k, hk, rfl, hv, hb⟩ := hrel
      obtain ⟨A3, cap3, rfl, hc3, hc4⟩ := hv.cells
      by_cases hlt : k < E.length
      · have q1 : (k : Int) < (E.length : Int) := by omega
        have hE2 : VEfs wr (.slice A2 E.length cap2) E := View.below hE.out hb
        obtain ⟨b, off, cap', e, _, _, hbl, f⟩ := efs_at hE2 (by omega)
        injection e with e1 e2 e3
        subst e1 e3
        obtain ⟨p0, p1, p2, p3, p4, p5, p6, p7, p8, p9, p10, p11, p12⟩ := f k hlt
        clear f hE2
        have htk := tabs_take (name := name) (L := base) hlt
        have hln := tabs_len name base (E.take k)
        rw [List.length_take] at hln
        generalize (E.take k).foldl (tab1 name) base = M at *
        generalize E[k] = x at *
        have hbx := hb.alloc hb.size (.cells x.cells.toArray 50)
        have hvx : VRows (wr.alloc (.cells x.cells.toArray 50)) _ M := View.alloc hv _
        obtain ⟨x0, x1, x2, x3, x4, x5, x6, ⟨x7, x8, x9, x10, x11, x12⟩⟩ := x
        unfold Ef.cells at hbx hvx
        simp only at p0 p1 p2 p3 p4 p5 p6 p7 p8 p9 p10 p11 p12 hbx hvx
        replace htk := htk.trans (show tab1 name M ⟨x0, x1, x2, x3, x4, x5, x6, ⟨x7, x8, x9, x10, x11, x12⟩⟩ = if x1 = name then if x0 = 2 then putS M ⟨x2, x3⟩ else if x0 = 3 then cutS M x2 else M else M from rfl)
        by_cases ho : x1 = name
        · rw [if_pos ho] at htk
          subst ho
          by_cases h2 : x0 = 2
          · subst h2
            rw [if_pos rfl] at htk
            have kP := Lib.hid (rput_any _ _ M ⟨x2, x3⟩ hvx (by omega))
            replace htk := Lib.hid htk
            replace hvx := Lib.hid hvx
            replace hbx := Lib.hid hbx
            replace hv := Lib.hid hv
            replace hb := Lib.hid hb
            clear hln
            go_wp2_with (go_at_call 89; refine kP.out.mono ?_; rintro e w4 ⟨v4, rfl, ho4, hb4⟩)
            go_roundw
            case rel => exact ⟨k + 1, by omega, by go_num, by rw [htk.out]; exact View.of_own ho4, hbx.out.trans (hb4.mono hbx.out.size)⟩
            case measure => simp [intOf]; omega
          · rw [if_neg h2] at htk
            by_cases h3 : x0 = 3
            · subst h3
              rw [if_pos rfl] at htk
              have kP := Lib.hid (rcut_any _ _ M x2 hvx (by omega))
              replace htk := Lib.hid htk
              replace hvx := Lib.hid hvx
              replace hbx := Lib.hid hbx
              replace hv := Lib.hid hv
              replace hb := Lib.hid hb
              clear hln
              go_wp2_with (go_at_call 90; refine kP.out.mono ?_; rintro e w4 ⟨v4, rfl, ho4, hb4⟩)
              go_roundw
              case rel => exact ⟨k + 1, by omega, by go_num, by rw [htk.out]; exact View.of_own ho4, hbx.out.trans (hb4.mono hbx.out.size)⟩
              case measure => simp [intOf]; omega
            · rw [if_neg h3] at htk
              have h2' : (x0 == 2) = false := beq_eq_false_iff_ne.2 h2
              have h3' : (x0 == 3) = false := beq_eq_false_iff_ne.2 h3
              replace htk := Lib.hid htk
              replace hvx := Lib.hid hvx
              replace hbx := Lib.hid hbx
              replace hv := Lib.hid hv
              replace hb := Lib.hid hb
              clear hln
              go_wp2_with fail
              go_roundw
              case rel => exact ⟨k + 1, by omega, by go_num, by rw [htk.out]; exact hvx.out, hbx.out⟩
              case measure => simp [intOf]; omega
        · rw [if_neg ho] at htk
          have ho' := str_ne ho
          replace htk := Lib.hid htk
          replace hvx := Lib.hid hvx
          replace hbx := Lib.hid hbx
          replace hv := Lib.hid hv
          replace hb := Lib.hid hb
          clear hln
          go_wp2_with fail
          go_roundw
          case rel => exact ⟨k + 1, by omega, by go_num, by rw [htk.out]; exact hvx.out, hbx.out⟩
          case measure => simp [intOf]; omega
      · obtain rfl : k = E.length := by omega
        rw [List.take_length] at hv
        go_wp2_with fail
        go_ret
        refine ⟨_, rfl, ?_, hb⟩
        unfold tab
        rw [hbase]
        refine (show VRows wr (.slice A3 ((E.take E.length).foldl (tab1 name) base).length cap3) (E.foldl (tab1 name) base) from ?_)
        rw [List.take_length]
        exact hv
/-- What a key has of rows. -/
theorem rget_any (w : World) (v : Value) (L : List Row) (key : ByteArray) (h : VRows w v L) (hm : L.length ≤ 1000000) (hs : Srt L) :
    Calls Try.prog 55 #[v, .string key] w fun e w' => e = .returned (.tuple #[.string ((look L key).getD ⟨#[]⟩), .bool (look L key).isSome]) ∧ Below w.heap.size w w' := by
  obtain ⟨h1, h2⟩ := look_hit hs key
  have hf := found_at L key
  rw [← h1]
  refine get_any w v L key _ _ _ h hm hf (fun ht => ?_) (fun ht => ?_)
  · have hlt : pos L key < L.length := by
      have := hf
      rw [ht] at this
      exact found_lt this
    exact ⟨hlt, h2 hlt ht⟩
  · rw [h1] at ht
    rw [Option.isSome_eq_false_iff, Option.isNone_iff_eq_none] at ht
    rw [ht]
    rfl
set_option maxHeartbeats 1000000 in
theorem tget1_any (w : World) (next : Int) (v : Value) (L : List Ob) (wv : Value) (E : List Ef) (name key : ByteArray) (hL : VObs w v L) (hE : VEfs w wv E) (hm : L.length ≤ 1000000) (hr : ∀ o ∈ L, o.rows.length ≤ 400000) (hn : E.length ≤ 100000) (hs : Srt (baseR L name)) :
    Calls Try.prog 24 #[.agg #[.int .i64 next, v], wv, .string name, .string key] w fun e w' => e = .returned (.tuple #[.string ((look (tab L E name) key).getD ⟨#[]⟩), .bool (look (tab L E name) key).isSome]) ∧ Below w.heap.size w w' := by
  obtain ⟨A, cap, rfl, hc, _⟩ := hL.view.cells
  obtain ⟨A2, cap2, rfl, hc2, _⟩ := hE.cells
  have hb0 : Below w.heap.size w (w.alloc (.cells #[.int .i64 next, .slice A L.length cap] 45)) := (Below.refl _ _).alloc (Nat.le_refl _) _
  have kT := Lib.hid (table_any _ next _ L _ E name (hL.below hb0) (View.below hE hb0) hm hr hn)
  have hlen : (tab L E name).length ≤ 1000000 := by
    have h1 := tabs_len name (baseR L name) E
    have h2 : (baseR L name).length ≤ 400000 := by
      unfold baseR
      cases hf : L.find? (isO name) with
      | none => exact Nat.zero_le _
      | some o => exact hr o (List.mem_of_find?_eq_some hf)
    unfold tab
    omega
  have hst : Srt (tab L E name) := tabs_srt E hs
  generalize tab L E name = M at *
  replace hst := Lib.hid hst
  replace hb0 := Lib.hid hb0
  clear hL hE hr hs
  go_enter Try.func24, Try.ntmps24
  go_wp2_with fail
  refine kT.out.mono ?_; rintro e w2 ⟨v2, rfl, hv2, hb2⟩
  have kG := Lib.hid (rget_any w2 v2 M key hv2 hlen hst.out)
  obtain ⟨A3, cap3, rfl, hc3, _⟩ := hv2.cells
  clear hv2 kT
  generalize hr9 : look M key = r at kG
  replace hr9 := Lib.hid hr9
  go_wp2_with fail
  refine kG.out.mono ?_; rintro e w3 ⟨rfl, hb3⟩
  go_wp2_with fail
  go_ret2
  exact ⟨by rw [hr9.out]; rfl, below_then (below_then hb0.out hb2) hb3⟩
set_option maxHeartbeats 1000000 in
/-- posteref14.GetRow of rows that stand in their order. -/
theorem alive23 (w : World) : Calls Try.prog 22 #[] w fun e w' => e = .returned (.bool true) ∧ Below w.heap.size w w' := by
  have hs0 : Srt (baseR [] ⟨#[116]⟩) := List.Pairwise.nil
  have k1 := Lib.hid (tget1_any w 0 (.slice none 0 0) [] (.slice none 0 0) [] ⟨#[116]⟩ ⟨#[97]⟩ (VObs.nil _) (View.nil _ _) (by simp) (by simp) (by simp) hs0)
  have e1 : look (tab [] [] ⟨#[116]⟩) ⟨#[97]⟩ = none := rfl
  have e2 : look (tab [] [⟨2, ⟨#[116]⟩, ⟨#[97]⟩, ⟨#[98]⟩, 0, 0, false, ⟨0, 0, 0, false, ⟨#[]⟩, ⟨#[]⟩⟩⟩] ⟨#[116]⟩) ⟨#[97]⟩ = some ⟨#[98]⟩ := by
    unfold tab
    rw [List.foldl_cons, List.foldl_nil]
    unfold tab1
    rw [if_pos rfl, if_pos rfl, look_put, if_pos rfl]
  rw [e1] at k1
  go_enter Try.func22, Try.ntmps22
  go_wp2_with fail
  refine k1.out.mono ?_; rintro e w2 ⟨rfl, hb2⟩
  have hv := View.boxAt (sz := 13) w2 (Ef.cells ⟨2, ⟨#[116]⟩, ⟨#[97]⟩, ⟨#[98]⟩, 0, 0, false, ⟨0, 0, 0, false, ⟨#[]⟩, ⟨#[]⟩⟩⟩) 50 _ rfl rfl
  have hb3 : Below w2.heap.size w2 (w2.alloc (.cells (Ef.cells ⟨2, ⟨#[116]⟩, ⟨#[97]⟩, ⟨#[98]⟩, 0, 0, false, ⟨0, 0, 0, false, ⟨#[]⟩, ⟨#[]⟩⟩⟩).toArray 50)) := (Below.refl _ _).alloc (Nat.le_refl _) _
  have k2 := tget1_any _ 0 (.slice none 0 0) [] _ [_] ⟨#[116]⟩ ⟨#[97]⟩ (VObs.nil _) (show VEfs _ _ [_] from hv) (by simp) (by simp) (by simp) hs0
  rw [e2] at k2
  replace k2 := Lib.hid k2
  replace hb3 := Lib.hid hb3
  clear hv k1 e1 e2 hs0
  go_wp2_with fail
  refine k2.out.mono ?_; rintro e w4 ⟨rfl, hb4⟩
  go_wp2
  go_ret
  exact ⟨rfl, below_then hb2 (below_then hb3.out hb4)⟩
end Go.Proofs.Ytegomkgfmaclkaa
