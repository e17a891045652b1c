/-
  posteref14.FindObject, rows, Get, Scan; posteref1.In, Range; txn.Scan; SameEffects; both Unclaims: each by its contract.
-/
import Derived.Test.YtegomkgfmaclkaaVb
import Derived.Test.YtegomkgfmaclkaaTs
import Derived.BigQuiet
import Derived.Deep.RegionHeld3
set_option linter.unusedVariables false
set_option linter.unusedSimpArgs false
namespace Go.Proofs.Ytegomkgfmaclkaa
open Go.RowKit Go.Proofs.PosteOrd Go.Proofs.PosteMem

set_option maxHeartbeats 2000000 in
theorem findObj_any (w : World) (next : Int) (v : Value) (L : List Ob) (name : ByteArray) (hv : VObs w v L) (hm : L.length ≤ 1000000) :
    Calls Try.prog 28 #[.agg #[.int .i64 next, v], .string name] w fun e w' => e = .returned (.int .i64 (idxA (isO name) L)) ∧ Below w.heap.size w w' := by
  obtain ⟨A, cap, rfl, hc, _⟩ := hv.view.cells
  have hb0 : Below w.heap.size w (w.alloc (.cells #[.int .i64 next, .slice A L.length cap] 45)) := (Below.refl _ _).alloc (Nat.le_refl _) _
  have hbx := Whole.new w 45 #[.int .i64 next, .slice A L.length cap]
  have hlt0 : w.heap.size < (w.alloc (.cells #[.int .i64 next, .slice A L.length cap] 45)).heap.size := hbx.lt
  have hv0 := Lib.hid (hv.below hb0)
  go_enter Try.func28, Try.ntmps28
  go_upto_region 2 with fail
  have c0 := hbx.cell 0
  have c1 := hbx.cell 1
  replace hb0 := Lib.hid hb0
  generalize w.alloc (.cells #[.int .i64 next, .slice A L.length cap] 45) = W at *
  go_loop [5] (fun i => ∃ k : Nat, k ≤ L.length ∧ i = .int .i64 k ∧ (∀ j (hj : j < L.length), j < k → isO name L[j] = false)) (fun i => L.length - (intOf i).toNat)
  case atStart => exact ⟨0, by omega, rfl, fun j _ h => by omega⟩
  case round =>
    obtain ⟨k, hk, rfl, hall⟩ := hrel
    replace hall := Lib.hid hall
    by_cases hlt : k < L.length
    · have q1 : (k : Int) < (L.length : Int) := by omega
      obtain ⟨b, off, cap', e, _, _, hbl, f⟩ := obs_at hv0.out (by omega)
      injection e with e1 e2 e3
      subst e1 e3
      obtain ⟨p0, _⟩ := f k hlt
      clear f
      have hst : L[k].name ≠ name → ∀ j (hj : j < L.length), j < k + 1 → isO name L[j] = false := fun h9 j hj hjk => by
        rcases Nat.lt_or_ge j k with h8 | h8
        · exact hall.out j hj h8
        · obtain rfl : j = k := by omega
          unfold isO
          exact decide_eq_false h9
      have hhit : L[k].name = name → idxA (isO name) L = k := fun h9 => idxA_at hlt (decide_eq_true h9) hall.out
      replace hst := Lib.hid hst
      replace hhit := Lib.hid hhit
      generalize L[k].name = x at *
      by_cases hq : x = name
      · subst hq
        go_wp2_with fail
        go_ret
        exact ⟨ret_int (hhit.out (by trivial)).symm, hb0.out⟩
      · have hq2 := str_ne hq
        go_wp2_with fail
        go_round
        case rel => exact ⟨k + 1, by omega, by go_num, hst.out hq⟩
        case measure => simp [intOf]; omega
    · go_wp2_with fail
      go_ret
      exact ⟨ret_int (idxA_none fun j hj => hall.out j hj (by omega)).symm, hb0.out⟩

theorem tab1_ok {name : ByteArray} {L : List Row} {e : Ef} (h : RowsOk L) (he : e.key.size ≤ 140737488351232) : RowsOk (tab1 name L e) := by
  unfold tab1
  split
  · split
    · intro r hr
      rcases putS_mem hr with rfl | hr
      · exact he
      · exact h r hr
    · split
      · exact fun r hr => h r ((cutS_sub L _).subset hr)
      · exact h
  · exact h
theorem tabs_ok {name : ByteArray} {L : List Row} (E : List Ef) (h : RowsOk L) (he : ∀ e ∈ E, e.key.size ≤ 140737488351232) : RowsOk (E.foldl (tab1 name) L) := by
  induction E generalizing L with
  | nil => exact h
  | cons e E ih => exact ih (tab1_ok h (he e List.mem_cons_self)) (fun x hx => he x (List.mem_cons_of_mem _ hx))
theorem base_ok {L : List Ob} {name : ByteArray} (h : ∀ o ∈ L, RowsOk o.rows) : RowsOk (baseR L name) := by
  unfold baseR
  cases hf : L.find? (isO name) with
  | none => exact fun r hr => by cases hr
  | some o => exact h o (List.mem_of_find?_eq_some hf)
theorem base_len {L : List Ob} {name : ByteArray} {n : Nat} (h : ∀ o ∈ L, o.rows.length ≤ n) : (baseR L name).length ≤ n := by
  unfold baseR
  cases hf : L.find? (isO name) with
  | none => exact Nat.zero_le _
  | some o => exact h o (List.mem_of_find?_eq_some hf)
theorem base_srt {L : List Ob} {name : ByteArray} (h : ∀ o ∈ L, Srt o.rows) : Srt (baseR L name) := by
  unfold baseR
  cases hf : L.find? (isO name) with
  | none => exact List.Pairwise.nil
  | some o => exact h o (List.mem_of_find?_eq_some hf)
set_option maxRecDepth 100000 in
set_option maxHeartbeats 8000000 in
theorem rrows_any (w : World) (next : Int) (v : Value) (L : List Ob) (wv : Value) (E : List Ef) (name : ByteArray) (hL : VObs w v L) (hE : VEfs w wv E) (hm : L.length ≤ 1000000) (hr : ∀ o ∈ L, o.rows.length ≤ 400000) (hn : E.length ≤ 100000) (hoB : ∀ o ∈ L, RowsOk o.rows) (hkE : ∀ e ∈ E, e.key.size ≤ 140737488351232) :
    Calls Try.prog 73 #[.agg #[.int .i64 next, v], wv, .string name] w fun e w' => ∃ v', e = .returned v' ∧ VRows w' v' (tab L E name) ∧ Below w.heap.size w w' := by
  obtain ⟨A, cap, rfl, hc, _⟩ := hL.view.cells
  obtain ⟨A2, cap2, rfl, hc2, _⟩ := hE.cells
  have hb0 : Below w.heap.size w (w.alloc (.cells #[.int .i64 next, .slice A L.length cap] 45)) := (Below.refl _ _).alloc (Nat.le_refl _) _
  have hbx := Whole.new w 45 #[.int .i64 next, .slice A L.length cap]
  have kF := findObj_any _ next (.slice A L.length cap) L name (hL.below hb0) hm
  have hlt0 : w.heap.size < (w.alloc (.cells #[.int .i64 next, .slice A L.length cap] 45)).heap.size := hbx.lt
  have hbo : RowsOk (baseR L name) := base_ok hoB
  have hR : (baseR L name).length ≤ 400000 := base_len hr
  replace hL := Lib.hid hL
  replace hE := Lib.hid hE
  replace hr := Lib.hid hr
  replace hkE := Lib.hid hkE
  clear hoB
  rcases idxA_cases (isO name) L with ⟨j, hj, ei, hp, hf⟩ | ⟨ei, hf⟩
  · rw [ei] at kF
    replace kF := Lib.hid kF
    have hbase : baseR L name = L[j].rows := by unfold baseR; rw [hf]; rfl
    rw [hbase] at hbo hR
    have q0 : (j : Int) < (L.length : Int) := by omega
    replace hbo := Lib.hid hbo
    replace hR := Lib.hid hR
    replace hbase := Lib.hid hbase
    clear ei hp hf
    go_enter Try.func73, Try.ntmps73
    go_upto_region 3 with (go_at_call 28; refine kF.out.mono ?_; rintro e w2 ⟨rfl, hb2⟩)
    have hB2 := below_then hb0 hb2
    have c0 : w2.cell? ⟨w.heap.size, 0, none⟩ = some (.int .i64 next) := (hbx.below hb2).cell 0
    have c1 : w2.cell? ⟨w.heap.size, 1, none⟩ = some (.slice A L.length cap) := (hbx.below hb2).cell 1
    have hlt2 : w.heap.size < w2.heap.size := Nat.lt_of_lt_of_le hlt0 hb2.size
    obtain ⟨b, off, cap', e, _, _, hbl, f⟩ := obs_at (hL.out.below hB2) (by omega)
    injection e with e1 e2 e3
    subst e1 e3
    obtain ⟨p0, p1, p2, p3, p4, p5⟩ := f j hj
    have hV : VRows w2 L[j].r L[j].rows := ((hL.out.each _ (List.getElem_mem hj)).below hB2).rows
    clear f hb0 hbx kF hlt0 hb2 p0 p1 p2 p4 p5
    generalize L[j].rows = base at *
    generalize L[j].r = bv at *
    replace hV := Lib.hid hV
    replace hB2 := Lib.hid hB2
    go_upto_region 6 with fail
    replace hV := hV.out
    replace hB2 := hB2.out
    replace hbase := hbase.out
    replace hbo := hbo.out
    replace hR := hR.out
    clear p3 c0 c1
    go_loopw [7, 9] (fun a i wr => ∃ k : Nat, k ≤ E.length ∧ i = .int .i64 k ∧ VRows wr a ((E.take k).foldl (tab1 name) base) ∧ RowsOk ((E.take k).foldl (tab1 name) base) ∧ Below w.heap.size w wr) (fun _ i _ => E.length - (intOf i).toNat)
    case atStart => exact ⟨0, by omega, rfl, hV, hbo, hB2⟩
    case round =>
      clear hV hB2 hbo
      obtain ⟨k, hk, rfl, hv, hok, hb⟩ := hrel
      obtain ⟨A3, cap3, rfl, hc3, hc4⟩ := hv.cells
      by_cases hlt : k < E.length
      · have q1 : (k : Int) < (E.length : Int) := by omega
        have hE2 : VEfs wr (.slice A2 E.length cap2) E := View.below hE.out hb
        obtain ⟨b, off, cap', e, _, _, hbl, f⟩ := efs_at hE2 (by omega)
        injection e with e1 e2 e3
        subst e1 e3
        obtain ⟨p0, p1, p2, p3, _⟩ := f k hlt
        clear f hE2
        have htk := tabs_take (name := name) (L := base) hlt
        have hln := tabs_len name base (E.take k)
        rw [List.length_take] at hln
        have hke := hkE.out E[k] (List.getElem_mem hlt)
        have hok2 : RowsOk (tab1 name ((E.take k).foldl (tab1 name) base) E[k]) := tab1_ok hok hke
        rw [← htk] at hok2
        replace hok2 := Lib.hid hok2
        generalize (E.take k).foldl (tab1 name) base = M at *
        generalize E[k] = x at *
        obtain ⟨x0, x1, x2, x3, x4, x5, x6, ⟨x7, x8, x9, x10, x11, x12⟩⟩ := x
        simp only at p0 p1 p2 p3 hke
        replace htk := htk.trans (show tab1 name M ⟨x0, x1, x2, x3, x4, x5, x6, ⟨x7, x8, x9, x10, x11, x12⟩⟩ = if x1 = name then if x0 = 2 then putS M ⟨x2, x3⟩ else if x0 = 3 then cutS M x2 else M else M from rfl)
        by_cases ho : x1 = name
        · rw [if_pos ho] at htk
          subst ho
          by_cases h2 : x0 = 2
          · subst h2
            rw [if_pos rfl] at htk
            have kP := Lib.hid (refPut_any (w := wr.drew) (x := ⟨x2, x3⟩) (View.drew hv) (by omega) hok hke)
            replace htk := Lib.hid htk
            replace hv := Lib.hid hv
            replace hb := Lib.hid hb
            replace hok := Lib.hid hok
            clear hln
            go_upto_region 11 with fail
            go_region_held3 (fun (w' : World) => w'.cell? ⟨b, off + k * 13 + 2, none⟩ = some (.string x2) ∧ w'.cell? ⟨b, off + k * 13 + 3, none⟩ = some (.string x3)) (first | assumption | exact ⟨p2, p3⟩ | exact ⟨(hb4.cell (p := ⟨b, off + k * 13 + 2, none⟩) hbl).trans p2, (hb4.cell (p := ⟨b, off + k * 13 + 3, none⟩) hbl).trans p3⟩) (first | (go_at_call 23; refine kP.out.mono ?_; rintro e w4 ⟨v4, rfl, ho4, hb4⟩))
            have hb5 := (Below.drew hb.out).trans (hb4.mono hb.out.size)
            go_wp2_with fail
            go_roundw
            case rel => exact ⟨k + 1, by omega, by go_num, by rw [htk.out]; exact View.of_own ho4, hok2.out, hb5⟩
            case measure => simp [intOf]; omega
          · rw [if_neg h2] at htk
            by_cases h3 : x0 = 3
            · subst h3
              rw [if_pos rfl] at htk
              have kP := Lib.hid (refCut_any (key := x2) hv (by omega) hok hke)
              replace htk := Lib.hid htk
              replace hv := Lib.hid hv
              replace hb := Lib.hid hb
              replace hok := Lib.hid hok
              clear hln
              go_wp2_with (go_at_call 54; refine kP.out.mono ?_; rintro e w4 ⟨v4, rfl, ho4, hb4⟩)
              go_roundw
              case rel => exact ⟨k + 1, by omega, by go_num, by rw [htk.out]; exact View.of_own ho4, hok2.out, hb.out.trans (hb4.mono hb.out.size)⟩
              case measure => simp [intOf]; omega
            · rw [if_neg h3] at htk
              have h2' : (x0 == 2) = false := beq_eq_false_iff_ne.2 h2
              have h3' : (x0 == 3) = false := beq_eq_false_iff_ne.2 h3
              replace htk := Lib.hid htk
              replace hv := Lib.hid hv
              replace hb := Lib.hid hb
              replace hok := Lib.hid hok
              clear hln
              go_wp2_with fail
              go_roundw
              case rel => exact ⟨k + 1, by omega, by go_num, by rw [htk.out]; exact hv.out, hok2.out, hb.out⟩
              case measure => simp [intOf]; omega
        · rw [if_neg ho] at htk
          have ho' := str_ne ho
          replace htk := Lib.hid htk
          replace hv := Lib.hid hv
          replace hb := Lib.hid hb
          replace hok := Lib.hid hok
          clear hln
          go_wp2_with fail
          go_roundw
          case rel => exact ⟨k + 1, by omega, by go_num, by rw [htk.out]; exact hv.out, hok2.out, hb.out⟩
          case measure => simp [intOf]; omega
      · obtain rfl : k = E.length := by omega
        rw [List.take_length] at hv
        go_wp2_with fail
        go_ret
        refine ⟨_, rfl, ?_, hb⟩
        unfold tab
        rw [hbase]
        refine (show VRows wr (.slice A3 ((E.take E.length).foldl (tab1 name) base).length cap3) (E.foldl (tab1 name) base) from ?_)
        rw [List.take_length]
        exact hv
  · rw [ei] at kF
    replace kF := Lib.hid kF
    have hbase : baseR L name = [] := by unfold baseR; rw [hf]; rfl
    rw [hbase] at hbo hR
    replace hbo := Lib.hid hbo
    replace hR := Lib.hid hR
    replace hbase := Lib.hid hbase
    clear ei hf
    go_enter Try.func73, Try.ntmps73
    go_upto_region 3 with (go_at_call 28; refine kF.out.mono ?_; rintro e w2 ⟨rfl, hb2⟩)
    have hB2 := below_then hb0 hb2
    have c0 : w2.cell? ⟨w.heap.size, 0, none⟩ = some (.int .i64 next) := (hbx.below hb2).cell 0
    have c1 : w2.cell? ⟨w.heap.size, 1, none⟩ = some (.slice A L.length cap) := (hbx.below hb2).cell 1
    have hlt2 : w.heap.size < w2.heap.size := Nat.lt_of_lt_of_le hlt0 hb2.size
    have hV : VRows w2 (.slice none 0 0) [] := View.nil _ _
    clear hb0 hbx kF hlt0 hb2
    replace hbase := hbase.out
    replace hbo := hbo.out
    replace hR := hR.out
    generalize ([] : List Row) = base at *
    replace hbase := Lib.hid hbase
    replace hV := Lib.hid hV
    replace hB2 := Lib.hid hB2
    replace hbo := Lib.hid hbo
    replace hR := Lib.hid hR
    go_upto_region 6 with fail
    replace hV := hV.out
    replace hB2 := hB2.out
    replace hbase := hbase.out
    replace hbo := hbo.out
    replace hR := hR.out
    clear c0 c1
    go_loopw [7, 9] (fun a i wr => ∃ k : Nat, k ≤ E.length ∧ i = .int .i64 k ∧ VRows wr a ((E.take k).foldl (tab1 name) base) ∧ RowsOk ((E.take k).foldl (tab1 name) base) ∧ Below w.heap.size w wr) (fun _ i _ => E.length - (intOf i).toNat)
    case atStart => exact ⟨0, by omega, rfl, hV, hbo, hB2⟩
    case round =>
      clear hV hB2 hbo
      obtain ⟨k, hk, rfl, hv, hok, hb⟩ := hrel
      obtain ⟨A3, cap3, rfl, hc3, hc4⟩ := hv.cells
      by_cases hlt : k < E.length
      · have q1 : (k : Int) < (E.length : Int) := by omega
        have hE2 : VEfs wr (.slice A2 E.length cap2) E := View.below hE.out hb
        obtain ⟨b, off, cap', e, _, _, hbl, f⟩ := efs_at hE2 (by omega)
        injection e with e1 e2 e3
        subst e1 e3
        obtain ⟨p0, p1, p2, p3, _⟩ := f k hlt
        clear f hE2
        have htk := tabs_take (name := name) (L := base) hlt
        have hln := tabs_len name base (E.take k)
        rw [List.length_take] at hln
        have hke := hkE.out E[k] (List.getElem_mem hlt)
        have hok2 : RowsOk (tab1 name ((E.take k).foldl (tab1 name) base) E[k]) := tab1_ok hok hke
        rw [← htk] at hok2
        replace hok2 := Lib.hid hok2
        generalize (E.take k).foldl (tab1 name) base = M at *
        generalize E[k] = x at *
        obtain ⟨x0, x1, x2, x3, x4, x5, x6, ⟨x7, x8, x9, x10, x11, x12⟩⟩ := x
        simp only at p0 p1 p2 p3 hke
        replace htk := htk.trans (show tab1 name M ⟨x0, x1, x2, x3, x4, x5, x6, ⟨x7, x8, x9, x10, x11, x12⟩⟩ = if x1 = name then if x0 = 2 then putS M ⟨x2, x3⟩ else if x0 = 3 then cutS M x2 else M else M from rfl)
        by_cases ho : x1 = name
        · rw [if_pos ho] at htk
          subst ho
          by_cases h2 : x0 = 2
          · subst h2
            rw [if_pos rfl] at htk
            have kP := Lib.hid (refPut_any (w := wr.drew) (x := ⟨x2, x3⟩) (View.drew hv) (by omega) hok hke)
            replace htk := Lib.hid htk
            replace hv := Lib.hid hv
            replace hb := Lib.hid hb
            replace hok := Lib.hid hok
            clear hln
            go_upto_region 11 with fail
            go_region_held3 (fun (w' : World) => w'.cell? ⟨b, off + k * 13 + 2, none⟩ = some (.string x2) ∧ w'.cell? ⟨b, off + k * 13 + 3, none⟩ = some (.string x3)) (first | assumption | exact ⟨p2, p3⟩ | exact ⟨(hb4.cell (p := ⟨b, off + k * 13 + 2, none⟩) hbl).trans p2, (hb4.cell (p := ⟨b, off + k * 13 + 3, none⟩) hbl).trans p3⟩) (first | (go_at_call 23; refine kP.out.mono ?_; rintro e w4 ⟨v4, rfl, ho4, hb4⟩))
            have hb5 := (Below.drew hb.out).trans (hb4.mono hb.out.size)
            go_wp2_with fail
            go_roundw
            case rel => exact ⟨k + 1, by omega, by go_num, by rw [htk.out]; exact View.of_own ho4, hok2.out, hb5⟩
            case measure => simp [intOf]; omega
          · rw [if_neg h2] at htk
            by_cases h3 : x0 = 3
            · subst h3
              rw [if_pos rfl] at htk
              have kP := Lib.hid (refCut_any (key := x2) hv (by omega) hok hke)
              replace htk := Lib.hid htk
              replace hv := Lib.hid hv
              replace hb := Lib.hid hb
              replace hok := Lib.hid hok
              clear hln
              go_wp2_with (go_at_call 54; refine kP.out.mono ?_; rintro e w4 ⟨v4, rfl, ho4, hb4⟩)
              go_roundw
              case rel => exact ⟨k + 1, by omega, by go_num, by rw [htk.out]; exact View.of_own ho4, hok2.out, hb.out.trans (hb4.mono hb.out.size)⟩
              case measure => simp [intOf]; omega
            · rw [if_neg h3] at htk
              have h2' : (x0 == 2) = false := beq_eq_false_iff_ne.2 h2
              have h3' : (x0 == 3) = false := beq_eq_false_iff_ne.2 h3
              replace htk := Lib.hid htk
              replace hv := Lib.hid hv
              replace hb := Lib.hid hb
              replace hok := Lib.hid hok
              clear hln
              go_wp2_with fail
              go_roundw
              case rel => exact ⟨k + 1, by omega, by go_num, by rw [htk.out]; exact hv.out, hok2.out, hb.out⟩
              case measure => simp [intOf]; omega
        · rw [if_neg ho] at htk
          have ho' := str_ne ho
          replace htk := Lib.hid htk
          replace hv := Lib.hid hv
          replace hb := Lib.hid hb
          replace hok := Lib.hid hok
          clear hln
          go_wp2_with fail
          go_roundw
          case rel => exact ⟨k + 1, by omega, by go_num, by rw [htk.out]; exact hv.out, hok2.out, hb.out⟩
          case measure => simp [intOf]; omega
      · obtain rfl : k = E.length := by omega
        rw [List.take_length] at hv
        go_wp2_with fail
        go_ret
        refine ⟨_, rfl, ?_, hb⟩
        unfold tab
        rw [hbase]
        refine (show VRows wr (.slice A3 ((E.take E.length).foldl (tab1 name) base).length cap3) (E.foldl (tab1 name) base) from ?_)
        rw [List.take_length]
        exact hv
end Go.Proofs.Ytegomkgfmaclkaa
