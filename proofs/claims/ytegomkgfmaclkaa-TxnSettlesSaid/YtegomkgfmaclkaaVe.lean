/-
  posteref1.In, Range; posteref14.Get, Scan; txn.Scan; SameEffects; both Unclaims: each by its contract.
-/
import Derived.Test.YtegomkgfmaclkaaVd
import Derived.Test.YtegomkgfmaclkaaVc
import Derived.Test.YtegomkgfmaclkaaTill
set_option linter.unusedVariables false
set_option linter.unusedSimpArgs false
namespace Go.Proofs.Ytegomkgfmaclkaa
open Go.RowKit Go.Proofs.PosteOrd Go.Proofs.PosteMem

theorem less_eq (a b : List UInt8) : Op.bytesLess a b = decide (cmpL a b < 0) := by
  cases e : Op.bytesLess a b with
  | true =>
    have : ¬ 0 ≤ cmpL a b := fun h => by rw [cmpL_nonneg, e] at h; cases h
    exact (decide_eq_true (by omega)).symm
  | false =>
    have := cmpL_nonneg.2 e
    exact (decide_eq_false (by omega)).symm
theorem nil_str (t : ByteArray) : t.toList.isEmpty = decide (t = ⟨#[]⟩) := by
  rw [← str_beq, show (⟨#[]⟩ : ByteArray).toList = [] by rw [ByteArray.toList_eq]]
  cases t.toList <;> rfl
set_option maxHeartbeats 2000000 in
theorem refIn_any (w : World) (k f t : ByteArray) (hk : k.size ≤ 140737488351232) (hf : f.size ≤ 140737488351232) (ht : t.size ≤ 140737488351232) :
    Calls Try.prog 95 #[.string k, .string f, .string t] w fun e w' => e = .returned (.bool (inB k f t)) ∧ Same w w' := by
  have hI : inB k f t = (decide (0 ≤ cmpL k.toList f.toList) && (decide (t = ⟨#[]⟩) || decide (cmpL k.toList t.toList < 0))) := by
    unfold inB
    rw [less_eq, less_eq, nil_str]
    congr 1
    by_cases h : cmpL k.toList f.toList < 0
    · rw [decide_eq_true h, decide_eq_false (by omega)]; rfl
    · rw [decide_eq_false h, decide_eq_true (by omega)]; rfl
  have k1 := fun (W : World) => refKeys_any k f W hk hf
  have k2 := fun (W : World) => refKeys_any k t W hk ht
  rw [hI]
  generalize cmpL k.toList f.toList = cm1 at *
  generalize cmpL k.toList t.toList = cm2 at *
  replace k1 := Lib.hid k1
  replace k2 := Lib.hid k2
  clear hI
  by_cases h1 : 0 ≤ cm1
  · by_cases h2 : t = ⟨#[]⟩
    · subst h2
      rw [decide_eq_true h1, decide_eq_true (rfl : (⟨#[]⟩ : ByteArray) = ⟨#[]⟩)]
      clear k2
      go_enter Try.func95, Try.ntmps95
      go_wp2_with fail
      refine (k1.out _).mono ?_; rintro e w1 ⟨rfl, m1, rfl⟩
      go_wp2_with fail
      go_ret
      exact ⟨rfl, m1, rfl⟩
    · rw [decide_eq_true h1, decide_eq_false h2]
      have h2' : ¬ t.toList = [] := fun e => h2 (str_eq.1 (e.trans (by rw [ByteArray.toList_eq])))
      by_cases h3 : cm2 < 0
      all_goals
        go_enter Try.func95, Try.ntmps95
        go_wp2_with fail
        refine (k1.out _).mono ?_; rintro e w1 ⟨rfl, m1, rfl⟩
        go_wp2_with fail
        refine (k2.out _).mono ?_; rintro e w2 ⟨rfl, m2, rfl⟩
        go_wp2_with fail
        go_ret
        exact ⟨by simp [h2', h3], m1 + m2, rfl⟩
  · rw [decide_eq_false h1]
    go_enter Try.func95, Try.ntmps95
    go_wp2_with fail
    refine (k1.out _).mono ?_; rintro e w1 ⟨rfl, m1, rfl⟩
    go_wp2_with fail
    go_ret
    exact ⟨rfl, m1, rfl⟩

set_option maxRecDepth 100000 in
set_option maxHeartbeats 4000000 in
theorem refRange_any (w : World) (v : Value) (L : List Row) (f t : ByteArray) (h : VRows w v L) (hm : L.length ≤ 1000000) (hok : RowsOk L) (hf : f.size ≤ 140737488351232) (ht : t.size ≤ 140737488351232) :
    Calls Try.prog 74 #[v, .string f, .string t] w fun e w' => ∃ v', e = .returned v' ∧ ORows w' w.heap.size v' (L.filter fun r => inB r.key f t) ∧ Below w.heap.size w w' := by
  obtain ⟨i0, hi0, hz0, hz1, hz2⟩ := info_parts infoRow
  obtain ⟨A, cap, rfl, hc, _⟩ := h.cells
  replace h := Lib.hid h
  replace hok := Lib.hid hok
  go_enter Try.func74, Try.ntmps74
  go_wp2_with fail
  go_loopw [7, 8] (fun o q wr => ∃ k : Nat, k ≤ L.length ∧ q = .int .i64 k ∧ ORows wr w.heap.size o ((L.take k).filter fun r => inB r.key f t) ∧ Below w.heap.size w wr) (fun _ q _ => L.length - (intOf q).toNat)
  case atStart => exact ⟨0, by omega, rfl, World.ownsRow_nil _ _ _ _, Below.refl _ _⟩
  case round =>
    obtain ⟨k, hk, rfl, ho, hb⟩ := hrel
    by_cases hlt2 : k < L.length
    · have q1 : (k : Int) < (L.length : Int) := by omega
      obtain ⟨b, off, cap', e, _, _, hbl, fa⟩ := rows_at h.out (by omega)
      injection e with e1 e2 e3
      subst e1 e3
      obtain ⟨p0, p1⟩ := fa k hlt2
      replace p0 := (hb.cell (p := ⟨b, off + k * 2, none⟩) hbl).trans p0
      replace p1 := (hb.cell (p := ⟨b, off + k * 2 + 1, none⟩) hbl).trans p1
      clear fa
      have hxk := hok.out L[k] (List.getElem_mem hlt2)
      have hxe : L.take (k + 1) = L.take k ++ [L[k]] := List.take_succ_eq_append_getElem hlt2
      generalize L[k] = x at *
      have hfl : ((L.take k).filter fun r => inB r.key f t).length ≤ k := Nat.le_trans (List.length_filter_le _ _) (by rw [List.length_take]; omega)
      have hxf : inB x.key f t = true → (L.take (k + 1)).filter (fun r => inB r.key f t) = (L.take k).filter (fun r => inB r.key f t) ++ [x] := fun h9 => by
        rw [hxe, List.filter_append, List.filter_cons_of_pos (by exact h9), List.filter_nil]
      have hxn : ¬ inB x.key f t = true → (L.take (k + 1)).filter (fun r => inB r.key f t) = (L.take k).filter (fun r => inB r.key f t) := fun h9 => by
        rw [hxe, List.filter_append, List.filter_cons_of_neg (by exact h9), List.filter_nil, List.append_nil]
      replace hxf := Lib.hid hxf
      replace hxn := Lib.hid hxn
      clear hxe
      have kI := refIn_any wr x.key f t hxk hf ht
      generalize (L.take k).filter (fun r => inB r.key f t) = M at *
      generalize inB x.key f t = g at *
      replace kI := Lib.hid kI
      replace ho := Lib.hid ho
      replace hb := Lib.hid hb
      have hob := own_below ho.out ((Below.refl _ _).alloc (Nat.le_refl _) (.cells #[.string x.key, .string x.val] 31))
      cases g with
      | true =>
        replace hxf := Lib.hid (hxf.out rfl)
        go_upto_region 6 with (go_at_call 95; refine kI.out.mono ?_; rintro e w4 ⟨rfl, m4, rfl⟩)
        have hB4 := below_dn m4 hb.out
        have ho4 : ORows (wr.drewN m4) w.heap.size _ M := own_drewN ho.out m4
        have r0 : (wr.drewN m4).cell? ⟨b, off + k * 2, none⟩ = some (.string x.key) := p0
        have r1 : (wr.drewN m4).cell? ⟨b, off + k * 2 + 1, none⟩ = some (.string x.val) := p1
        have hszw : b < (wr.drewN m4).heap.size := Nat.lt_of_lt_of_le hbl hb.out.size
        clear hob hb kI p0 p1 ho
        generalize wr.drewN m4 = w5 at *
        have hvx := View.boxAt (sz := 2) w5 x.cells 31 w5.heap.size rfl rfl
        have hob := own_below ho4 ((Below.refl _ _).alloc (Nat.le_refl _) (.cells x.cells.toArray 31))
        have hbb := hB4.alloc hB4.size (.cells x.cells.toArray 31)
        have hlt4 := Lib.hid ho4.lt
        replace hob := Lib.hid hob
        replace hbb := Lib.hid hbb
        replace hvx := Lib.hid hvx
        replace hB4 := Lib.hid hB4
        clear ho4
        go_wp2_with (at_builtin; refine wpList_append_view _ rfl (.tmp 23) (.tmp 28) _ rfl w.heap.size 31 i0 zRow 2 32 Try.underlying22 hi0 hz0 hz1 hz2 rfl (by decide) _ M.length _ rfl hob.out _ 1 x.cells rfl hvx.out (by intro u hu; simp only [Row.cells, List.mem_cons, List.not_mem_nil, or_false] at hu; rcases hu with rfl | rfl <;> rfl) (by omega) (by simp only [maxLen]; omega) hbb.out.size ?_; intro v3 w3 hown hg hat)
        have hup := Upd.of_grown (S := fun b => u7.ownBlock = some b) hg (fun _ h => h)
        go_roundw
        case rel => exact ⟨k + 1, by omega, by go_num, by rw [hxf.out]; exact rows_snoc hown, hbb.out.trans (hup.below hbb.out.size (fun b he => (hlt4.out b he).1))⟩
        case measure => simp [intOf]; omega
      | false =>
        replace hxn := Lib.hid (hxn.out (by decide))
        go_wp2_with (go_at_call 95; refine kI.out.mono ?_; rintro e w4 ⟨rfl, m4, rfl⟩)
        go_roundw
        case rel => exact ⟨k + 1, by omega, by go_num, by rw [hxn.out]; exact own_drewN ho.out m4, below_dn m4 hb.out⟩
        case measure => simp [intOf]; omega
    · obtain rfl : k = L.length := by omega
      rw [List.take_length] at ho
      have q1 : ¬ (L.length : Int) < (L.length : Int) := by omega
      go_wp2_with fail
      go_ret
      exact ⟨_, rfl, ho, hb⟩

theorem tab_len {L : List Ob} {E : List Ef} {name : ByteArray} (hr : ∀ o ∈ L, o.rows.length ≤ 400000) (hn : E.length ≤ 100000) : (tab L E name).length ≤ 500000 := by
  have h1 := tabs_len name (baseR L name) E
  have h2 : (baseR L name).length ≤ 400000 := base_len hr
  unfold tab
  omega
set_option maxHeartbeats 1000000 in
theorem rget1_any (w : World) (next : Int) (v : Value) (L : List Ob) (wv : Value) (E : List Ef) (name key : ByteArray) (hL : VObs w v L) (hE : VEfs w wv E) (hm : L.length ≤ 1000000) (hr : ∀ o ∈ L, o.rows.length ≤ 400000) (hn : E.length ≤ 100000) (hoB : ∀ o ∈ L, RowsOk o.rows) (hkE : ∀ e ∈ E, e.key.size ≤ 140737488351232) (hk : key.size ≤ 140737488351232) (hs : Srt (baseR L name)) :
    Calls Try.prog 33 #[.agg #[.int .i64 next, v], wv, .string name, .string key] w fun e w' => e = .returned (.tuple #[.string ((look (tab L E name) key).getD ⟨#[]⟩), .bool (look (tab L E name) key).isSome]) ∧ Below w.heap.size w w' := by
  obtain ⟨A, cap, rfl, hc, _⟩ := hL.view.cells
  obtain ⟨A2, cap2, rfl, hc2, _⟩ := hE.cells
  have hb0 : Below w.heap.size w (w.alloc (.cells #[.int .i64 next, .slice A L.length cap] 45)) := (Below.refl _ _).alloc (Nat.le_refl _) _
  have kT := Lib.hid (rrows_any _ next _ L _ E name (hL.below hb0) (View.below hE hb0) hm hr hn hoB hkE)
  have hlen := tab_len (name := name) hr hn
  have hst : Srt (tab L E name) := tabs_srt E hs
  have hrok : RowsOk (tab L E name) := tabs_ok E (base_ok hoB) hkE
  generalize tab L E name = M at *
  replace hst := Lib.hid hst
  replace hrok := Lib.hid hrok
  replace hb0 := Lib.hid hb0
  clear hL hE hr hs hoB hkE
  go_enter Try.func33, Try.ntmps33
  go_wp2_with fail
  refine kT.out.mono ?_; rintro e w2 ⟨v2, rfl, hv2, hb2⟩
  have kG := Lib.hid (getRow_any (key := key) hv2 (by omega) hrok.out hk hst.out)
  obtain ⟨A3, cap3, rfl, hc3, _⟩ := hv2.cells
  clear hv2 kT
  generalize hr9 : look M key = r at kG
  replace hr9 := Lib.hid hr9
  go_wp2_with fail
  refine kG.out.mono ?_; rintro e w3 ⟨rfl, m3, rfl⟩
  go_wp2_with fail
  go_ret2
  exact ⟨by rw [hr9.out]; rfl, below_dn m3 (below_then hb0.out hb2)⟩
set_option maxHeartbeats 1000000 in
theorem tscan_any (w : World) (next : Int) (v : Value) (L : List Ob) (wv : Value) (E : List Ef) (name f t : ByteArray) (hL : VObs w v L) (hE : VEfs w wv E) (hm : L.length ≤ 1000000) (hr : ∀ o ∈ L, o.rows.length ≤ 400000) (hn : E.length ≤ 100000) :
    Calls Try.prog 32 #[.agg #[.int .i64 next, v], wv, .string name, .string f, .string t] w fun e w' => ∃ v', e = .returned v' ∧ ORows w' w.heap.size v' ((tab L E name).filter fun r => inB r.key f t) ∧ Below w.heap.size w w' := by
  obtain ⟨A, cap, rfl, hc, _⟩ := hL.view.cells
  obtain ⟨A2, cap2, rfl, hc2, _⟩ := hE.cells
  have hb0 : Below w.heap.size w (w.alloc (.cells #[.int .i64 next, .slice A L.length cap] 45)) := (Below.refl _ _).alloc (Nat.le_refl _) _
  have kT := Lib.hid (table_any _ next _ L _ E name (hL.below hb0) (View.below hE hb0) hm hr hn)
  have hlen := tab_len (name := name) hr hn
  have hrok : True := trivial
  generalize tab L E name = M at *
  replace hrok := Lib.hid hrok
  replace hb0 := Lib.hid hb0
  clear hL hE hr
  go_enter Try.func32, Try.ntmps32
  go_wp2_with fail
  refine kT.out.mono ?_; rintro e w2 ⟨v2, rfl, hv2, hb2⟩
  have kG := Lib.hid (range_any _ _ M f t hv2 (by omega))
  obtain ⟨A3, cap3, rfl, hc3, _⟩ := hv2.cells
  clear hv2 kT
  have hb02 := Lib.hid (below_then hb0.out hb2)
  clear hb2
  go_wp2_with fail
  refine kG.out.mono ?_; rintro e w3 ⟨v3, rfl, ho3, hb3⟩
  go_wp2_with fail
  go_ret
  exact ⟨_, rfl, own_mono ho3 hb02.out.size, below_then hb02.out hb3⟩
set_option maxHeartbeats 1000000 in
theorem rscan_any (w : World) (next : Int) (v : Value) (L : List Ob) (wv : Value) (E : List Ef) (name f t : ByteArray) (hL : VObs w v L) (hE : VEfs w wv E) (hm : L.length ≤ 1000000) (hr : ∀ o ∈ L, o.rows.length ≤ 400000) (hn : E.length ≤ 100000) (hoB : ∀ o ∈ L, RowsOk o.rows) (hkE : ∀ e ∈ E, e.key.size ≤ 140737488351232) (hf : f.size ≤ 140737488351232) (ht : t.size ≤ 140737488351232) :
    Calls Try.prog 34 #[.agg #[.int .i64 next, v], wv, .string name, .string f, .string t] w fun e w' => ∃ v', e = .returned v' ∧ ORows w' w.heap.size v' ((tab L E name).filter fun r => inB r.key f t) ∧ Below w.heap.size w w' := by
  obtain ⟨A, cap, rfl, hc, _⟩ := hL.view.cells
  obtain ⟨A2, cap2, rfl, hc2, _⟩ := hE.cells
  have hb0 : Below w.heap.size w (w.alloc (.cells #[.int .i64 next, .slice A L.length cap] 45)) := (Below.refl _ _).alloc (Nat.le_refl _) _
  have kT := Lib.hid (rrows_any _ next _ L _ E name (hL.below hb0) (View.below hE hb0) hm hr hn hoB hkE)
  have hlen := tab_len (name := name) hr hn
  have hrok : RowsOk (tab L E name) := tabs_ok E (base_ok hoB) hkE
  generalize tab L E name = M at *
  replace hrok := Lib.hid hrok
  replace hb0 := Lib.hid hb0
  clear hL hE hr
  go_enter Try.func34, Try.ntmps34
  go_wp2_with fail
  refine kT.out.mono ?_; rintro e w2 ⟨v2, rfl, hv2, hb2⟩
  have kG := Lib.hid (refRange_any _ _ M f t hv2 (by omega) hrok.out hf ht)
  obtain ⟨A3, cap3, rfl, hc3, _⟩ := hv2.cells
  clear hv2 kT
  have hb02 := Lib.hid (below_then hb0.out hb2)
  clear hb2
  go_wp2_with fail
  refine kG.out.mono ?_; rintro e w3 ⟨v3, rfl, ho3, hb3⟩
  go_wp2_with fail
  go_ret
  exact ⟨_, rfl, own_mono ho3 hb02.out.size, below_then hb02.out hb3⟩

set_option maxRecDepth 100000 in
set_option maxHeartbeats 4000000 in
theorem same_efs (w : World) (v1 v2 : Value) (L : List Ef) (h1 : VEfs w v1 L) (h2 : VEfs w v2 L) (hm : L.length ≤ 1000000) :
    Calls Try.prog 35 #[v1, v2] w fun e w' => e = .returned (.bool true) ∧ Same w w' := by
  by_cases h0 : L.length = 0
  · obtain ⟨A1, c1, rfl, _, _⟩ := h1.cells
    obtain ⟨A2, c2, rfl, _, _⟩ := h2.cells
    rw [h0]
    go_enter Try.func35, Try.ntmps35
    go_wp2_with fail
    go_rounds 1
    go_ret
    exact ⟨rfl, Same.refl _⟩
  · obtain ⟨b1, o1, c1, rfl, l1, m1, _, f1⟩ := efs_at h1 (by omega)
    obtain ⟨b2, o2, c2, rfl, l2, m2, _, f2⟩ := efs_at h2 (by omega)
    clear h1 h2
    replace f1 := Lib.hid f1
    replace f2 := Lib.hid f2
    go_enter Try.func35, Try.ntmps35
    go_wp2_with fail
    go_loopw [5] (fun i wr => ∃ k : Nat, k ≤ L.length ∧ i = .int .i64 k ∧ Same w wr) (fun i _ => L.length - (intOf i).toNat)
    case atStart => exact ⟨0, by omega, rfl, 0, rfl⟩
    case round =>
      obtain ⟨k, hk, rfl, m, rfl⟩ := hrel
      by_cases hlt : k < L.length
      · have q1 : (k : Int) < (L.length : Int) := by omega
        obtain ⟨p0, p1, p2, p3, p4, p5, p6, p7, p8, p9, p10, p11, p12⟩ := f1.out k hlt
        obtain ⟨r0, r1, r2, r3, r4, r5, r6, r7, r8, r9, r10, r11, r12⟩ := f2.out k hlt
        generalize L[k] = x at *
        obtain ⟨x0, x1, x2, x3, x4, x5, x6, ⟨x7, x8, x9, x10, x11, x12⟩⟩ := x
        simp only at p0 p1 p2 p3 p4 p5 p6 p7 p8 p9 p10 p11 p12 r0 r1 r2 r3 r4 r5 r6 r7 r8 r9 r10 r11 r12
        go_wp2_with fail
        go_quiet (fail)
        go_wp2_with fail
        go_roundw
        case rel => exact ⟨k + 1, by omega, by go_num, _, rfl⟩
        case measure => simp [intOf]; omega
      · go_wp2_with fail
        go_ret
        exact ⟨rfl, m, rfl⟩
/-- What frees all that was taken. -/
def frees (E : List Ef) (tried : Bool) : List Ef := (E.filter fun e => decide (e.kind = 5)).map fun e => ⟨7, e.obj, ⟨#[]⟩, ⟨#[]⟩, e.n, 0, tried, zM⟩
theorem frees_yes {E : List Ef} {tried : Bool} {k : Nat} (hk : k < E.length) (h : E[k].kind = 5) : frees (E.take (k + 1)) tried = frees (E.take k) tried ++ [⟨7, E[k].obj, ⟨#[]⟩, ⟨#[]⟩, E[k].n, 0, tried, zM⟩] := by
  unfold frees
  rw [List.take_succ_eq_append_getElem hk, List.filter_append, List.filter_cons_of_pos (by exact decide_eq_true h), List.filter_nil, List.map_append]
  rfl
theorem frees_no {E : List Ef} {tried : Bool} {k : Nat} (hk : k < E.length) (h : ¬ E[k].kind = 5) : frees (E.take (k + 1)) tried = frees (E.take k) tried := by
  unfold frees
  rw [List.take_succ_eq_append_getElem hk, List.filter_append, List.filter_cons_of_neg (by simpa using h), List.filter_nil, List.append_nil]
theorem frees_len (E : List Ef) (tried : Bool) : (frees E tried).length ≤ E.length := by
  unfold frees
  rw [List.length_map]
  exact List.length_filter_le _ _
set_option maxRecDepth 100000 in
set_option maxHeartbeats 4000000 in
theorem tunclaim_any (w : World) (v : Value) (L : List Ef) (tried : Bool) (h : VEfs w v L) (hm : L.length ≤ 100000) :
    Calls Try.prog 37 #[v, .bool tried] w fun e w' => ∃ v', e = .returned v' ∧ OEfs w' w.heap.size v' (frees L tried) ∧ Below w.heap.size w w' := by
  obtain ⟨i0, hi0, hz0, hz1, hz2⟩ := info_parts infoEf
  obtain ⟨A, cap, rfl, hc, _⟩ := h.cells
  replace h := Lib.hid h
  go_enter Try.func37, Try.ntmps37
  go_wp2_with fail
  go_loopw [5, 10] (fun o q wr => ∃ k : Nat, k ≤ L.length ∧ q = .int .i64 k ∧ OEfs wr w.heap.size o (frees (L.take k) tried) ∧ Below w.heap.size w wr) (fun _ q _ => L.length - (intOf q).toNat)
  case atStart => exact ⟨0, by omega, rfl, World.ownsRow_nil _ _ _ _, Below.refl _ _⟩
  case round =>
    obtain ⟨k, hk, rfl, ho, hb⟩ := hrel
    by_cases hlt2 : k < L.length
    · have q1 : (k : Int) < (L.length : Int) := by omega
      obtain ⟨b, off, cap', e, _, _, hbl, f⟩ := efs_at (View.below h.out hb) (by omega)
      injection e with e1 e2 e3
      subst e1 e3
      obtain ⟨p0, p1, p2, p3, p4, p5, p6, p7, p8, p9, p10, p11, p12⟩ := f k hlt2
      clear f
      have hxf := frees_yes (tried := tried) hlt2
      have hxn := frees_no (tried := tried) hlt2
      have hfl := frees_len (L.take k) tried
      rw [List.length_take] at hfl
      replace hxf := Lib.hid hxf
      replace hxn := Lib.hid hxn
      generalize L[k] = x at *
      obtain ⟨x0, x1, x2, x3, x4, x5, x6, ⟨x7, x8, x9, x10, x11, x12⟩⟩ := x
      simp only at p0 p1 p2 p3 p4 p5 p6 p7 p8 p9 p10 p11 p12
      generalize frees (L.take k) tried = M at *
      by_cases h5 : x0 = 5
      · subst h5
        replace hxf := Lib.hid (hxf.out rfl)
        replace ho := Lib.hid ho
        replace hb := Lib.hid hb
        go_upto_region 6 with fail
        have ho4 : OEfs (wr.alloc (.cells #[.int .i64 5, .string x1, .string x2, .string x3, .int .i64 x4, .int .i64 x5, .bool x6, .int .i64 x7, .int .i64 x8, .int .i64 x9, .bool x10, .string x11, .string x12] 50)) w.heap.size _ M := own_below ho.out ((Below.refl _ _).alloc (Nat.le_refl _) _)
        have hB4 : Below w.heap.size w (wr.alloc (.cells #[.int .i64 5, .string x1, .string x2, .string x3, .int .i64 x4, .int .i64 x5, .bool x6, .int .i64 x7, .int .i64 x8, .int .i64 x9, .bool x10, .string x11, .string x12] 50)) := hb.out.alloc hb.out.size _
        have c1 := (Whole.new wr 50 #[.int .i64 5, .string x1, .string x2, .string x3, .int .i64 x4, .int .i64 x5, .bool x6, .int .i64 x7, .int .i64 x8, .int .i64 x9, .bool x10, .string x11, .string x12]).cell 1; have c4 := (Whole.new wr 50 #[.int .i64 5, .string x1, .string x2, .string x3, .int .i64 x4, .int .i64 x5, .bool x6, .int .i64 x7, .int .i64 x8, .int .i64 x9, .bool x10, .string x11, .string x12]).cell 4; have hlt6 := (Whole.new wr 50 #[.int .i64 5, .string x1, .string x2, .string x3, .int .i64 x4, .int .i64 x5, .bool x6, .int .i64 x7, .int .i64 x8, .int .i64 x9, .bool x10, .string x11, .string x12]).lt; generalize wr.heap.size = q6 at *
        clear ho hb
        generalize (wr.alloc (.cells #[.int .i64 5, .string x1, .string x2, .string x3, .int .i64 x4, .int .i64 x5, .bool x6, .int .i64 x7, .int .i64 x8, .int .i64 x9, .bool x10, .string x11, .string x12] 50)) = w5 at *
        have hvx := View.boxAt (sz := 13) w5 (Ef.cells ⟨7, x1, ⟨#[]⟩, ⟨#[]⟩, x4, 0, tried, zM⟩) 50 w5.heap.size rfl rfl
        have hob := own_below ho4 ((Below.refl _ _).alloc (Nat.le_refl _) (.cells (Ef.cells ⟨7, x1, ⟨#[]⟩, ⟨#[]⟩, x4, 0, tried, zM⟩).toArray 50))
        have hbb := hB4.alloc hB4.size (.cells (Ef.cells ⟨7, x1, ⟨#[]⟩, ⟨#[]⟩, x4, 0, tried, zM⟩).toArray 50)
        have hlt4 := Lib.hid ho4.lt
        replace hob := Lib.hid hob
        replace hbb := Lib.hid hbb
        replace hvx := Lib.hid hvx
        clear ho4 hB4
        go_wp2_with (at_builtin; refine wpList_append_view _ rfl (.tmp 17) (.tmp 24) _ rfl w.heap.size 50 i0 zEf 13 144 Try.underlying46 hi0 hz0 hz1 hz2 rfl (by decide) _ M.length _ rfl hob.out _ 1 (Ef.cells ⟨7, x1, ⟨#[]⟩, ⟨#[]⟩, x4, 0, tried, zM⟩) rfl hvx.out (Ef.one1 _) (by omega) (by simp only [maxLen]; omega) hbb.out.size ?_; intro v3 w3 hown hg hat)
        have hup := Upd.of_grown (S := fun b => u5.ownBlock = some b) hg (fun _ h => h)
        go_roundw
        case rel => exact ⟨k + 1, by omega, by go_num, by rw [hxf.out]; exact efs_snoc hown, hbb.out.trans (hup.below hbb.out.size (fun b he => (hlt4.out b he).1))⟩
        case measure => simp [intOf]; omega
      · have h5' : (x0 == 5) = false := beq_eq_false_iff_ne.2 h5
        replace hxn := Lib.hid (hxn.out h5)
        replace ho := Lib.hid ho
        replace hb := Lib.hid hb
        go_wp2_with fail
        go_roundw
        case rel => exact ⟨k + 1, by omega, by go_num, by rw [hxn.out]; exact own_below ho.out ((Below.refl _ _).alloc (Nat.le_refl _) _), hb.out.alloc hb.out.size _⟩
        case measure => simp [intOf]; omega
    · obtain rfl : k = L.length := by omega
      rw [List.take_length] at ho
      have q1 : ¬ (L.length : Int) < (L.length : Int) := by omega
      go_wp2_with fail
      go_ret
      exact ⟨_, rfl, ho, hb⟩
set_option maxRecDepth 100000 in
set_option maxHeartbeats 4000000 in
theorem runclaim_any (w : World) (v : Value) (L : List Ef) (tried : Bool) (h : VEfs w v L) (hm : L.length ≤ 100000) :
    Calls Try.prog 38 #[v, .bool tried] w fun e w' => ∃ v', e = .returned v' ∧ OEfs w' w.heap.size v' (frees L tried) ∧ Below w.heap.size w w' := by
  obtain ⟨i0, hi0, hz0, hz1, hz2⟩ := info_parts infoEf
  obtain ⟨A, cap, rfl, hc, _⟩ := h.cells
  replace h := Lib.hid h
  go_enter Try.func38, Try.ntmps38
  go_wp2_with fail
  go_loopw [5, 6] (fun o q wr => ∃ k : Nat, k ≤ L.length ∧ q = .int .i64 k ∧ OEfs wr w.heap.size o (frees (L.take k) tried) ∧ Below w.heap.size w wr) (fun _ q _ => L.length - (intOf q).toNat)
  case atStart => exact ⟨0, by omega, rfl, World.ownsRow_nil _ _ _ _, Below.refl _ _⟩
  case round =>
    obtain ⟨k, hk, rfl, ho, hb⟩ := hrel
    by_cases hlt2 : k < L.length
    · have q1 : (k : Int) < (L.length : Int) := by omega
      obtain ⟨b, off, cap', e, _, _, hblw, f⟩ := efs_at h.out (by omega)
      injection e with e1 e2 e3
      subst e1 e3
      obtain ⟨p0, p1, _, _, p4, _⟩ := f k hlt2
      clear f
      have hbl : b < wr.heap.size := Nat.lt_of_lt_of_le hblw hb.size
      replace p0 := (hb.cell (p := ⟨b, off + k * 13, none⟩) hblw).trans p0
      replace p1 := (hb.cell (p := ⟨b, off + k * 13 + 1, none⟩) hblw).trans p1
      replace p4 := (hb.cell (p := ⟨b, off + k * 13 + 4, none⟩) hblw).trans p4
      have hxf := frees_yes (tried := tried) hlt2
      have hxn := frees_no (tried := tried) hlt2
      have hfl := frees_len (L.take k) tried
      rw [List.length_take] at hfl
      replace hxf := Lib.hid hxf
      replace hxn := Lib.hid hxn
      generalize L[k] = x at *
      obtain ⟨x0, x1, x2, x3, x4, x5, x6, ⟨x7, x8, x9, x10, x11, x12⟩⟩ := x
      simp only at p0 p1 p4
      generalize frees (L.take k) tried = M at *
      by_cases h5 : x0 = 5
      · subst h5
        replace hxf := Lib.hid (hxf.out rfl)
        have ho4 : OEfs wr.drew w.heap.size _ M := own_drew ho
        have hb4 := Lib.hid (Below.drew hb)
        have hlt4 := Lib.hid ho4.lt
        replace ho4 := Lib.hid ho4
        have hcur := Lib.hid (Below.refl wr.drew.heap.size wr.drew)
        replace ho := Lib.hid ho
        replace hb := Lib.hid hb
        go_upto_region 6 with fail
        refine tl_begin (fun (w' : World) => w'.cell? ⟨b, off + k * 13 + 1, none⟩ = some (.string x1) ∧ w'.cell? ⟨b, off + k * 13 + 4, none⟩ = some (.int .i64 x4)) [] (by kernel_rfl) (⟨p1, p4⟩) (fun hHeld => ?_)
        refine tl_p (i := 0) (v := ?_) rfl (by rfl) (by kernel_rfl) (by kernel_rfl) (by kernel_rfl) (fun _ _ _ h => h) (by rfl) hHeld ?_ ?_
        rotate_left
        · intro w
          go_simp
          try (with_reducible rfl)
        try simp only [Act.put, List.setIfInBounds_toArray, List.set_cons_zero, List.set_cons_succ]
        refine tl_p (i := 1) (v := ?_) rfl (by rfl) (by kernel_rfl) (by kernel_rfl) (by kernel_rfl) (fun _ _ _ h => h) (by rfl) hHeld ?_ ?_
        rotate_left
        · intro w
          go_simp
          try (with_reducible rfl)
        try simp only [Act.put, List.setIfInBounds_toArray, List.set_cons_zero, List.set_cons_succ]
        refine tl_p (i := 2) (v := ?_) rfl (by rfl) (by kernel_rfl) (by kernel_rfl) (by kernel_rfl) (fun _ _ _ h => h) (by rfl) hHeld ?_ ?_
        rotate_left
        · intro w
          go_simp
          try (with_reducible rfl)
        try simp only [Act.put, List.setIfInBounds_toArray, List.set_cons_zero, List.set_cons_succ]
        refine tl_p (i := 3) (v := ?_) rfl (by rfl) (by kernel_rfl) (by kernel_rfl) (by kernel_rfl) (fun _ _ _ h => h) (by rfl) hHeld ?_ ?_
        rotate_left
        · intro w
          go_simp
          try (with_reducible rfl)
        try simp only [Act.put, List.setIfInBounds_toArray, List.set_cons_zero, List.set_cons_succ]
        refine tl_p (i := 4) (v := ?_) rfl (by rfl) (by kernel_rfl) (by kernel_rfl) (by kernel_rfl) (fun _ _ _ h => h) (by rfl) hHeld ?_ ?_
        rotate_left
        · intro w
          go_simp
          try (with_reducible rfl)
        try simp only [Act.put, List.setIfInBounds_toArray, List.set_cons_zero, List.set_cons_succ]
        refine tl_w (i := 5) (v := ?_) rfl (by rfl) (by kernel_rfl) (by kernel_rfl) (by kernel_rfl) (by kernel_rfl) (by kernel_rfl) (fun _ _ _ h => h) (by rfl) hHeld ?_ ?_
        rotate_left
        · intro w hSw
          try dsimp only at hSw
          go_simp
          try (with_reducible rfl)
        try simp only [Act.put, List.setIfInBounds_toArray, List.set_cons_zero, List.set_cons_succ]
        refine tl_p (i := 6) (v := ?_) rfl (by rfl) (by kernel_rfl) (by kernel_rfl) (by kernel_rfl) (fun _ _ _ h => h) (by rfl) hHeld ?_ ?_
        rotate_left
        · intro w
          go_simp
          try (with_reducible rfl)
        try simp only [Act.put, List.setIfInBounds_toArray, List.set_cons_zero, List.set_cons_succ]
        refine tl_p (i := 7) (v := ?_) rfl (by rfl) (by kernel_rfl) (by kernel_rfl) (by kernel_rfl) (fun _ _ _ h => h) (by rfl) hHeld ?_ ?_
        rotate_left
        · intro w
          go_simp
          try (with_reducible rfl)
        try simp only [Act.put, List.setIfInBounds_toArray, List.set_cons_zero, List.set_cons_succ]
        refine tl_p (i := 8) (v := ?_) rfl (by rfl) (by kernel_rfl) (by kernel_rfl) (by kernel_rfl) (fun _ _ _ h => h) (by rfl) hHeld ?_ ?_
        rotate_left
        · intro w
          go_simp
          try (with_reducible rfl)
        try simp only [Act.put, List.setIfInBounds_toArray, List.set_cons_zero, List.set_cons_succ]
        refine tl_p (i := 9) (v := ?_) rfl (by rfl) (by kernel_rfl) (by kernel_rfl) (by kernel_rfl) (fun _ _ _ h => h) (by rfl) hHeld ?_ ?_
        rotate_left
        · intro w
          go_simp
          try (with_reducible rfl)
        try simp only [Act.put, List.setIfInBounds_toArray, List.set_cons_zero, List.set_cons_succ]
        refine tl_w (i := 10) (v := ?_) rfl (by rfl) (by kernel_rfl) (by kernel_rfl) (by kernel_rfl) (by kernel_rfl) (by kernel_rfl) (fun _ _ _ h => h) (by rfl) hHeld ?_ ?_
        rotate_left
        · intro w hSw
          try dsimp only at hSw
          go_simp
          try (with_reducible rfl)
        try simp only [Act.put, List.setIfInBounds_toArray, List.set_cons_zero, List.set_cons_succ]
        refine tl_p (i := 11) (v := ?_) rfl (by rfl) (by kernel_rfl) (by kernel_rfl) (by kernel_rfl) (fun _ _ _ h => h) (by rfl) hHeld ?_ ?_
        rotate_left
        · intro w
          go_simp
          try (with_reducible rfl)
        try simp only [Act.put, List.setIfInBounds_toArray, List.set_cons_zero, List.set_cons_succ]
        refine tl_p (i := 12) (v := ?_) rfl (by rfl) (by kernel_rfl) (by kernel_rfl) (by kernel_rfl) (fun _ _ _ h => h) (by rfl) hHeld ?_ ?_
        rotate_left
        · intro w
          go_simp
          try (with_reducible rfl)
        try simp only [Act.put, List.setIfInBounds_toArray, List.set_cons_zero, List.set_cons_succ]
        refine tl_do (i := 13) rfl (by kernel_rfl) (by rfl) (fun K hK => ?_)
        go_simp
        have hbox := Lib.hid (box_of hcur.out (Ef.cells ⟨7, x1, ⟨#[]⟩, ⟨#[]⟩, x4, 0, tried, zM⟩) 50)
        have hob := Lib.hid (own_below ho4.out ((Below.refl _ _).alloc (Nat.le_refl _) (.cells (Ef.cells ⟨7, x1, ⟨#[]⟩, ⟨#[]⟩, x4, 0, tried, zM⟩).toArray 50)))
        have hbb := Lib.hid (hb4.out.alloc hb4.out.size (.cells (Ef.cells ⟨7, x1, ⟨#[]⟩, ⟨#[]⟩, x4, 0, tried, zM⟩).toArray 50))
        refine hK.out _ _ (⟨cell_alloc _ hHeld.1, cell_alloc _ hHeld.2⟩) (fun hHeld1 => ?_)
        clear hK K hHeld
        have hHeld := hHeld1
        clear hHeld1
        try simp only [Act.put, List.setIfInBounds_toArray, List.set_cons_zero, List.set_cons_succ]
        refine tl_do (i := 14) rfl (by kernel_rfl) (by rfl) (fun K hK => ?_)
        refine wp_append_view _ (.tmp 19) (.tmp 32) _ rfl w.heap.size 50 i0 zEf 13 144 Try.underlying46 hi0 hz0 hz1 hz2 rfl (by decide) u5 M.length _ rfl hob.out (.slice (some ⟨wr.drew.heap.size, 0, none⟩) 1 1) 1 (Ef.cells ⟨7, x1, ⟨#[]⟩, ⟨#[]⟩, x4, 0, tried, zM⟩) rfl hbox.out (Ef.one1 _) (by omega) (by simp only [maxLen]; omega) hbb.out.size ?_
        intro v3 w3 hown hg hat
        have hup := Upd.of_grown (S := fun x => u5.ownBlock = some x) hg (fun _ h => h)
        have hne : ¬ u5.ownBlock = some b := fun e => by have := (hlt4.out b e).1; omega
        have hcN := And.intro ((hup.cell (p := ⟨b, off + k * 13 + 1, none⟩) (World.block_lt_of_cell? _ _ hHeld.1) hne).trans hHeld.1) ((hup.cell (p := ⟨b, off + k * 13 + 4, none⟩) (World.block_lt_of_cell? _ _ hHeld.2) hne).trans hHeld.2)
        have hb5 := Lib.hid (hbb.out.trans (hup.below hbb.out.size (fun b he => (hlt4.out b he).1)))
        replace hown := Lib.hid hown
        clear hg hat hup
        refine hK.out _ _ (hcN) (fun hHeld1 => ?_)
        clear hK K hHeld
        have hHeld := hHeld1
        clear hHeld1
        try simp only [Act.put, List.setIfInBounds_toArray, List.set_cons_zero, List.set_cons_succ]
        refine tl_p (i := 15) (v := ?_) rfl (by rfl) (by kernel_rfl) (by kernel_rfl) (by kernel_rfl) (fun _ _ _ h => h) (by rfl) hHeld ?_ ?_
        rotate_left
        · intro w
          go_simp
          try (with_reducible rfl)
        try simp only [Act.put, List.setIfInBounds_toArray, List.set_cons_zero, List.set_cons_succ]
        refine till_done (by kernel_rfl) ?_ _
        clear hHeld
        go_wp2_with fail
        go_roundw
        case rel => exact ⟨k + 1, by omega, by go_num, by rw [hxf.out]; exact efs_snoc hown.out, hb5.out⟩
        case measure => simp [intOf]; omega
      · have h5' : (x0 == 5) = false := beq_eq_false_iff_ne.2 h5
        replace hxn := Lib.hid (hxn.out h5)
        replace ho := Lib.hid ho
        replace hb := Lib.hid hb
        go_wp2_with fail
        go_roundw
        case rel => exact ⟨k + 1, by omega, by go_num, by rw [hxn.out]; exact ho.out, hb.out⟩
        case measure => simp [intOf]; omega
    · obtain rfl : k = L.length := by omega
      rw [List.take_length] at ho
      have q1 : ¬ (L.length : Int) < (L.length : Int) := by omega
      go_wp2_with fail
      go_ret
      exact ⟨_, rfl, ho, hb⟩
end Go.Proofs.Ytegomkgfmaclkaa
