/-
  Rows: their cells, posteref1.SameRows, posteref1.Rises, rows.Range, node.Find, each by its contract.
-/
import Derived.Test.YtegomkgfmaclkaaKy
import Derived.Test.YtegomkgfmaclkaaSl3
import Derived.Deep.LoopGhost
import Derived.IntWalk
import Derived.Deep.RegionLaw
import Derived.BigRegion
namespace Go.Proofs.Ytegomkgfmaclkaa
open Go.RowKit Go.Proofs.PosteOrd Go.Proofs.PosteMem

structure Row where
  key : ByteArray
  val : ByteArray
def Row.cells (x : Row) : List Value := [.string x.key, .string x.val]
theorem Row.len (x : Row) : x.cells.length = 2 := rfl
theorem Row.one (L : List Row) : ∀ u ∈ L.flatMap Row.cells, u.oneCell' = true := by
  intro u hu
  obtain ⟨x, _, hx⟩ := List.mem_flatMap.1 hu
  simp only [Row.cells, List.mem_cons, List.not_mem_nil, or_false] at hx
  rcases hx with rfl | rfl <;> rfl
def zRow : Value := .agg #[.string ⟨#[]⟩, .string ⟨#[]⟩]
theorem infoRow : (Try.prog.info? 31).map (fun i => (i.zero, i.size, i.bytes)) = some (some zRow, 2, 32) := by kernel_rfl
def RowsOk (L : List Row) : Prop := ∀ r ∈ L, r.key.size ≤ 140737488351232
def Rises (L : List Row) : Prop := ∀ i (h : i + 1 < L.length), cmpL L[i].key.toList L[i + 1].key.toList < 0

noncomputable def risesB (L : List Row) : Bool := @decide (Rises L) (Classical.propDecidable _)
theorem risesB_iff (L : List Row) : risesB L = true ↔ Rises L := by unfold risesB; exact @decide_eq_true_iff _ (Classical.propDecidable _)
theorem risesB_not {L : List Row} (h : ¬ Rises L) : risesB L = false := by
  cases e : risesB L with
  | true => exact absurd ((risesB_iff L).1 e) h
  | false => rfl

/-- A slice of rows that is read. -/
def VRows (w : World) (v : Value) (L : List Row) : Prop := View w 2 v L.length (L.flatMap Row.cells)
/-- A slice of rows in a row of cells of its own. -/
def ORows (w : World) (B : Nat) (v : Value) (L : List Row) : Prop := w.ownsRow B 31 2 v L.length (L.flatMap Row.cells)
theorem rows_at {w : World} {v : Value} {L : List Row} (h : VRows w v L) (hn : 0 < L.length) : ∃ b off cap, v = .slice (some ⟨b, off, none⟩) L.length cap ∧ L.length ≤ cap ∧ cap ≤ maxLen ∧ b < w.heap.size ∧
    ∀ (k : Nat) (hk : k < L.length), w.cell? ⟨b, off + k * 2, none⟩ = some (.string L[k].key) ∧ w.cell? ⟨b, off + k * 2 + 1, none⟩ = some (.string L[k].val) := by
  obtain ⟨b, off, cap, e, h1, h2, h3, h4⟩ := View.elems Row.cells Row.len h (by decide) hn
  exact ⟨b, off, cap, e, h1, h2, h3, fun k hk => ⟨h4 k hk 0 _ rfl, h4 k hk 1 _ rfl⟩⟩

theorem rows_snoc {w : World} {B : Nat} {v : Value} {M : List Row} {x : Row} (h : w.ownsRow B 31 2 v (M.length + 1) (M.flatMap Row.cells ++ x.cells)) : ORows w B v (M ++ [x]) := by
  unfold ORows
  rw [List.length_append, List.length_singleton, List.flatMap_append, List.flatMap_cons, List.flatMap_nil, List.append_nil]
  exact h
theorem rows_app {w : World} {B : Nat} {v : Value} {M N : List Row} (h : w.ownsRow B 31 2 v (M.length + N.length) (M.flatMap Row.cells ++ N.flatMap Row.cells)) : ORows w B v (M ++ N) := by
  unfold ORows
  rw [List.length_append, List.flatMap_append]
  exact h

set_option maxHeartbeats 2000000 in
theorem same_rows (w : World) (v1 v2 : Value) (L : List Row) (h1 : VRows w v1 L) (h2 : VRows w v2 L) (hm : L.length ≤ 1000000) :
    Calls Try.prog 16 #[v1, v2] w fun e w' => e = .returned (.bool true) ∧ Same w w' := by
  by_cases h0 : L.length = 0
  · obtain ⟨A1, c1, rfl, _, _⟩ := h1.cells
    obtain ⟨A2, c2, rfl, _, _⟩ := h2.cells
    rw [h0]
    go_enter Try.func16, Try.ntmps16
    go_wp2_with fail
    go_rounds 1
    go_ret
    exact ⟨rfl, Same.refl _⟩
  · obtain ⟨b1, o1, c1, rfl, l1, m1, _, f1⟩ := rows_at h1 (by omega)
    obtain ⟨b2, o2, c2, rfl, l2, m2, _, f2⟩ := rows_at h2 (by omega)
    clear h1 h2
    replace f1 := Lib.hid f1
    replace f2 := Lib.hid f2
    go_enter Try.func16, Try.ntmps16
    go_wp2_with fail
    go_loopw [5] (fun i wr => ∃ k : Nat, k ≤ L.length ∧ i = .int .i64 k ∧ Same w wr) (fun i _ => L.length - (intOf i).toNat)
    case atStart => exact ⟨0, by omega, rfl, 0, rfl⟩
    case round =>
      obtain ⟨k, hk, rfl, m, rfl⟩ := hrel
      by_cases hlt : k < L.length
      · have q1 : (k : Int) < (L.length : Int) := by omega
        obtain ⟨p0, p1⟩ := f1.out k hlt
        obtain ⟨p2, p3⟩ := f2.out k hlt
        generalize L[k] = x at p0 p1 p2 p3
        go_wp2_with fail
        go_quiet (fail)
        go_wp2_with fail
        go_roundw
        case rel => exact ⟨k + 1, by omega, by go_num, _, rfl⟩
        case measure => simp [intOf]; omega
      · go_wp2_with fail
        go_ret
        exact ⟨rfl, m, rfl⟩

set_option maxHeartbeats 4000000 in
theorem refRises_any (w : World) (v : Value) (L : List Row) (h : VRows w v L) (hm : L.length ≤ 1000000) (hok : RowsOk L) :
    Calls Try.prog 14 #[v] w fun e w' => e = .returned (.bool (risesB L)) ∧ Same w w' := by
  obtain ⟨A, cap, rfl, hc, _⟩ := h.cells
  replace hok := Lib.hid hok
  replace h := Lib.hid h
  go_enter Try.func14, Try.ntmps14
  go_wp2_with fail
  go_loopw [3] (fun i wr => ∃ k : Nat, 1 ≤ k ∧ (k ≤ L.length ∨ L.length = 0) ∧ i = .int .i64 k ∧ (∀ j (h : j + 1 < L.length), j + 1 < k → cmpL L[j].key.toList L[j + 1].key.toList < 0) ∧ Same w wr) (fun i _ => L.length + 1 - (intOf i).toNat)
  case atStart => exact ⟨1, by omega, by omega, rfl, fun j _ h => by omega, 0, rfl⟩
  case round =>
    obtain ⟨k, hk1, hk2, rfl, hall, m, rfl⟩ := hrel
    replace hall := Lib.hid hall
    by_cases hlt : k < L.length
    · have q1 : (k : Int) < (L.length : Int) := by omega
      obtain ⟨b, off, cap', e, _, _, _, f⟩ := rows_at h.out (by omega)
      injection e with e1 e2 e3
      subst e1 e3
      obtain ⟨j, hj⟩ : ∃ j, k = j + 1 := ⟨k - 1, by omega⟩
      have hjl : j < L.length := by omega
      obtain ⟨p0, _⟩ := f k hlt
      obtain ⟨p1, _⟩ := f j hjl
      have o1 := hok.out L[j] (List.getElem_mem _)
      have o2 := hok.out L[k] (List.getElem_mem _)
      have hst : (cmpL L[j].key.toList L[k].key.toList < 0) → ∀ i (h : i + 1 < L.length), i + 1 < k + 1 → cmpL L[i].key.toList L[i + 1].key.toList < 0 := fun h9 i hi hij => by
        rcases Nat.lt_or_ge i j with h8 | h8
        · exact hall.out i hi (by omega)
        · obtain rfl : i = j := by omega
          subst hj
          exact h9
      have hnr : ¬ (cmpL L[j].key.toList L[k].key.toList < 0) → ¬ Rises L := fun h9 h8 => h9 (by subst hj; exact h8 j hlt)
      replace hst := Lib.hid hst
      replace hnr := Lib.hid hnr
      have ew : IntKind.i64.wrap ((k : Int) - 1) = (j : Int) := by rw [IntWalk.i64_in _ (by omega)]; omega
      have q2 : (j : Int) < (L.length : Int) := by omega
      generalize L[j].key = s1 at *
      generalize L[k].key = s2 at *
      clear f
      generalize hcm : cmpL s1.toList s2.toList = cm at hst hnr
      replace hj := Lib.hid hj
      go_wp2_with fail
      go_region_held3 (fun (w' : World) => w'.cell? ⟨b, off + k * 2, none⟩ = some (.string s2) ∧ w'.cell? ⟨b, off + j * 2, none⟩ = some (.string s1)) (first | assumption | exact ⟨p0, p1⟩) (first | (go_at_call 57; refine (refKeys_any _ _ _ o1 o2).mono ?_; rintro e w4 ⟨rfl, m4, rfl⟩; rw [hcm]))
      clear ew
      by_cases h9 : cm < 0
      · have q3 : ¬ (0 : Int) ≤ cm := by omega
        go_wp2_with fail
        go_roundw
        case rel => exact ⟨k + 1, by omega, by omega, by go_num, hst.out h9, _, rfl⟩
        case measure => simp [intOf]; omega
      · have q3 : (0 : Int) ≤ cm := by omega
        go_wp2_with fail
        go_ret
        exact ⟨ret_bool (risesB_not (hnr.out h9)).symm, _, rfl⟩
    · go_wp2_with fail
      go_ret
      exact ⟨ret_bool ((risesB_iff L).2 fun i hi => hall.out i hi (by omega)).symm, m, rfl⟩

set_option maxRecDepth 100000 in
set_option maxHeartbeats 4000000 in
theorem range_any (w : World) (v : Value) (L : List Row) (f t : ByteArray) (h : VRows w v L) (hm : L.length ≤ 1000000) :
    Calls Try.prog 15 #[v, .string f, .string t] w fun e w' => ∃ v', e = .returned v' ∧ ORows w' w.heap.size v' (L.filter fun r => inB r.key f t) ∧ Below w.heap.size w w' := by
  obtain ⟨i0, hi0, hz0, hz1, hz2⟩ := info_parts infoRow
  obtain ⟨A, cap, rfl, hc, _⟩ := h.cells
  replace h := Lib.hid h
  go_enter Try.func15, Try.ntmps15
  go_wp2_with fail
  go_loopw [7, 12] (fun o q wr => ∃ k : Nat, k ≤ L.length ∧ q = .int .i64 k ∧ ORows wr w.heap.size o ((L.take k).filter fun r => inB r.key f t) ∧ Below w.heap.size w wr) (fun _ q _ => L.length - (intOf q).toNat)
  case atStart => exact ⟨0, by omega, rfl, World.ownsRow_nil _ _ _ _, Below.refl _ _⟩
  case round =>
    obtain ⟨k, hk, rfl, ho, hb⟩ := hrel
    by_cases hlt2 : k < L.length
    · have q1 : (k : Int) < (L.length : Int) := by omega
      obtain ⟨b, off, cap', e, _, _, hbl, fa⟩ := rows_at h.out (by omega)
      injection e with e1 e2 e3
      subst e1 e3
      obtain ⟨p0, p1⟩ := fa k hlt2
      replace p0 := (hb.cell (p := ⟨b, off + k * 2, none⟩) hbl).trans p0
      replace p1 := (hb.cell (p := ⟨b, off + k * 2 + 1, none⟩) hbl).trans p1
      clear fa
      have hxe : L.take (k + 1) = L.take k ++ [L[k]] := List.take_succ_eq_append_getElem hlt2
      generalize L[k] = x at *
      have hfl : ((L.take k).filter fun r => inB r.key f t).length ≤ k := Nat.le_trans (List.length_filter_le _ _) (by rw [List.length_take]; omega)
      have hxf : inB x.key f t = true → (L.take (k + 1)).filter (fun r => inB r.key f t) = (L.take k).filter (fun r => inB r.key f t) ++ [x] := fun h9 => by
        rw [hxe, List.filter_append, List.filter_cons_of_pos (by exact h9), List.filter_nil]
      have hxn : ¬ inB x.key f t = true → (L.take (k + 1)).filter (fun r => inB r.key f t) = (L.take k).filter (fun r => inB r.key f t) := fun h9 => by
        rw [hxe, List.filter_append, List.filter_cons_of_neg (by exact h9), List.filter_nil, List.append_nil]
      replace hxf := Lib.hid hxf
      replace hxn := Lib.hid hxn
      clear hxe
      generalize (L.take k).filter (fun r => inB r.key f t) = M at *
      generalize hg9 : inB x.key f t = g at *
      replace hg9 := Lib.hid hg9
      have hbx := Whole.new wr 31 #[.string x.key, .string x.val]
      have hob := own_below ho ((Below.refl _ _).alloc (Nat.le_refl _) (.cells #[.string x.key, .string x.val] 31))
      have hbb := hb.alloc hb.size (.cells #[.string x.key, .string x.val] 31)
      by_cases h9 : g = true
      · subst h9
        replace hxf := Lib.hid (hxf.out rfl)
        have hvx := View.boxAt (sz := 2) (wr.alloc (.cells #[.string x.key, .string x.val] 31)) x.cells 31 (wr.heap.size + 1) rfl (by simp)
        have hob2 := own_below hob ((Below.refl _ _).alloc (Nat.le_refl _) (.cells x.cells.toArray 31))
        have hbb2 := hbb.alloc hbb.size (.cells x.cells.toArray 31)
        go_wp2_with (first | (go_at_call 58; refine (in_any _ _ _ _).mono ?_; rintro e w4 ⟨rfl, rfl⟩; rw [hg9.out]) | (at_builtin; refine wpList_append_view _ rfl (.tmp 21) (.tmp 23) _ rfl w.heap.size 31 i0 zRow 2 32 Try.underlying22 hi0 hz0 hz1 hz2 rfl (by decide) _ M.length _ rfl hob2 _ 1 x.cells rfl hvx (by intro u hu; simp only [Row.cells, List.mem_cons, List.not_mem_nil, or_false] at hu; rcases hu with rfl | rfl <;> rfl) (by omega) (by simp only [maxLen]; omega) (by simp; have := hb.size; omega) ?_; intro v3 w3 hown hg hat))
        go_roundw
        case rel =>
          refine ⟨k + 1, by omega, by go_num, by rw [hxf.out]; exact rows_snoc hown, hbb2.trans ((Upd.of_grown (S := fun b => u7.ownBlock = some b) hg (fun _ h => h)).below hbb2.size (fun b he => (ho.lt b he).1))⟩
        case measure => simp [intOf]; omega
      · obtain rfl : g = false := by simpa using h9
        replace hxn := Lib.hid (hxn.out (by decide))
        go_wp2_with (go_at_call 58; refine (in_any _ _ _ _).mono ?_; rintro e w4 ⟨rfl, rfl⟩; rw [hg9.out])
        go_roundw
        case rel => exact ⟨k + 1, by omega, by go_num, by rw [hxn.out]; exact hob, hbb⟩
        case measure => simp [intOf]; omega
    · obtain rfl : k = L.length := by omega
      rw [List.take_length] at ho
      have q1 : ¬ (L.length : Int) < (L.length : Int) := by omega
      go_wp2_with fail
      go_ret
      exact ⟨_, rfl, ho, hb⟩

/-- node.Find's place. -/
structure FoundAt (L : List Row) (key : ByteArray) (i : Nat) (t : Bool) : Prop where
  le : i ≤ L.length
  lt : ∀ j (h : j < L.length), j < i → cmpL L[j].key.toList key.toList < 0
  ge : ∀ (h : i < L.length), 0 ≤ cmpL L[i].key.toList key.toList
  is : t = true ↔ ∃ h : i < L.length, cmpL L[i].key.toList key.toList = 0

set_option maxHeartbeats 4000000 in
theorem find_any (w : World) (v : Value) (L : List Row) (key : ByteArray) (i : Nat) (t : Bool) (h : VRows w v L) (hm : L.length ≤ 1000000) (hi : FoundAt L key i t) :
    Calls Try.prog 20 #[v, .string key] w fun e w' => e = .returned (.tuple #[.int .i64 i, .bool t]) ∧ Below w.heap.size w w' := by
  obtain ⟨A, cap, rfl, hc, _⟩ := h.cells
  obtain ⟨hile, hlt, hge, his⟩ := hi
  replace hlt := Lib.hid hlt
  replace hge := Lib.hid hge
  replace his := Lib.hid his
  replace h := Lib.hid h
  go_enter Try.func20, Try.ntmps20
  go_wp2_with fail
  go_loopw [11] (fun q wr => ∃ k : Nat, k ≤ i ∧ q = .int .i64 k ∧ Below w.heap.size w wr) (fun q _ => L.length - (intOf q).toNat)
  case atStart => exact ⟨0, by omega, rfl, Below.refl _ _⟩
  case round =>
    obtain ⟨k, hk, rfl, hb⟩ := hrel
    by_cases hlt2 : k < L.length
    · have q1 : (k : Int) < (L.length : Int) := by omega
      obtain ⟨b, off, cap', e, _, _, hbl, f⟩ := rows_at h.out (by omega)
      injection e with e1 e2 e3
      subst e1 e3
      obtain ⟨p0, p1⟩ := f k hlt2
      replace p0 := (hb.cell (p := ⟨b, off + k * 2, none⟩) hbl).trans p0
      replace p1 := (hb.cell (p := ⟨b, off + k * 2 + 1, none⟩) hbl).trans p1
      clear f
      have hki : k < i → cmpL L[k].key.toList key.toList < 0 := fun h9 => hlt.out k hlt2 h9
      have hke : ¬ k < i → 0 ≤ cmpL L[k].key.toList key.toList := fun h9 => by
        obtain rfl : k = i := by omega
        exact hge.out hlt2
      have hkt : ¬ k < i → (t = decide (cmpL L[k].key.toList key.toList = 0)) := fun h9 => by
        obtain rfl : k = i := by omega
        rw [Bool.eq_iff_iff, decide_eq_true_iff]
        exact his.out.trans ⟨fun ⟨_, e⟩ => e, fun e => ⟨hlt2, e⟩⟩
      generalize L[k] = x at *
      generalize hcm : cmpL x.key.toList key.toList = cm at *
      replace hcm := Lib.hid hcm
      by_cases h9 : k < i
      · have h8 := hki h9
        have q3 : ¬ (0 : Int) ≤ cm := by omega
        clear hki hke hkt
        go_wp2_with (go_at_call 61; refine (keys_any _ _ _).mono ?_; rintro e w4 ⟨rfl, rfl⟩; rw [hcm.out])
        go_roundw
        case rel => exact ⟨k + 1, by omega, by go_num, hb.alloc hb.size _⟩
        case measure => simp [intOf]; omega
      · obtain rfl : k = i := by omega
        have h8 := hke h9
        have q3 : (0 : Int) ≤ cm := by omega
        have h7 := hkt h9
        replace h7 := Lib.hid h7
        clear hki hke hkt
        go_wp2_with (go_at_call 61; refine (keys_any _ _ _).mono ?_; rintro e w4 ⟨rfl, rfl⟩; rw [hcm.out])
        go_ret2
        refine ⟨?_, hb.alloc hb.size _⟩
        rw [h7.out]
        rfl
    · obtain rfl : k = i := by omega
      have q1 : ¬ (k : Int) < (L.length : Int) := by omega
      have e9 : t = false := by
        cases t with
        | false => rfl
        | true => obtain ⟨h5, _⟩ := his.out.1 rfl; omega
      subst e9
      have e8 : L.length = k := by omega
      go_wp2_with fail
      go_ret2
      exact ⟨by first | rfl | rw [e8], hb⟩
end Go.Proofs.Ytegomkgfmaclkaa
