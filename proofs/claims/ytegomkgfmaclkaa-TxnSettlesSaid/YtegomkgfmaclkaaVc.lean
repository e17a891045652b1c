/-
  posteref14.GetRow by its contract; TxnOwn's plain facts and its walk.
-/
import Derived.Test.YtegomkgfmaclkaaVb
import Derived.Test.YtegomkgfmaclkaaTp
import Derived.Test.YtegomkgfmaclkaaBits
import Derived.Test.YtegomkgfmaclkaaOpenV
import Derived.Deep.RegionHeld3
set_option linter.unusedVariables false
set_option linter.unusedSimpArgs false
namespace Go.Proofs.Ytegomkgfmaclkaa
open Go.RowKit Go.Proofs.PosteOrd Go.Proofs.PosteMem Go.Proofs.PosteOpen

set_option maxHeartbeats 2000000 in
theorem getRow_any {w : World} {v : Value} {L : List Row} {key : ByteArray} (h : VRows w v L) (hm : L.length ≤ 1000000) (hok : RowsOk L) (hk : key.size ≤ 140737488351232) (hs : Srt L) :
    Calls Try.prog 25 #[v, .string key] w fun e w' => e = .returned (.tuple #[.string ((look L key).getD ⟨#[]⟩), .bool (look L key).isSome]) ∧ Same w w' := by
  have kF := refFind_any h hm hok hk
  obtain ⟨h1, h2⟩ := look_hit hs key
  cases ht : hit L key with
  | true =>
    have hlt : pos L key < L.length := by
      have := found_at L key
      rw [ht] at this
      exact found_lt this
    have hu := h2 hlt ht
    obtain ⟨b, off, cap', rfl, _, _, hbl, fa⟩ := rows_at h (by omega)
    obtain ⟨p0, p1⟩ := fa _ hlt
    rw [hu] at p1
    rw [ht] at kF h1
    generalize pos L key = i at *
    have q1 : (i : Int) < (L.length : Int) := by omega
    generalize look L key = r at *
    replace kF := Lib.hid kF
    clear fa h hok hs h2 hu
    replace h1 := Lib.hid h1
    go_enter Try.func25, Try.ntmps25
    go_wp2_with fail
    refine kF.out.mono ?_; rintro e w1 ⟨rfl, m1, rfl⟩
    go_wp2_with fail
    go_ret2
    exact ⟨by rw [← h1.out]; rfl, m1, rfl⟩
  | false =>
    rw [ht] at kF h1
    have h3 : look L key = none := by
      rw [← Option.isNone_iff_eq_none, ← Option.isSome_eq_false_iff]
      exact h1.symm
    obtain ⟨A, cap, rfl, hc, _⟩ := h.cells
    rw [h3]
    generalize pos L key = i at *
    replace kF := Lib.hid kF
    clear h hok hs h2 h1 h3
    go_enter Try.func25, Try.ntmps25
    go_wp2_with fail
    refine kF.out.mono ?_; rintro e w1 ⟨rfl, m1, rfl⟩
    go_wp2_with fail
    go_ret2
    exact ⟨rfl, m1, rfl⟩

def abc8 : ByteArray := ⟨#[97, 98, 99, 100, 101, 102, 103, 104]⟩
def let8 (k : Nat) : ByteArray := ⟨#[(97 + k).toUInt8]⟩
theorem abc8_one : ∀ k, k < 8 → abc8.extract k (k + 1) = let8 k := by
  intro k hk
  have : ∀ k : Fin 8, abc8.extract k.1 (k.1 + 1) = let8 k.1 := by decide
  exact this ⟨k, hk⟩
theorem let8_inj {a b : Nat} (ha : a < 8) (hb : b < 8) (h : let8 a = let8 b) : a = b := by
  have : ∀ a b : Fin 8, let8 a.1 = let8 b.1 → a = b := by decide
  exact congrArg Fin.val (this ⟨a, ha⟩ ⟨b, hb⟩ h)
def nT : ByteArray := ⟨#[116]⟩
def vOld : ByteArray := ⟨#[111, 108, 100]⟩
def vNew : ByteArray := ⟨#[110, 101, 119]⟩
def zM : Msg := ⟨0, 0, 0, false, ⟨#[]⟩, ⟨#[]⟩⟩
def ePut (k : Nat) : Ef := ⟨2, nT, let8 k, vNew, 0, 0, false, zM⟩
def eDel (k : Nat) : Ef := ⟨3, nT, let8 k, ⟨#[]⟩, 0, 0, false, zM⟩
/-- What was written last of each key, and what a transaction sees of it. -/
def Own (R : List Row) (E : List Ef) (l : List Int) : Prop := l.length = 8 ∧ Srt (E.foldl (tab1 nT) R) ∧ ∀ k, k < 8 →
  (l.getD k 0 = 0 ∧ look (E.foldl (tab1 nT) R) (let8 k) = look R (let8 k)) ∨ (l.getD k 0 = 1 ∧ look (E.foldl (tab1 nT) R) (let8 k) = some vNew) ∨ (l.getD k 0 = 2 ∧ look (E.foldl (tab1 nT) R) (let8 k) = none)
theorem Own.nil {R : List Row} (h : Srt R) : Own R [] [0, 0, 0, 0, 0, 0, 0, 0] := by
  refine ⟨rfl, h, fun k hk => .inl ⟨?_, rfl⟩⟩
  have : ∀ k : Fin 8, ([0, 0, 0, 0, 0, 0, 0, 0] : List Int).getD k.1 0 = 0 := by decide
  exact this ⟨k, hk⟩
theorem tab_snoc (R : List Row) (E : List Ef) (e : Ef) : (E ++ [e]).foldl (tab1 nT) R = tab1 nT (E.foldl (tab1 nT) R) e := by rw [List.foldl_append]; rfl
theorem getD_set {l : List Int} {K : Nat} {v : Int} (hl : K < l.length) (k : Nat) : (l.set K v).getD k 0 = if K = k then v else l.getD k 0 := by
  rw [List.getD_eq_getElem?_getD, List.getD_eq_getElem?_getD, List.getElem?_set]
  split
  · subst_vars; simp [hl]
  · rfl
theorem Own.put {R : List Row} {E : List Ef} {l : List Int} (h : Own R E l) {K : Nat} (hK : K < 8) : Own R (E ++ [ePut K]) (l.set K 1) := by
  obtain ⟨h1, h2, h3⟩ := h
  have e1 : (E ++ [ePut K]).foldl (tab1 nT) R = putS (E.foldl (tab1 nT) R) ⟨let8 K, vNew⟩ := by
    rw [tab_snoc]
    unfold tab1 ePut
    rw [if_pos rfl, if_pos rfl]
  refine ⟨by rw [List.length_set]; exact h1, by rw [e1]; exact putS_srt h2, fun k hk => ?_⟩
  rw [e1, getD_set (by omega), look_put]
  simp only
  by_cases e : K = k
  · subst e
    rw [if_pos rfl, if_pos rfl]
    exact .inr (.inl ⟨rfl, rfl⟩)
  · rw [if_neg e, if_neg (fun h => e (let8_inj hK hk h))]
    exact h3 k hk
theorem Own.del {R : List Row} {E : List Ef} {l : List Int} (h : Own R E l) {K : Nat} (hK : K < 8) : Own R (E ++ [eDel K]) ((l.set K 1).set K 2) := by
  obtain ⟨h1, h2, h3⟩ := h
  have e1 : (E ++ [eDel K]).foldl (tab1 nT) R = cutS (E.foldl (tab1 nT) R) (let8 K) := by
    rw [tab_snoc]
    unfold tab1 eDel
    rw [if_pos rfl, if_neg (show ¬ (3 : Int) = 2 by decide), if_pos rfl]
  rw [List.set_set]
  refine ⟨by rw [List.length_set]; exact h1, by rw [e1]; exact cutS_srt h2 _, fun k hk => ?_⟩
  rw [e1, getD_set (by omega), look_cut h2]
  by_cases e : K = k
  · subst e
    rw [if_pos rfl, if_pos rfl]
    exact .inr (.inr ⟨rfl, rfl⟩)
  · rw [if_neg e, if_neg (fun h => e (let8_inj hK hk h))]
    exact h3 k hk
theorem int_at {W : World} {A : Option Addr} {cap : Nat} {l : List Int} (h : View W 1 (.slice A l.length cap) l.length (l.map (.int .i64))) (k : Nat) (hk : k < l.length) :
    ∃ b off, A = some ⟨b, off, none⟩ ∧ b < W.heap.size ∧ W.cell? ⟨b, off + k, none⟩ = some (.int .i64 (l.getD k 0)) := by
  obtain ⟨lb, lo, lc, e2, _, _, hll, hlc⟩ := h.at_ (show 0 < l.length * 1 by omega)
  injection e2 with e2 e3 e4
  exact ⟨lb, lo, e2, hll, hlc k _ (by simp [hk, List.getD_eq_getElem?_getD])⟩
theorem bool_at {W : World} {A : Option Addr} {cap : Nat} {l : List Bool} (h : View W 1 (.slice A l.length cap) l.length (l.map .bool)) (k : Nat) (hk : k < l.length) :
    ∃ b off, A = some ⟨b, off, none⟩ ∧ b < W.heap.size ∧ W.cell? ⟨b, off + k, none⟩ = some (.bool (l.getD k false)) := by
  obtain ⟨lb, lo, lc, e2, _, _, hll, hlc⟩ := h.at_ (show 0 < l.length * 1 by omega)
  injection e2 with e2 e3 e4
  exact ⟨lb, lo, e2, hll, hlc k _ (by simp [hk, List.getD_eq_getElem?_getD])⟩
theorem and7 (x : Int) : ∃ m : Nat, m < 8 ∧ bits .and .i64 x 7 = (m : Int) := by
  obtain ⟨m, h1, h2, _⟩ := bits_mask_ex x 3 (by decide)
  exact ⟨m, h1, h2⟩

/-- Ints in a row of the call's own. -/
def OI (w : World) (B g n : Nat) (l : List Int) : Prop := w.ownsRow B 3 1 (.slice (some ⟨g, 0, none⟩) n n) n (l.map (.int .i64))
theorem OI.set {w : World} {B g n : Nat} {l : List Int} (h : OI w B g n l) (k : Nat) (hk : k < n) (b : Int) : OI (w.setCell ⟨g, k, none⟩ (.int .i64 b)) B g n (l.set k b) := by
  unfold OI at h ⊢
  rw [List.map_set]
  exact own_set h k (by omega) _
theorem OI.len {w : World} {B g n : Nat} {l : List Int} (h : OI w B g n l) : l.length = n := by
  have := h.1
  simpa using this
theorem OI.cell {w : World} {B g n : Nat} {l : List Int} (h : OI w B g n l) (k : Nat) (hk : k < n) : w.cell? ⟨g, k, none⟩ = some (.int .i64 (l.getD k 0)) := by
  have h1 := own_cell h k (by omega)
  have h2 : k < l.length := by rw [h.len]; exact hk
  rw [h1]
  simp [List.getD_eq_getElem?_getD, h2]

set_option maxRecDepth 100000 in
set_option maxHeartbeats 8000000 in
theorem txnOwn_core (w : World) (A1 A2 A3 : Option Addr) (c1 c2 c3 : Nat) (keys : List Int) (dels : List Bool) (there : List Int)
    (h1 : View w 1 (.slice A1 keys.length c1) keys.length (keys.map (.int .i64))) (h2 : View w 1 (.slice A2 dels.length c2) dels.length (dels.map .bool)) (h3 : View w 1 (.slice A3 there.length c3) there.length (there.map (.int .i64)))
    (g1 : keys.length ≤ 30) (g2 : keys.length ≤ dels.length) (g3 : there.length ≤ 30) :
    Calls Try.prog 6 #[.slice A1 keys.length c1, .slice A2 dels.length c2, .slice A3 there.length c3] w fun e w' => e = .returned (.bool true) ∧ Below w.heap.size w w' := by
  obtain ⟨i0, hi0, hz0, hz1, hz2⟩ := info_parts infoEf
  have r1 : ¬ (30 : Int) < (keys.length : Int) := by omega
  have r2 : ¬ (dels.length : Int) < (keys.length : Int) := by omega
  have r3 : ¬ (30 : Int) < (there.length : Int) := by omega
  replace h1 := Lib.hid h1
  replace h2 := Lib.hid h2
  replace h3 := Lib.hid h3
  go_enter Try.func6, Try.ntmps6
  go_upto_region 7 with (go_at_call 22; refine (alive23 _).mono ?_; rintro e w1 ⟨rfl, hb1⟩)
  have e1 : decide ((30 : Int) < (keys.length : Int)) = false := decide_eq_false (by omega)
  have e2 : decide (dels.length < keys.length) = false := decide_eq_false (by omega)
  have e3 : decide ((30 : Int) < (there.length : Int)) = false := decide_eq_false (by omega)
  simp only [e1, e2, e3, Bool.or_self]
  clear e1 e2 e3 r1 r2 r3
  go_loopw [9, 10] (fun a i wr => ∃ (k : Nat) (R : List Row), k ≤ there.length ∧ i = .int .i64 k ∧ VRows wr a R ∧ Srt R ∧ R.length ≤ k ∧ (∀ r ∈ R, r.key.size ≤ 1) ∧ Below w.heap.size w wr) (fun _ i _ => there.length - (intOf i).toNat)
  case atStart => exact ⟨0, [], by omega, rfl, View.nil _ _, List.Pairwise.nil, Nat.le_refl _, (fun r hr => by cases hr), hb1⟩
  case round =>
    clear hb1
    obtain ⟨k, R, hk, rfl, hv, hS, hRl, hRk, hb⟩ := hrel
    obtain ⟨A4, c4, rfl, hc4, _⟩ := hv.cells
    by_cases hlt : k < there.length
    · have q1 : (k : Int) < (there.length : Int) := by omega
      obtain ⟨ob, oo, rfl, hobl, hoc⟩ := int_at (View.below h3.out hb) k hlt
      generalize there.getD k 0 = x at *
      obtain ⟨K, hKl, hK⟩ := and7 x
      have ew : IntKind.i64.wrap ((K : Int) + 1) = ((K + 1 : Nat) : Int) := by rw [IntKind.wrap_i64]; omega
      have u1 : K + 1 ≤ 8 := by omega
      have t1 : ((K : Int) + 1).toNat = K + 1 := by omega
      have v1 : (K : Int) ≤ (K : Int) + 1 := by omega
      have s1 : (K : Int) + 1 ≤ 8 := by omega
      have hx8 := Lib.hid (abc8_one K hKl)
      have kP := fun (W : World) (hW : VRows W (.slice A4 R.length c4) R) => refPut_any (x := ⟨abc8.extract K (K + 1), vOld⟩) hW (by omega) (fun r hr => by have := hRk r hr; omega) (by rw [hx8.out]; show (1 : Nat) ≤ _; omega)
      unfold abc8 vOld at kP
      simp only at kP
      replace kP := Lib.hid kP
      replace hv := Lib.hid hv
      replace hb := Lib.hid hb
      replace hS := Lib.hid hS
      replace hRl := Lib.hid hRl
      replace hRk := Lib.hid hRk
      go_upto_region 9 with fail
      go_region_held3 (fun (w' : World) => w'.cell? ⟨ob, oo + k, none⟩ = some (.int .i64 x)) (first | assumption | exact hoc | exact (hb4.cell (p := ⟨ob, oo + k, none⟩) hobl).trans hoc) (first | (go_at_call 23; refine (kP.out wr.drew (View.drew hv.out)).mono ?_; rintro e w4 ⟨v4, rfl, ho4, hb4⟩))
      have hb5 : Below w.heap.size w w4 := (Below.drew hb.out).trans (hb4.mono hb.out.size)
      have hv5 := View.of_own ho4
      go_wp2_with fail
      go_roundw
      case rel => exact ⟨k + 1, _, by omega, by go_num, hv5, putS_srt hS.out, (by rw [putS_len]; have := hRl.out; split <;> omega), (fun r hr => by
        rcases putS_mem hr with rfl | hr
        · rw [show (⟨#[97, 98, 99, 100, 101, 102, 103, 104]⟩ : ByteArray) = abc8 from rfl, hx8.out]; exact Nat.le_refl 1
        · exact hRk.out r hr), hb5⟩
      case measure => simp [intOf]; omega
    · have hlt' : k = there.length := by omega
      subst hlt'
      have q1 : ¬ (there.length : Int) < (there.length : Int) := by omega
      replace hv := Lib.hid hv
      replace hb := Lib.hid hb
      replace hS := Lib.hid hS
      replace hRl := Lib.hid hRl
      replace hRk := Lib.hid hRk
      go_upto_region 12 with fail
      have hb0 := (hb.out.alloc hb.out.size (.cells #[.string ⟨#[116]⟩, .int .i64 1, .int .i64 0, .slice A4 R.length c4, .slice none 0 0, .slice none 0 0] 42))
      have hb1 := Lib.hid (hb0.alloc hb0.size (.cells #[.int .i64 1, .slice (some ⟨wr.heap.size, 0, none⟩) 1 1] 45))
      have hO : VObs ((wr.alloc (.cells #[.string ⟨#[116]⟩, .int .i64 1, .int .i64 0, .slice A4 R.length c4, .slice none 0 0, .slice none 0 0] 42)).alloc (.cells #[.int .i64 1, .slice (some ⟨wr.heap.size, 0, none⟩) 1 1] 45)) (.slice (some ⟨wr.heap.size, 0, none⟩) 1 1) [⟨nT, 1, 0, R, [], [], .slice A4 R.length c4, .slice none 0 0, .slice none 0 0⟩] := by
        refine ⟨View.alloc (View.boxAt (sz := 6) wr (Ob.cells ⟨nT, 1, 0, R, [], [], .slice A4 R.length c4, .slice none 0 0, .slice none 0 0⟩) 42 _ rfl rfl) _, fun o ho => ?_⟩
        obtain rfl := List.mem_singleton.1 ho
        exact ⟨View.alloc (View.alloc hv.out _) _, View.nil _ _, View.nil _ _⟩
      have hW := Whole.new (wr.alloc (.cells #[.string ⟨#[116]⟩, .int .i64 1, .int .i64 0, .slice A4 R.length c4, .slice none 0 0, .slice none 0 0] 42)) 45 #[.int .i64 1, .slice (some ⟨wr.heap.size, 0, none⟩) 1 1]
      rw [show (wr.alloc (.cells #[.string ⟨#[116]⟩, .int .i64 1, .int .i64 0, .slice A4 R.length c4, .slice none 0 0, .slice none 0 0] 42)).heap.size = wr.heap.size + 1 by simp] at hW
      have hvR : VRows ((wr.alloc (.cells #[.string ⟨#[116]⟩, .int .i64 1, .int .i64 0, .slice A4 R.length c4, .slice none 0 0, .slice none 0 0] 42)).alloc (.cells #[.int .i64 1, .slice (some ⟨wr.heap.size, 0, none⟩) 1 1] 45)) (.slice A4 R.length c4) R := View.alloc (View.alloc hv.out _) _
      replace hO := Lib.hid hO
      replace hW := Lib.hid hW
      replace hvR := Lib.hid hvR
      clear hb0 hb hv q1 hlt hk
      generalize (wr.alloc (.cells #[.string ⟨#[116]⟩, .int .i64 1, .int .i64 0, .slice A4 R.length c4, .slice none 0 0, .slice none 0 0] 42)).alloc (.cells #[.int .i64 1, .slice (some ⟨wr.heap.size, 0, none⟩) 1 1] 45) = w0 at *
      generalize wr.heap.size = p at *
      have hO2 : OI (w0.alloc (.cells #[.int .i64 0, .int .i64 0, .int .i64 0, .int .i64 0, .int .i64 0, .int .i64 0, .int .i64 0, .int .i64 0] 3)) w0.heap.size w0.heap.size 8 [0, 0, 0, 0, 0, 0, 0, 0] := own_lit (xs := [0, 0, 0, 0, 0, 0, 0, 0].map (.int .i64)) rfl (Nat.le_refl _) rfl (by decide)
      have hw0 : Below w0.heap.size w0 (w0.alloc (.cells #[.int .i64 0, .int .i64 0, .int .i64 0, .int .i64 0, .int .i64 0, .int .i64 0, .int .i64 0, .int .i64 0] 3)) := (Below.refl _ _).alloc (Nat.le_refl _) _
      have hOn := Own.nil hS.out
      replace hO2 := Lib.hid hO2
      replace hw0 := Lib.hid hw0
      replace hOn := Lib.hid hOn
      go_upto_region 14 with fail
      have hgl := hb1.out.size
      generalize hgg : w0.heap.size = g at *
      go_loopw [12, 14] (fun a i wx => ∃ (k : Nat) (E : List Ef) (l : List Int), k ≤ keys.length ∧ i = .int .i64 k ∧ E.length = k ∧ Own R E l ∧ OI wx g g 8 l ∧ OEfs wx (g + 1) a E ∧ Below g w0 wx) (fun _ i _ => keys.length - (intOf i).toNat)
      case atStart => exact ⟨0, [], _, by omega, rfl, rfl, hOn.out, hO2.out, World.ownsRow_nil _ _ _ _, hw0.out⟩
      case round =>
        clear hO2 hOn hw0
        obtain ⟨k, E, l, hk, rfl, hE, hOw, hl, ho, hb⟩ := hrel
        have hE' := Lib.hid hE
        clear hE
        by_cases hlt : k < keys.length
        · have q1 : (k : Int) < (keys.length : Int) := by omega
          have q2 : (k : Int) < (dels.length : Int) := by omega
          have hbw : Below w.heap.size w wr := hb1.out.trans (hb.mono hgl)
          obtain ⟨ob, oo, rfl, hobl, hoc⟩ := int_at (View.below h1.out hbw) k hlt
          obtain ⟨od, oe, rfl, hodl, hod0⟩ := bool_at h2.out k (by omega)
          have hod := (hbw.cell (p := ⟨od, oe + k, none⟩) hodl).trans hod0
          generalize keys.getD k 0 = x at *
          generalize dels.getD k false = d at *
          obtain ⟨K, hKl, hK⟩ := and7 x
          have ew : IntKind.i64.wrap ((K : Int) + 1) = ((K + 1 : Nat) : Int) := by rw [IntKind.wrap_i64]; omega
          have u1 : K + 1 ≤ 8 := by omega
          have t1 : ((K : Int) + 1).toNat = K + 1 := by omega
          have v1 : (K : Int) ≤ (K : Int) + 1 := by omega
          have s1 : (K : Int) + 1 ≤ 8 := by omega
          have hx8 := Lib.hid (abc8_one K hKl)
          have d0 := hl.cell K hKl
          have f0 := own_free hl K
          have hgx : g < wr.heap.size := (own_block hl).2
          have hgx2 : ¬ (g = wr.heap.size) := by omega
          have hx9 : (⟨#[97, 98, 99, 100, 101, 102, 103, 104]⟩ : ByteArray).extract K (K + 1) = let8 K := abc8_one K hKl
          replace hx9 := Lib.hid hx9
          have hl1 : OI (wr.setCell ⟨g, K, none⟩ (.int .i64 1)) g g 8 (l.set K 1) := hl.set K hKl 1
          have hup : Upd (fun b => b = g) wr (wr.setCell ⟨g, K, none⟩ (.int .i64 1)) := (Upd.refl (fun b => b = g) wr).setCell (p := ⟨g, K, none⟩) (.inr rfl) (.int .i64 1)
          have ho1 : OEfs (wr.setCell ⟨g, K, none⟩ (.int .i64 1)) (g + 1) u12 E := own_upd ho hup (fun b hb2 e => by have := (own_lt ho hb2).1; omega)
          have hb3 := hb.setCell (p := ⟨g, K, none⟩) (Nat.le_refl g) (.int .i64 1)
          have hbw1 := hbw.setCell (p := ⟨g, K, none⟩) hgl (.int .i64 1)
          replace hl1 := Lib.hid hl1
          replace ho1 := Lib.hid ho1
          replace hb3 := Lib.hid hb3
          replace hbw1 := Lib.hid hbw1
          replace hOw := Lib.hid hOw
          clear hup hbw hl ho hb
          go_upto_region 19 with fail
          rw [hx9.out]
          clear hoc hod d0 f0
          rw [show wr.heap.size = (wr.setCell ⟨g, K, none⟩ (.int .i64 1)).heap.size by simp]
          clear hgx hgx2
          generalize wr.setCell ⟨g, K, none⟩ (.int .i64 1) = W1 at *
          have hodl2 : od < W1.heap.size := Nat.lt_of_lt_of_le hodl hbw1.out.size
          have hod := (hbw1.out.cell (p := ⟨od, oe + k, none⟩) hodl).trans hod0
          have d0 := hl1.out.cell K hKl
          have f0 := own_free hl1.out K
          have hgx : g < W1.heap.size := (own_block hl1.out).2
          have hgx2 : ¬ (g = W1.heap.size) := by omega
          cases d with
          | true =>
            have hl2 : OI (W1.setCell ⟨g, K, none⟩ (.int .i64 2)) g g 8 ((l.set K 1).set K 2) := hl1.out.set K hKl 2
            have hup : Upd (fun b => b = g) W1 (W1.setCell ⟨g, K, none⟩ (.int .i64 2)) := (Upd.refl (fun b => b = g) W1).setCell (p := ⟨g, K, none⟩) (.inr rfl) (.int .i64 2)
            have ho2 : OEfs (W1.setCell ⟨g, K, none⟩ (.int .i64 2)) (g + 1) u12 E := own_upd ho1.out hup (fun b hb2 e => by have := (own_lt ho1.out hb2).1; omega)
            have hb2 := hb3.out.setCell (p := ⟨g, K, none⟩) (Nat.le_refl g) (.int .i64 2)
            have hOw2 := hOw.out.del hKl
            replace hl2 := Lib.hid hl2
            replace ho2 := Lib.hid ho2
            replace hb2 := Lib.hid hb2
            replace hOw2 := Lib.hid hOw2
            clear hup
            go_upto_region 22 with fail
            rw [hx9.out]
            clear hod d0 f0 hl1 ho1 hb3 hgx hgx2
            rw [show W1.heap.size = (W1.setCell ⟨g, K, none⟩ (.int .i64 2)).heap.size by simp]
            generalize W1.setCell ⟨g, K, none⟩ (.int .i64 2) = W2 at *
            replace hl2 := hl2.out
            replace ho2 := ho2.out
            replace hb2 := hb2.out
            have hal : Below W2.heap.size W2 (W2.alloc (.cells (eDel K).cells.toArray 50)) := (Below.refl _ _).alloc (Nat.le_refl _) _
            have hal2 : Below W2.heap.size W2 ((W2.alloc (.cells (eDel K).cells.toArray 50)).alloc (.cells (eDel K).cells.toArray 50)) := hal.alloc hal.size _
            have hvx := View.boxAt (sz := 13) (W2.alloc (.cells (eDel K).cells.toArray 50)) (eDel K).cells 50 (W2.heap.size + 1) rfl (by simp)
            have hobB : OEfs ((W2.alloc (.cells (eDel K).cells.toArray 50)).alloc (.cells (eDel K).cells.toArray 50)) (g + 1) u12 E := own_below ho2 hal2
            have hlB : OI ((W2.alloc (.cells (eDel K).cells.toArray 50)).alloc (.cells (eDel K).cells.toArray 50)) g g 8 _ := own_below hl2 hal2
            have hgs2 : g ≤ W2.heap.size := by have h9 := hb2.size; omega
            have hbB := Lib.hid (hb2.trans (hal2.mono hgs2))
            have hgs : g + 1 ≤ W2.heap.size := (own_block hl2).2
            replace hlB := Lib.hid hlB
            replace hvx := Lib.hid hvx
            have hlt3 := Lib.hid hobB.lt
            replace hobB := Lib.hid hobB
            have hEl : E.length ≤ 30 := by have := hE'.out; omega
            clear hl2 ho2 hb2 hal hal2
            go_wp2_with (at_builtin; refine wpList_append_view _ rfl (.tmp 103) (.tmp 105) _ rfl (g + 1) 50 i0 zEf 13 144 Try.underlying46 hi0 hz0 hz1 hz2 rfl (by decide) _ E.length _ rfl hobB.out _ 1 (eDel K).cells rfl hvx.out (Ef.one1 _) (by omega) (by simp only [maxLen]; omega) (by simp; omega) ?_; intro v3 w3 hown hg hat)
            have hup3 := Upd.of_grown (S := fun b => u12.ownBlock = some b) hg (fun _ h => h)
            have hl3 : OI w3 g g 8 _ := own_upd hlB.out hup3 (fun b hb4 e => by
              have h7 : g = b := Option.some.inj hb4
              have h8 := (hlt3.out b e).1
              omega)
            have hb3 := hbB.out.trans (hup3.below (by have h9 := hbB.out.size; rw [hgg] at h9; exact h9) (fun b e => by have h8 := (hlt3.out b e).1; omega))
            go_roundw
            case rel => exact ⟨k + 1, _, _, by omega, by go_num, by rw [List.length_append, hE'.out]; rfl, hOw2.out, hl3, efs_snoc hown, hb3⟩
            case measure => simp [intOf]; omega
          | false =>
            have hOw2 := Lib.hid (hOw.out.put hKl)
            go_upto_region 22 with fail
            clear hod d0 f0 hgx hgx2
            have hl2 := hl1
            have ho2 := ho1
            have hb2 := hb3
            clear hl1 ho1 hb3
            generalize W1 = W2 at *
            replace hl2 := hl2.out
            replace ho2 := ho2.out
            replace hb2 := hb2.out
            have hal : Below W2.heap.size W2 (W2.alloc (.cells (ePut K).cells.toArray 50)) := (Below.refl _ _).alloc (Nat.le_refl _) _
            have hal2 : Below W2.heap.size W2 ((W2.alloc (.cells (ePut K).cells.toArray 50)).alloc (.cells (ePut K).cells.toArray 50)) := hal.alloc hal.size _
            have hvx := View.boxAt (sz := 13) (W2.alloc (.cells (ePut K).cells.toArray 50)) (ePut K).cells 50 (W2.heap.size + 1) rfl (by simp)
            have hobB : OEfs ((W2.alloc (.cells (ePut K).cells.toArray 50)).alloc (.cells (ePut K).cells.toArray 50)) (g + 1) u12 E := own_below ho2 hal2
            have hlB : OI ((W2.alloc (.cells (ePut K).cells.toArray 50)).alloc (.cells (ePut K).cells.toArray 50)) g g 8 _ := own_below hl2 hal2
            have hgs2 : g ≤ W2.heap.size := by have h9 := hb2.size; omega
            have hbB := Lib.hid (hb2.trans (hal2.mono hgs2))
            have hgs : g + 1 ≤ W2.heap.size := (own_block hl2).2
            replace hlB := Lib.hid hlB
            replace hvx := Lib.hid hvx
            have hlt3 := Lib.hid hobB.lt
            replace hobB := Lib.hid hobB
            have hEl : E.length ≤ 30 := by have := hE'.out; omega
            clear hl2 ho2 hb2 hal hal2
            go_wp2_with (at_builtin; refine wpList_append_view _ rfl (.tmp 103) (.tmp 105) _ rfl (g + 1) 50 i0 zEf 13 144 Try.underlying46 hi0 hz0 hz1 hz2 rfl (by decide) _ E.length _ rfl hobB.out _ 1 (ePut K).cells rfl hvx.out (Ef.one1 _) (by omega) (by simp only [maxLen]; omega) (by simp; omega) ?_; intro v3 w3 hown hg hat)
            have hup3 := Upd.of_grown (S := fun b => u12.ownBlock = some b) hg (fun _ h => h)
            have hl3 : OI w3 g g 8 _ := own_upd hlB.out hup3 (fun b hb4 e => by
              have h7 : g = b := Option.some.inj hb4
              have h8 := (hlt3.out b e).1
              omega)
            have hb3 := hbB.out.trans (hup3.below (by have h9 := hbB.out.size; rw [hgg] at h9; exact h9) (fun b e => by have h8 := (hlt3.out b e).1; omega))
            go_roundw
            case rel => exact ⟨k + 1, _, _, by omega, by go_num, by rw [List.length_append, hE'.out]; rfl, hOw2.out, hl3, efs_snoc hown, hb3⟩
            case measure => simp [intOf]; omega
        · have hlt' : k = keys.length := by omega
          subst hlt'
          have q1 : ¬ (keys.length : Int) < (keys.length : Int) := by omega
          obtain ⟨A5, c5, rfl, _, _, _⟩ := own_shape ho
          have hgg' := Lib.hid hgg
          have hbz : Below w0.heap.size w0 wr := by rw [hgg]; exact hb
          have hO3 := Lib.hid (hO.out.below hbz)
          have hvR3 := Lib.hid (View.below hvR.out hbz)
          have hW3 := Lib.hid (hW.out.below hbz)
          have hE3 := Lib.hid (OEfs.view ho)
          have hl3 := Lib.hid hl
          have hB3 := Lib.hid (hb1.out.trans (hb.mono hgl))
          have hOw3 := Lib.hid hOw
          have hEl : E.length ≤ 30 := by have := hE'.out; omega
          have hbase : baseR [⟨nT, 1, 0, R, [], [], .slice A4 R.length c4, .slice none 0 0, .slice none 0 0⟩] nT = R := by unfold baseR isO; simp
          have hSb : Srt (baseR [⟨nT, 1, 0, R, [], [], .slice A4 R.length c4, .slice none 0 0, .slice none 0 0⟩] nT) := by rw [hbase]; exact hS.out
          have hRs : ∀ o ∈ [(⟨nT, 1, 0, R, [], [], .slice A4 R.length c4, .slice none 0 0, .slice none 0 0⟩ : Ob)], o.rows.length ≤ 400000 := fun o ho => by
            obtain rfl := List.mem_singleton.1 ho
            have := hRl.out
            show R.length ≤ _
            omega
          have kG : ∀ (W : World) (key : ByteArray), Below wr.heap.size wr W → Calls Try.prog 24 #[.agg #[.int .i64 1, .slice (some ⟨p, 0, none⟩) 1 1], .slice A5 E.length c5, .string ⟨#[116]⟩, .string key] W fun e w' => e = .returned (.tuple #[.string ((look (E.foldl (tab1 nT) R) key).getD ⟨#[]⟩), .bool (look (E.foldl (tab1 nT) R) key).isSome]) ∧ Below W.heap.size W w' := fun W key hW => by
            have := tget1_any W 1 _ _ _ E nT key (hO3.out.below hW) (View.below hE3.out hW) (by simp) hRs (by omega) hSb
            unfold tab at this
            rw [hbase] at this
            exact this
          have kR : ∀ (W : World) (key : ByteArray), key.size ≤ 140737488351232 → Below wr.heap.size wr W → Calls Try.prog 25 #[.slice A4 R.length c4, .string key] W fun e w' => e = .returned (.tuple #[.string ((look R key).getD ⟨#[]⟩), .bool (look R key).isSome]) ∧ Same W w' := fun W key hk hW => getRow_any (View.below hvR3.out hW) (by have := hRl.out; omega) (fun r hr => by have := hRk.out r hr; omega) hk hS.out
          replace kG := Lib.hid kG
          replace kR := Lib.hid kR
          have hlt4 := hW3.out.lt
          have hgl4 := (own_block hl3.out).2
          have hBz := Lib.hid (Below.refl wr.heap.size wr)
          clear hO hvR hW hE' hOw hl ho hb hbz hbase hSb hRs
          obtain ⟨wz, hwz⟩ : ∃ x, x = wr := ⟨wr, rfl⟩
          subst hwz
          go_upto_region 24 with fail
          go_loopw [17] (fun i wy => ∃ k : Nat, k ≤ 8 ∧ i = .int .i64 k ∧ Below wz.heap.size wz wy) (fun i _ => 8 - (intOf i).toNat)
          case atStart => exact ⟨0, by omega, rfl, hBz.out⟩
          case round =>
            obtain ⟨K, hK8, rfl, hy⟩ := hrel
            by_cases hKl : K < 8
            · have qK : (K : Int) < 8 := by omega
              have ew : IntKind.i64.wrap ((K : Int) + 1) = ((K + 1 : Nat) : Int) := by rw [IntKind.wrap_i64]; omega
              have u1 : K + 1 ≤ 8 := by omega
              have t1 : ((K : Int) + 1).toNat = K + 1 := by omega
              have v1 : (K : Int) ≤ (K : Int) + 1 := by omega
              have s1 : (K : Int) + 1 ≤ 8 := by omega
              have hx8 := Lib.hid (abc8_one K hKl)
              have hx9 : (⟨#[97, 98, 99, 100, 101, 102, 103, 104]⟩ : ByteArray).extract K (K + 1) = let8 K := abc8_one K hKl
              have e0 := (hy.cell (p := ⟨p + 1, 0, none⟩) hlt4).trans (hW3.out.cell 0)
              have e1 := (hy.cell (p := ⟨p + 1, 1, none⟩) hlt4).trans (hW3.out.cell 1)
              have e2 := (hy.cell (p := ⟨g, K, none⟩) hgl4).trans (hl3.out.cell K hKl)
              have hly : p + 1 < wr.heap.size := Nat.lt_of_lt_of_le hlt4 hy.size
              have hlg : g < wr.heap.size := Nat.lt_of_lt_of_le hgl4 hy.size
              have kG1 := kG.out wr.drew (let8 K) (Below.drew hy)
              have kR1 := fun (W : World) (hW : Below wz.heap.size wz W) => kR.out W (let8 K) (by show (1 : Nat) ≤ _; omega) hW
              rw [← hx9] at kG1 kR1
              rw [hx9] at kG1 kR1
              obtain hc | hc | hc := hOw3.out.2.2 K hKl
              · obtain ⟨hc1, hc2⟩ := hc
                rw [hc1] at e2
                rw [hc2] at kG1
                generalize (look R (let8 K)).getD ⟨#[]⟩ = sv at *
                generalize (look R (let8 K)).isSome = sb at *
                replace kG1 := Lib.hid kG1
                replace kR1 := Lib.hid kR1
                replace hy := Lib.hid hy
                clear hc1 hc2 hx8
                replace hx9 := Lib.hid hx9
                go_upto_region 26 with fail
                go_region_held3 (fun (w' : World) => w'.cell? ⟨p + 1, 0, none⟩ = some (.int .i64 1) ∧ w'.cell? ⟨p + 1, 1, none⟩ = some (.slice (some ⟨p, 0, none⟩) 1 1)) (first | assumption | exact ⟨e0, e1⟩ | exact ⟨(hb4.cell (p := ⟨p + 1, 0, none⟩) hly).trans e0, (hb4.cell (p := ⟨p + 1, 1, none⟩) hly).trans e1⟩) (first | (go_at_call 24; rw [hx9.out]; refine kG1.out.mono ?_; rintro e w4 ⟨rfl, hb4⟩))
                have hy4 : Below wz.heap.size wz w4 := (Below.drew hy.out).trans (hb4.mono (by have := hy.out.size; exact this))
                have e3 := (hb4.cell (p := ⟨g, K, none⟩) hlg).trans e2
                have kR2 := Lib.hid (kR1.out w4 hy4)
                replace hy4 := Lib.hid hy4
                clear kG1 kR1 hb4 e2
                go_upto_region 27 with fail
                go_wp2_with (go_at_call 25; rw [hx9.out]; refine kR2.out.mono ?_; rintro e w5 ⟨rfl, m5, rfl⟩)
                go_roundw
                case rel => exact ⟨K + 1, by omega, by go_num, below_dn m5 hy4.out⟩
                case measure => simp [intOf]; omega
              · obtain ⟨hc1, hc2⟩ := hc
                rw [hc1] at e2
                rw [hc2] at kG1
                generalize (look R (let8 K)).getD ⟨#[]⟩ = sv at *
                generalize (look R (let8 K)).isSome = sb at *
                simp only [Option.getD_some, Option.isSome_some] at kG1
                unfold vNew at kG1
                replace kG1 := Lib.hid kG1
                replace kR1 := Lib.hid kR1
                replace hy := Lib.hid hy
                clear hc1 hc2 hx8
                replace hx9 := Lib.hid hx9
                go_upto_region 26 with fail
                go_region_held3 (fun (w' : World) => w'.cell? ⟨p + 1, 0, none⟩ = some (.int .i64 1) ∧ w'.cell? ⟨p + 1, 1, none⟩ = some (.slice (some ⟨p, 0, none⟩) 1 1)) (first | assumption | exact ⟨e0, e1⟩ | exact ⟨(hb4.cell (p := ⟨p + 1, 0, none⟩) hly).trans e0, (hb4.cell (p := ⟨p + 1, 1, none⟩) hly).trans e1⟩) (first | (go_at_call 24; rw [hx9.out]; refine kG1.out.mono ?_; rintro e w4 ⟨rfl, hb4⟩))
                have hy4 : Below wz.heap.size wz w4 := (Below.drew hy.out).trans (hb4.mono (by have := hy.out.size; exact this))
                have e3 := (hb4.cell (p := ⟨g, K, none⟩) hlg).trans e2
                have kR2 := Lib.hid (kR1.out w4 hy4)
                replace hy4 := Lib.hid hy4
                clear kG1 kR1 hb4 e2
                go_upto_region 27 with fail
                go_wp2_with (go_at_call 25; rw [hx9.out]; refine kR2.out.mono ?_; rintro e w5 ⟨rfl, m5, rfl⟩)
                go_roundw
                case rel => exact ⟨K + 1, by omega, by go_num, below_dn m5 hy4.out⟩
                case measure => simp [intOf]; omega
              · obtain ⟨hc1, hc2⟩ := hc
                rw [hc1] at e2
                rw [hc2] at kG1
                generalize (look R (let8 K)).getD ⟨#[]⟩ = sv at *
                generalize (look R (let8 K)).isSome = sb at *
                simp only [Option.getD_none, Option.isSome_none] at kG1
                replace kG1 := Lib.hid kG1
                replace kR1 := Lib.hid kR1
                replace hy := Lib.hid hy
                clear hc1 hc2 hx8
                replace hx9 := Lib.hid hx9
                go_upto_region 26 with fail
                go_region_held3 (fun (w' : World) => w'.cell? ⟨p + 1, 0, none⟩ = some (.int .i64 1) ∧ w'.cell? ⟨p + 1, 1, none⟩ = some (.slice (some ⟨p, 0, none⟩) 1 1)) (first | assumption | exact ⟨e0, e1⟩ | exact ⟨(hb4.cell (p := ⟨p + 1, 0, none⟩) hly).trans e0, (hb4.cell (p := ⟨p + 1, 1, none⟩) hly).trans e1⟩) (first | (go_at_call 24; rw [hx9.out]; refine kG1.out.mono ?_; rintro e w4 ⟨rfl, hb4⟩))
                have hy4 : Below wz.heap.size wz w4 := (Below.drew hy.out).trans (hb4.mono (by have := hy.out.size; exact this))
                have e3 := (hb4.cell (p := ⟨g, K, none⟩) hlg).trans e2
                have kR2 := Lib.hid (kR1.out w4 hy4)
                replace hy4 := Lib.hid hy4
                clear kG1 kR1 hb4 e2
                go_upto_region 27 with fail
                go_wp2_with (go_at_call 25; rw [hx9.out]; refine kR2.out.mono ?_; rintro e w5 ⟨rfl, m5, rfl⟩)
                go_roundw
                case rel => exact ⟨K + 1, by omega, by go_num, below_dn m5 hy4.out⟩
                case measure => simp [intOf]; omega
            · have hK' : K = 8 := by omega
              subst hK'
              have hBe := hB3.out.trans (hy.mono hB3.out.size)
              go_wp2_with fail
              go_ret
              exact ⟨rfl, hBe⟩
theorem int_enc7 (l : List Int) : l.flatMap (Kd.enc (.int .i64)) = l.map (.int .i64) := by
  induction l with
  | nil => rfl
  | cons a l ih => rw [List.flatMap_cons, ih]; rfl
theorem bool_enc7 (l : List Bool) : l.flatMap (Kd.enc .bool) = l.map .bool := by
  induction l with
  | nil => rfl
  | cons a l ih => rw [List.flatMap_cons, ih]; rfl
set_option maxRecDepth 100000 in
set_option maxHeartbeats 4000000 in
theorem txnOwn_walk (W : World) (A1 : Option Addr) (n1 c1 : Nat) (x1 : (Kd.sl 3 (.int .i64)).T) (z1 : Rd Try.prog W (.sl 3 (.int .i64)) [.slice A1 n1 c1] x1) (A2 : Option Addr) (n2 c2 : Nat) (x2 : (Kd.sl 4 .bool).T) (z2 : Rd Try.prog W (.sl 4 .bool) [.slice A2 n2 c2] x2)
    (A3 : Option Addr) (n3 c3 : Nat) (x3 : (Kd.sl 3 (.int .i64)).T) (z3 : Rd Try.prog W (.sl 3 (.int .i64)) [.slice A3 n3 c3] x3) :
    Calls Try.prog 6 #[.slice A1 n1 c1, .slice A2 n2 c2, .slice A3 n3 c3] W fun e w' => e = .returned (.bool true) ∧ Below W.heap.size W w' := by
  have hv1 := rd_view_flat rfl z1
  have hv2 := rd_view_flat rfl z2
  have hv3 := rd_view_flat rfl z3
  obtain ⟨A', c', e, _, _⟩ := View.cells hv1
  injection e with e1 e2 e3
  subst e1 e2 e3
  obtain ⟨A', c', e, _, _⟩ := View.cells hv2
  injection e with e1 e2 e3
  subst e1 e2 e3
  obtain ⟨A', c', e, _, _⟩ := View.cells hv3
  injection e with e1 e2 e3
  subst e1 e2 e3
  rw [int_enc7 x1] at hv1
  rw [bool_enc7 x2] at hv2
  rw [int_enc7 x3] at hv3
  by_cases g1 : x1.length ≤ 30
  · by_cases g2 : x1.length ≤ x2.length
    · by_cases g3 : x3.length ≤ 30
      · exact txnOwn_core W A1 A2 A3 c1 c2 c3 x1 x2 x3 hv1 hv2 hv3 g1 g2 g3
      · clear hv1 hv2 hv3 z1 z2 z3
        have r1 : ¬ (30 : Int) < (x1.length : Int) := by omega
        have r2 : ¬ (x2.length : Int) < (x1.length : Int) := by omega
        have r3 : (30 : Int) < (x3.length : Int) := by omega
        go_enter Try.func6, Try.ntmps6
        go_wp2_with fail
        refine (alive23 _).mono ?_; rintro e w1 ⟨rfl, hb1⟩
        go_wp2
        go_ret
        exact ⟨rfl, hb1⟩
    · clear hv1 hv2 hv3 z1 z2 z3
      have r1 : ¬ (30 : Int) < (x1.length : Int) := by omega
      have r2 : (x2.length : Int) < (x1.length : Int) := by omega
      go_enter Try.func6, Try.ntmps6
      go_wp2_with fail
      refine (alive23 _).mono ?_; rintro e w1 ⟨rfl, hb1⟩
      go_wp2
      go_ret
      exact ⟨rfl, hb1⟩
  · clear hv1 hv2 hv3 z1 z2 z3
    have r1 : (30 : Int) < (x1.length : Int) := by omega
    go_enter Try.func6, Try.ntmps6
    go_wp2_with fail
    refine (alive23 _).mono ?_; rintro e w1 ⟨rfl, hb1⟩
    go_wp2
    go_ret
    exact ⟨rfl, hb1⟩
end Go.Proofs.Ytegomkgfmaclkaa
