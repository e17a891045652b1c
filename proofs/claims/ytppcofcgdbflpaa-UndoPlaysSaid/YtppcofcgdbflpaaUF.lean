import Derived.Test.YtppcofcgdbflpaaUE
import Derived.Test.YtppcofcgdbflpaaBits
import Derived.Deep.LoopGhost
import Derived.IntWalk
namespace Go.Proofs.Ytppcofcgdbflpaa
open Go.RowKit Go.Proofs.PosteMem

/-- The changes that the law adds. -/
def nexts (cnt : Nat) : List Eff := (List.range cnt).map fun (q : Nat) => fnext q
theorem nexts_len (cnt : Nat) : (nexts cnt).length = cnt := by simp [nexts]
theorem nexts_succ (cnt : Nat) : nexts (cnt + 1) = nexts cnt ++ [fnext cnt] := by simp [nexts, List.range_succ]

/-- What holds of the object and of the list 'at'. -/
def PtsRel (w0 wr : World) (p : Nat) (av : Value) (pts ats : List Nat) (cnt : Nat) : Prop :=
  ∃ lv pv, IsWork 36 wr w0.heap.size p lv pv (nexts cnt) pts ∧ wr.ownsRow w0.heap.size 3 1 av ats.length (Pt ats) ∧ (∀ b, av.ownBlock = some b → ¬ Foot p lv pv b) ∧ Below w0.heap.size w0 wr

theorem pts_step {w0 wr w1 : World} {p : Nat} {av lv pv lv' pv' : Value} {pts pts' ats : List Nat} {cnt cnt' : Nat} (h : IsWork 36 wr w0.heap.size p lv pv (nexts cnt) pts) (ho : wr.ownsRow w0.heap.size 3 1 av ats.length (Pt ats)) (hd : ∀ b, av.ownBlock = some b → ¬ Foot p lv pv b) (hb : Below w0.heap.size w0 wr)
    (h1 : IsWork 36 w1 w0.heap.size p lv' pv' (nexts cnt') pts') (hf : ∀ b, Foot p lv' pv' b → Foot p lv pv b ∨ wr.heap.size ≤ b) (hu : Upd (Foot p lv pv) wr w1) : PtsRel w0 w1 p av pts' ats cnt' :=
  ⟨lv', pv', h1, own_upd ho hu hd, fun b hb' hf' => by
    rcases hf b hf' with h2 | h2
    · exact hd b hb' h2
    · have := (ho.lt b hb').2; omega, hb.trans (work_below h hu)⟩

theorem pts_at {w0 wr w1 : World} {p : Nat} {av av' : Value} {pts ats ats' : List Nat} {cnt : Nat} {o : Obj} (h : PtsRel w0 wr p av pts ats cnt) (hg : (wr.alloc o).grownBy w1 av.ownBlock) (hown : w1.ownsRow w0.heap.size 3 1 av' ats'.length (Pt ats')) (hat : av'.ownBlock = av.ownBlock ∨ av'.ownBlock = some (wr.alloc o).heap.size) : PtsRel w0 w1 p av' pts ats' cnt := by
  obtain ⟨lv, pv, h1, ho, hd, hb⟩ := h
  have hz : (wr.alloc o).heap.size = wr.heap.size + 1 := by simp
  have hu : Upd (fun b => av.ownBlock = some b) wr w1 := ((Upd.refl _ _).alloc o).trans (Upd.of_grown (S := fun b => av.ownBlock = some b) hg (fun _ h => h)) (fun _ _ h => h)
  refine ⟨lv, pv, h1.upd hu (fun b hf he => hd b he hf), hown, fun b hb' hf => ?_, hb.trans (hu.below hb.size (fun b he => (ho.lt b he).1))⟩
  rcases own_cases hat hb' with e | e
  · exact hd b e hf
  · have := (h1.foot_lt hf).2; omega

set_option maxRecDepth 100000 in
set_option maxHeartbeats 4000000 in
theorem undoPoints_core (w0 : World) (A : Option Addr) (n c : Nat) (xs : List Int) (x : Int) (hv : View w0 1 (.slice A n c) n (xs.map fun q => Value.int .i64 q)) (hn : 1 ≤ n ∧ n ≤ 20) (hx : 0 ≤ x ∧ x < n) :
    Calls Try.prog 7 #[.slice A n c, .int .i64 x] w0 fun e w' => e = .returned (.bool true) ∧ Below w0.heap.size w0 w' := by
  obtain ⟨i0, hi0, hz0, hz1, hz2⟩ := info_parts info3
  obtain ⟨b, off, cap, hA, hc1, hc2, hc3, hcc⟩ := hv.at_ (by omega)
  injection hA with hA1 hA2 hA3
  subst hA1 hA3
  have hl : xs.length = n := by have := hv.1; simpa using this
  obtain ⟨hn1, hn2⟩ := hn
  obtain ⟨hx1, hx2⟩ := hx
  clear hv
  replace hcc := Lib.hid hcc
  replace hl := Lib.hid hl
  go_enter Try.func7, Try.ntmps7
  go_wp2_with fail
  refine (alive22 _).mono ?_; rintro e w1 ⟨rfl, hb1⟩
  go_wp2_with fail
  have hstart : PtsRel w0 (w1.alloc (.cells #[.slice none 0 0, .slice none 0 0] 36)) w1.heap.size (.slice none 0 0) [] [] 0 :=
    ⟨_, _, work_new 36 w1 _ hb1.size, World.ownsRow_nil _ _ _ _, fun b hb => by simp [Value.ownBlock] at hb, hb1.alloc hb1.size _⟩
  generalize w1.heap.size = p at hstart ⊢
  go_loopw [7, 8, 9] (fun av cv iv wr => ∃ (i cnt : Nat) (ats : List Nat), i ≤ n ∧ iv = .int .i64 i ∧ cv = .int .i64 cnt ∧ ats.length = i ∧ cnt ≤ 3 * i ∧ (∀ q ∈ ats, q ≤ cnt) ∧ PtsRel w0 wr p av ats ats cnt) (fun _ _ iv _ => n - (intOf iv).toNat)
  case atStart => exact ⟨0, 0, [], by omega, rfl, rfl, rfl, by omega, by simp, hstart⟩
  case round =>
    clear hstart hb1
    obtain ⟨i, cnt, ats, hi, rfl, rfl, hal, hcnt, hall, hrel⟩ := hrel
    by_cases hlt : i < n
    · have q1 : (i : Int) < (n : Int) := by omega
      have ci := hcc.out i (.int .i64 (xs[i]'(by rw [hl.out]; exact hlt))) (by rw [List.getElem?_map, List.getElem?_eq_getElem (by rw [hl.out]; exact hlt)]; rfl)
      generalize (xs[i]'(by rw [hl.out]; exact hlt)) = z at ci
      obtain ⟨m, hm4, hmz⟩ := and3 z
      obtain ⟨lv, pv, h1, ho, hd, hb⟩ := hrel
      go_wp2_with fail
      refine (mark36 _ _ _ _ _ _ _ h1 (by omega)).mono ?_; rintro e w2 ⟨rfl, pv1, k1, ft1, up1⟩
      have hr2 := pts_step h1 ho hd hb k1 ft1 up1
      clear k1 ft1 up1 h1 ho hd hb
      rw [nexts_len] at hr2
      obtain ⟨lv2, pv2, h2, ho2, hd2, hb2⟩ := hr2
      have HR : PtsRel w0 w2 p u7 (ats ++ [cnt]) ats cnt := ⟨lv2, pv2, h2, ho2, hd2, hb2⟩
      have ho3 := ho2.alloc (.cells #[.int .i64 (cnt : Int)] 3)
      have hbox := View.boxAt (sz := 1) w2 [.int .i64 (cnt : Int)] 3 _ rfl rfl
      have hbs := hb2.size
      clear h2 ho2 hd2 hb2 lv2 pv2
      replace hall := Lib.hid hall
      rw [hal] at ho3 ⊢
      replace hal := Lib.hid hal
      go_wp2_with (at_builtin; refine wpList_append_view _ rfl (.tmp 54) (.tmp 56) _ rfl w0.heap.size 3 i0 (.int .i64 0) 1 8 Try.underlying32 hi0 hz0 hz1 hz2 rfl (by decide) u7 i (Pt ats) rfl ho3 _ 1 [.int .i64 (cnt : Int)] rfl hbox (by intro u hu; simp at hu; subst hu; rfl) (by omega) (by simp only [maxLen]; omega) (by simp; omega) ?_; intro v3 w3 hown hg hat)
      have HR3 : PtsRel w0 w3 p v3 (ats ++ [cnt]) (ats ++ [cnt]) cnt := pts_at HR hg (by rw [List.length_append, List.length_singleton, hal.out]; unfold Pt at hown ⊢; rw [List.map_append]; exact hown) hat
      clear hown hg hat hbox ho3 HR
      go_loopw [8, 10] (fun cv kv wq => ∃ (k : Nat), k ≤ m ∧ kv = .int .i64 k ∧ cv = .int .i64 ((cnt + k : Nat) : Int) ∧ PtsRel w0 wq p v3 (ats ++ [cnt]) (ats ++ [cnt]) (cnt + k)) (fun _ kv _ => m - (intOf kv).toNat)
      case atStart => exact ⟨0, by omega, rfl, rfl, HR3⟩
      case round =>
        obtain ⟨k, hk, rfl, rfl, hrel⟩ := hrel
        clear HR3
        obtain ⟨lvq, pvq, hq, hoq, hdq, hbq⟩ := hrel
        have ci' := (hbq.cell (p := ⟨b, off + i, none⟩) hc3).trans ci
        by_cases hkm : k < m
        · have q2 : (k : Int) < (m : Int) := by omega
          go_wp2_with fail
          refine (add36 _ _ _ _ _ _ _ (hq.below ((Below.refl _ _).alloc (Nat.le_refl _) _)) _ [fnext ((cnt + k : Nat) : Int)] (View.boxAt _ (fnext ((cnt + k : Nat) : Int)).cells 40 _ rfl rfl) (by rw [nexts_len, List.length_singleton]; omega)).mono ?_; rintro e w4 ⟨rfl, lv4, k4, ft4, up4⟩
          go_wp2_with fail
          go_roundw
          case rel => 
            refine ⟨k + 1, by omega, by go_num, by go_num, ?_⟩
            rw [← nexts_succ] at k4
            exact pts_step (hq.below ((Below.refl _ _).alloc (Nat.le_refl _) _)) (hoq.alloc _) hdq (hbq.alloc hbq.size _) k4 ft4 up4
          case measure => simp [intOf]; omega
        · have hkm' : k = m := by omega
          have q2 : ¬ (k : Int) < (m : Int) := by omega
          go_wp2_with fail
          go_roundw
          case rel =>
            refine ⟨i + 1, cnt + k, ats ++ [cnt], by omega, by go_num, rfl, by rw [List.length_append, List.length_singleton, hal.out], by omega, ?_, ⟨lvq, pvq, hq, hoq, hdq, hbq⟩⟩
            intro q hq'
            rcases List.mem_append.1 hq' with h9 | h9
            · have := hall.out q h9; omega
            · have : q = cnt := by simpa using h9
              omega
          case measure => simp [intOf]; omega
    · have hin : i = n := by omega
      have q1 : ¬ (i : Int) < (n : Int) := by omega
      obtain ⟨X, rfl⟩ := Int.eq_ofNat_of_zero_le hx1
      have hX : X < ats.length := by omega
      obtain ⟨k, hk⟩ : ∃ k, ats[X]? = some k := ⟨_, List.getElem?_eq_getElem hX⟩
      have hkc : k ≤ cnt := hall k (List.mem_of_getElem? hk)
      obtain ⟨lv, pv, h1, ho, hd, hb⟩ := hrel
      replace hall := Lib.hid hall
      obtain ⟨d, rfl⟩ : ∃ d, cnt = k + d := ⟨cnt - k, by omega⟩
      have el : ((nexts (k + d)).drop k).length = d := by rw [List.length_drop, nexts_len]; omega
      have et : ((nexts (k + d)).take k).length = k := by rw [List.length_take, nexts_len]; omega
      replace el := Lib.hid el
      replace et := Lib.hid et
      go_wp2_with fail
      refine (back36 _ _ _ _ _ _ _ X k h1 hk (by rw [nexts_len]; exact hkc) (by rw [nexts_len]; omega) (by omega)).mono ?_; rintro e w2 ⟨v2, lv2, pv2, rfl, own2, h2, ft2, up2⟩
      have ho2 := own_upd ho up2 hd
      have hb2 := hb.trans (work_below h1 up2)
      have hd2 : ∀ b, u7.ownBlock = some b → ¬ Foot p lv2 pv2 b := fun b hb hf => hd b hb (ft2 b hf)
      have own2l := own2.lt
      obtain ⟨bb, oo, cc, hu7, hq1, hq2, hq3, hq4⟩ := (View.of_own ho2).at_ (by omega)
      have ck := hq4 X (.int .i64 (k : Int)) (by unfold Pt; rw [List.getElem?_map, hk]; rfl)
      rw [el.out] at own2
      obtain ⟨A2, c2, rfl, g1, g2, g3⟩ := own_shape own2
      rw [hu7]
      go_wp2_with fail
      replace hq4 := Lib.hid hq4
      replace own2l := Lib.hid own2l
      replace hd2 := Lib.hid hd2
      replace hd := Lib.hid hd
      replace ft2 := Lib.hid ft2
      replace hu7 := Lib.hid hu7
      replace hk := Lib.hid hk
      have hc60 : (k : Int) + d ≤ 60 := by omega
      have qX : (X : Int) < n := by omega
      have e6 : IntKind.i64.wrap ((k : Int) + (d : Int) - (k : Int)) = (d : Int) := by rw [IntWalk.i64_in _ (by omega)]; omega
      go_region_held3 (fun w' => w'.cell? ⟨bb, oo + X, none⟩ = some (.int .i64 (k : Int))) (first | assumption | exact ck | exact (hb4.cell (p := ⟨bb, oo + X, none⟩) hq3).trans ck) (first | (go_at_call 26; refine (all36 _ _ _ _ _ _ _ (h2.drewN 1) ?cc).mono ?_; (case cc => rw [et.out]; omega); rintro e w4 ⟨v4, rfl, own4, hb4⟩; obtain ⟨A4, c4, hv4, g41, g42, g43⟩ := own_shape own4; rw [hv4, et.out]))
      clear e6
      have h4 := (h2.drewN 1).below hb4
      have own4' := own_below (own_drewN own2 1) hb4
      have ck4 := (hb4.cell (p := ⟨bb, oo + X, none⟩) hq3).trans ck
      have hb5 := (hb2.drew).trans (hb4.mono hb2.size)
      have hnx : ∀ i, i < d → ((nexts (k + d)).drop k)[i]? = some (fnext ((k + i : Nat) : Int)) := by
        intro i hi
        rw [List.getElem?_drop]
        unfold nexts
        rw [List.getElem?_map, List.getElem?_range (by omega)]
        rfl
      have hel : ∀ i, i < d → ∃ b2 o2 c3, (Value.slice A2 d c2) = .slice (some ⟨b2, o2, none⟩) d c3 ∧ w4.cell? ⟨b2, o2 + i * 13 + 4, none⟩ = some (.int .i64 ((k + i : Nat) : Int)) := by
        intro i hi
        have v := View.of_own own4'
        have el' := el.out
        obtain ⟨b2, o2, c3, e1, _, _, _, e2⟩ := v.at_ (by omega)
        refine ⟨b2, o2, c3, e1, ?_⟩
        have hlt2 : i < ((nexts (k + d)).drop k).length := by rw [el']; exact hi
        have e3 := flatMap_at Eff.cells 13 Eff.len ((nexts (k + d)).drop k) i hlt2 4 (by decide)
        have e4 := hnx i hi
        rw [List.getElem?_eq_getElem hlt2] at e4
        injection e4 with e4
        rw [e4] at e3
        have := e2 (i * 13 + 4) _ e3
        simpa [Nat.add_assoc, fnext] using this
      replace hel := Lib.hid hel
      clear hnx hq4 own2l hd2 hd ck hb4 own4 own4'
      go_wp2_with fail
      go_loopw [13] (fun iv wr => ∃ i : Nat, i ≤ d ∧ iv = .int .i64 i ∧ Same w4 wr) (fun iv _ => d - (intOf iv).toNat)
      case atStart => exact ⟨0, by omega, rfl, Same.refl _⟩
      case round =>
        obtain ⟨i2, hi2, rfl, m2, rfl⟩ := hrel
        by_cases hlt2 : i2 < d
        · obtain ⟨b2, o2, c3, e1, ce⟩ := hel.out i2 hlt2
          have q9 : (i2 : Int) < (d : Int) := by omega
          have e7 : IntKind.i64.wrap ((k : Int) + (i2 : Int)) = (k : Int) + (i2 : Int) := IntWalk.i64_in _ (by omega)
          rw [e1]
          go_wp2_with fail
          go_quiet (fail)
          clear e7
          go_wp2_with fail
          go_roundw
          case rel => exact ⟨i2 + 1, by omega, by go_num, _, rfl⟩
          case measure => simp [intOf]; omega
        · have q9 : ¬ (i2 : Int) < (d : Int) := by omega
          have el4 : (ats.take (X + 1)).length = X + 1 := by rw [List.length_take]; omega
          replace hk := hk.out
          have hk4 : (ats.take (X + 1))[X]? = some k := by rw [List.getElem?_take]; simpa using hk
          have ekk : ((nexts (k + d)).take k).drop k = [] := List.drop_eq_nil_of_le (by rw [et.out]; omega)
          have hb6 : Below w0.heap.size w0 (w4.drewN m2) := hb5.trans (Same.below ⟨m2, rfl⟩)
          replace el4 := Lib.hid el4
          replace ekk := Lib.hid ekk
          replace hb6 := Lib.hid hb6
          replace hb5 := Lib.hid hb5
          clear hel
          have h5 := h4.drewN m2
          go_wp2_with fail
          refine (back36_no _ _ _ _ _ _ _ _ h5 (.inr (by rw [el4.out]; omega))).mono ?_; rintro e w5 ⟨rfl, rfl⟩
          go_wp2_with fail
          refine (back36 _ _ _ _ _ _ _ X k h5 hk4 (by rw [et.out]; omega) (by rw [et.out]; omega) (by rw [el4.out]; omega)).mono ?_; rintro e w6 ⟨v6, lv6, pv6, rfl, own6, h6, ft6, up6⟩
          rw [ekk.out] at own6
          have hb7 := hb6.out.trans (work_below h5 up6)
          obtain ⟨A6, c6, rfl, _, _, _⟩ := own_shape own6
          have el6 : ((ats.take (X + 1)).take (X + 1)).length = X + 1 := by rw [List.length_take, el4.out]; omega
          replace hb7 := Lib.hid hb7
          have h6 := Lib.hid h6
          have el7 := Lib.hid el6
          go_wp2_with fail
          refine (mark36 _ _ _ _ _ _ _ h6.out (by rw [el7.out]; omega)).mono ?_; rintro e w7 ⟨rfl, pv7, k7, ft7, up7⟩
          rw [el6]
          go_wp2
          go_ret
          exact ⟨rfl, hb7.out.trans (work_below h6.out up7)⟩
end Go.Proofs.Ytppcofcgdbflpaa
