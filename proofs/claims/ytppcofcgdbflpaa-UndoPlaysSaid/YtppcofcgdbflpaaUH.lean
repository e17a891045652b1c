import Derived.Test.YtppcofcgdbflpaaUG
namespace Go.Proofs.Ytppcofcgdbflpaa
open Go.RowKit Go.Proofs.PosteMem Go.Proofs.PosteOpen

theorem two_a {T T' : TypeId} {w0 wr w1 : World} {B p p' : Nat} {lv pv lv' pv' lv1 pv1 : Value} {L L' L1 : List Eff} {pts pts' pts1 : List Nat} (h1 : IsWork T wr B p lv pv L pts) (h2 : IsWork T' wr B p' lv' pv' L' pts') (hd : ∀ b, Foot p lv pv b → ¬ Foot p' lv' pv' b) (hb : Below B w0 wr)
    (hf : ∀ b, Foot p lv1 pv1 b → Foot p lv pv b ∨ wr.heap.size ≤ b) (hu : Upd (Foot p lv pv) wr w1) (_k1 : IsWork T w1 B p lv1 pv1 L1 pts1) :
    IsWork T' w1 B p' lv' pv' L' pts' ∧ (∀ b, Foot p lv1 pv1 b → ¬ Foot p' lv' pv' b) ∧ Below B w0 w1 :=
  ⟨h2.upd hu (fun b hf2 hf1 => hd b hf1 hf2), fun b h3 h4 => by
    rcases hf b h3 with h5 | h5
    · exact hd b h5 h4
    · have := (h2.foot_lt h4).2; omega, hb.trans (work_below h1 hu)⟩

theorem foot_nil {p b : Nat} (h : Foot p (.slice none 0 0) (.slice none 0 0) b) : b = p := by
  rcases h with h | h | h
  · exact h
  · simp [Value.ownBlock] at h
  · simp [Value.ownBlock] at h

theorem effs_cells {w : World} {b o i : Nat} {x : Eff} (f : ∀ (j : Nat) (u : Value), (x.cells)[j]? = some u → w.cell? ⟨b, o + (i * 13 + j), none⟩ = some u) :
    w.cell? ⟨b, o + i * 13, none⟩ = some (.int .i64 x.kind) ∧
    w.cell? ⟨b, o + i * 13 + 1, none⟩ = some (.string x.obj) ∧
    w.cell? ⟨b, o + i * 13 + 2, none⟩ = some (.string x.key) ∧
    w.cell? ⟨b, o + i * 13 + 3, none⟩ = some (.string x.val) ∧
    w.cell? ⟨b, o + i * 13 + 4, none⟩ = some (.int .i64 x.n) ∧
    w.cell? ⟨b, o + i * 13 + 5, none⟩ = some (.int .i64 x.lim) ∧
    w.cell? ⟨b, o + i * 13 + 6, none⟩ = some (.bool x.tried) ∧
    w.cell? ⟨b, o + i * 13 + 7, none⟩ = some (.int .i64 x.mid) ∧
    w.cell? ⟨b, o + i * 13 + 8, none⟩ = some (.int .i64 x.mpri) ∧
    w.cell? ⟨b, o + i * 13 + 9, none⟩ = some (.int .i64 x.mretry) ∧
    w.cell? ⟨b, o + i * 13 + 10, none⟩ = some (.bool x.mclaimed) ∧
    w.cell? ⟨b, o + i * 13 + 11, none⟩ = some (.string x.mcorr) ∧
    w.cell? ⟨b, o + i * 13 + 12, none⟩ = some (.string x.mbody) :=
  ⟨f 0 _ rfl, f 1 _ rfl, f 2 _ rfl, f 3 _ rfl, f 4 _ rfl, f 5 _ rfl, f 6 _ rfl, f 7 _ rfl, f 8 _ rfl, f 9 _ rfl, f 10 _ rfl, f 11 _ rfl, f 12 _ rfl⟩

/-- Points that an object may hold. -/
def Sane (m : Nat) (pts : List Nat) : Prop := (∀ q ∈ pts, q ≤ m) ∧ pts.Pairwise (· ≤ ·)
theorem Sane.mono {m m' : Nat} {pts : List Nat} (h : Sane m pts) (hm : m ≤ m') : Sane m' pts := ⟨fun q hq => Nat.le_trans (h.1 q hq) hm, h.2⟩
theorem Sane.mark {m : Nat} {pts : List Nat} (h : Sane m pts) : Sane m (pts ++ [m]) := by
  refine ⟨fun q hq => ?_, List.pairwise_append.2 ⟨h.2, List.pairwise_singleton _ _, fun a ha b hb => ?_⟩⟩
  · rcases List.mem_append.1 hq with hq | hq
    · exact h.1 q hq
    · have : q = m := by simpa using hq
      omega
  · have : b = m := by simpa using hb
    have := h.1 a ha
    omega
theorem Sane.take {m X k : Nat} {pts : List Nat} (h : Sane m pts) (hk : pts[X]? = some k) : Sane k (pts.take (X + 1)) := by
  obtain ⟨hX, rfl⟩ := List.getElem?_eq_some_iff.1 hk
  refine ⟨fun q hq => ?_, h.2.sublist (List.take_sublist _ _)⟩
  obtain ⟨j, hj, rfl⟩ := List.getElem_of_mem hq
  rw [List.length_take] at hj
  rw [List.getElem_take]
  rcases Nat.lt_or_ge j X with hlt | hge
  · exact List.pairwise_iff_getElem.1 h.2 j X (by omega) hX hlt
  · have : j = X := by omega
    subst this
    exact Nat.le_refl _

/-- The two objects: they hold the same. -/
def Two (w0 wr : World) (p p' : Nat) (L : List Eff) (pts : List Nat) : Prop :=
  ∃ lv pv lv' pv', IsWork 36 wr w0.heap.size p lv pv L pts ∧ IsWork 48 wr w0.heap.size p' lv' pv' L pts ∧ (∀ b, Foot p lv pv b → ¬ Foot p' lv' pv' b) ∧ Below w0.heap.size w0 wr

/-- An act, as it lies in the slice of acts. -/
def ActAt (w0 : World) (A : Option Addr) (i : Nat) : Prop :=
  ∃ b off, A = some ⟨b, off, none⟩ ∧ b < w0.heap.size ∧ ∃ (way N : Int) (A2 : Option Addr) (m c2 : Nat) (M : List Eff), w0.cell? ⟨b, off + i * 3, none⟩ = some (.int .i64 way) ∧ w0.cell? ⟨b, off + i * 3 + 1, none⟩ = some (.int .i64 N) ∧ w0.cell? ⟨b, off + i * 3 + 2, none⟩ = some (.slice A2 m c2) ∧
    M.length = m ∧ View w0 13 (.slice A2 m c2) m (M.flatMap Eff.cells)

set_option maxRecDepth 100000 in
set_option maxHeartbeats 8000000 in
theorem undoPlays_core (w0 : World) (A : Option Addr) (n c : Nat) (hn : n ≤ 80) (hA : ∀ i, i < n → ActAt w0 A i) :
    Calls Try.prog 8 #[.slice A n c] w0 fun e w' => e = .returned (.bool true) ∧ Below w0.heap.size w0 w' := by
  obtain ⟨i0, hi0, hz0, hz1, hz2⟩ := info_parts info40
  replace hA := Lib.hid hA
  go_enter Try.func8, Try.ntmps8
  go_wp2_with fail
  refine (alive22 _).mono ?_; rintro e w1 ⟨rfl, hb1⟩
  go_wp2_with fail
  have hstart : Two w0 ((w1.alloc (.cells #[.slice none 0 0, .slice none 0 0] 36)).alloc (.cells #[.slice none 0 0, .slice none 0 0] 48)) w1.heap.size (w1.heap.size + 1) [] [] := by
    have h1 := work_new 36 w1 w0.heap.size hb1.size
    have h2 := work_new 48 (w1.alloc (.cells #[.slice none 0 0, .slice none 0 0] 36)) w0.heap.size (by simp; have := hb1.size; omega)
    have e : (w1.alloc (.cells #[.slice none 0 0, .slice none 0 0] 36)).heap.size = w1.heap.size + 1 := by simp
    rw [e] at h2
    refine ⟨_, _, _, _, h1.below ((Below.refl _ _).alloc (Nat.le_refl _) _), h2, fun b hb hb' => ?_, (hb1.alloc hb1.size _).alloc (by simp; have := hb1.size; omega) _⟩
    have e1 := foot_nil hb
    have e2 := foot_nil hb'
    omega
  clear hb1
  generalize w1.heap.size = p at hstart ⊢
  generalize (w1.alloc (.cells #[.slice none 0 0, .slice none 0 0] 36)).alloc (.cells #[.slice none 0 0, .slice none 0 0] 48) = ws at hstart ⊢
  generalize p + 1 = p1 at hstart ⊢
  go_loopw [5, 6] (fun q iv wr => ∃ (i p' : Nat) (L : List Eff) (pts : List Nat), i ≤ n ∧ q = .pointer (some ⟨p', 0, none⟩) ∧ iv = .int .i64 i ∧ L.length ≤ 3 * i ∧ pts.length ≤ i ∧ Sane L.length pts ∧ Two w0 wr p p' L pts) (fun _ iv _ => n - (intOf iv).toNat)
  case atStart => exact ⟨0, p1, [], [], by omega, rfl, rfl, by simp, by simp, ⟨by simp, .nil⟩, hstart⟩
  case round =>
    clear hstart
    obtain ⟨i, p', L, pts, hi, rfl, rfl, hL, hp, hall, hrel⟩ := hrel
    by_cases hlt : i < n
    · have q1 : (i : Int) < (n : Int) := by omega
      obtain ⟨b, off, rfl, hbl, way, N, A2, m, c2, M, d0, d1, d2, hM, hv⟩ := hA.out i hlt
      obtain ⟨lv, pv, lv', pv', h1, h2, hd, hb⟩ := hrel
      have e0 := (hb.cell (p := ⟨b, off + i * 3, none⟩) hbl).trans d0
      have e1 := (hb.cell (p := ⟨b, off + i * 3 + 1, none⟩) hbl).trans d1
      have e2 := (hb.cell (p := ⟨b, off + i * 3 + 2, none⟩) hbl).trans d2
      have hv0 := hv
      replace hv := hv.below hb
      clear d0 d1 d2
      have hq1 : ∀ b, Foot p lv pv b → b ≠ wr.heap.size := fun b hb => Nat.ne_of_lt (h1.foot_lt hb).2
      have hq2 : ∀ b, Foot p' lv' pv' b → b ≠ wr.heap.size := fun b hb => Nat.ne_of_lt (h2.foot_lt hb).2
      replace h1 := Lib.hid h1
      replace h2 := Lib.hid h2
      replace hd := Lib.hid hd
      replace hq1 := Lib.hid hq1
      replace hq2 := Lib.hid hq2
      replace hall := Lib.hid hall
      by_cases z0 : way = 0
      · subst z0
        go_wp2_with fail
        obtain ⟨mm, hm4, hmz⟩ := and3 N
        rw [hmz]
        refine (cut_any _ _ _ _).mono ?_; rintro e wb ⟨rfl, rfl⟩
        obtain ⟨k, hk3, hkm, hke⟩ : ∃ k : Nat, k ≤ 3 ∧ k ≤ m ∧ cutI (mm : Int) 0 (m : Int) = (k : Int) := by
          unfold cutI
          by_cases h9 : mm ≤ m
          · exact ⟨mm, by omega, h9, by rw [if_neg (by omega), if_neg (by omega)]⟩
          · exact ⟨m, by omega, by omega, by rw [if_neg (by omega), if_pos (by omega)]⟩
        rw [hke]
        clear hke hmz
        have hbsz := hb.size
        have hbw := Whole.new wr 50 #[.int .i64 0, .int .i64 N, .slice A2 m c2]
        have hv2 : View (wr.alloc (.cells #[.int .i64 0, .int .i64 N, .slice A2 m c2] 50)) 13 (.slice A2 k c2) k ((M.take k).flatMap Eff.cells) := by
          have := View.take (hv.alloc (.cells #[.int .i64 0, .int .i64 N, .slice A2 m c2] 50)) hkm
          rwa [eff_take] at this
        obtain ⟨_, _, e4, hmc2, hcx⟩ := hv.cells
        injection e4 with e5 _ e6
        subst e5 e6
        have hkc : k ≤ c2 := by omega
        have hMk : (M.take k).length = k := by rw [List.length_take]; omega
        go_wp2_with (at_builtin; refine wpList_append_new _ rfl (.const (.slice none 0 0)) (.tmp 52) _ rfl w0.heap.size 40 i0 zEff 13 144 Try.underlying34 hi0 hz0 hz1 hz2 rfl (by decide) rfl _ k _ rfl hv2 (Eff.one _) (by omega) (by simp only [maxLen]; omega) (by simp; omega) ?_; intro A4 c4 w4 hown hmc hcm hAn hg hat)
        have u4 : Upd (fun _ => False) wr w4 := ((Upd.refl _ _).alloc _).trans (Upd.of_grown (S := fun _ => False) hg (fun _ h => by cases h)) (fun _ _ h => h)
        have g1 := h1.out.upd u4 (fun _ _ h => h)
        have g2 := h2.out.upd u4 (fun _ _ h => h)
        have gb := hb.trans (u4.below hbsz (fun _ h => h.elim))
        have hown' : View w4 13 (.slice A4 k c4) (M.take k).length ((M.take k).flatMap Eff.cells) := by rw [hMk]; exact View.of_own hown
        refine (add36 _ _ _ _ _ _ _ g1 _ (M.take k) hown' (by omega)).mono ?_; rintro e w5 ⟨rfl, lv5, k1, ft5, up5⟩
        obtain ⟨j2, jd, jb⟩ := two_a g1 g2 hd.out gb ft5 up5 k1
        have hbw5 : Whole w5 wr.heap.size 50 #[.int .i64 0, .int .i64 N, .slice A2 m c2] := (hbw.grown hg (by simp)).upd up5 (fun hf => hq1.out _ hf rfl)
        have hq2' : ¬ Foot p' lv' pv' wr.heap.size := fun hf => hq2.out _ hf rfl
        clear hbw hown hown' up5 u4 g1 g2 gb hat hg hAn ft5 hv2
        go_wp2_with fail
        go_loopw [9] (fun iv wq => ∃ (i2 : Nat) (lvq pvq : Value), i2 ≤ k ∧ iv = .int .i64 i2 ∧ IsWork 48 wq w0.heap.size p' lvq pvq (L ++ M.take i2) pts ∧ IsWork 36 wq w0.heap.size p lv5 pv (L ++ M.take k) pts ∧ (∀ b, Foot p lv5 pv b → ¬ Foot p' lvq pvq b) ∧ Below w0.heap.size w0 wq ∧ Whole wq wr.heap.size 50 #[.int .i64 0, .int .i64 N, .slice A2 m c2] ∧ ¬ Foot p' lvq pvq wr.heap.size) (fun iv _ => k - (intOf iv).toNat)
        case atStart => exact ⟨0, lv', pv', by omega, rfl, by simpa using j2, k1, jd, jb, hbw5, hq2'⟩
        case round =>
          clear j2 k1 jd jb hbw5 hq2'
          obtain ⟨i2, lvq, pvq, hi2, rfl, r48, r36, rd, rb, rbox, rq⟩ := hrel
          have b2 := rbox.cell 2
          by_cases hik : i2 < k
          · have q2 : (i2 : Int) < (k : Int) := by omega
            have hi2m : i2 < M.length := by omega
            have hvq := hv0.below rb
            rw [← hM] at hvq
            obtain ⟨b2, o2, c3, e9, f1, f3, f2⟩ := effs_at hvq (by omega)
            injection e9 with e9 e10 e11
            subst e9 e11
            obtain ⟨p0, p1, p2, p3, p4, p5, p6, p7, p8, p9, p10, p11, p12⟩ := effs_cells (f2 i2 hi2m)
            have hxe : (M.take (i2 + 1)) = M.take i2 ++ [M[i2]] := List.take_succ_eq_append_getElem hi2m
            generalize M[i2] = x at *
            clear f2
            go_wp2_with fail
            refine (add48 _ _ _ _ _ _ _ r48 x (by rw [List.length_append, List.length_take]; omega)).mono ?_; rintro e w6 ⟨rfl, lv6, k6, ft6, up6⟩
            go_wp2_with fail
            go_roundw
            case rel =>
              obtain ⟨t1, t2, t3⟩ := two_a (T := 48) (T' := 36) r48 r36 (fun b h h' => rd b h' h) rb ft6 up6 k6
              refine ⟨i2 + 1, lv6, pvq, by omega, by go_num, by rw [hxe, ← List.append_assoc]; exact k6, t1, (fun b h h' => t2 b h' h), t3, rbox.upd up6 rq, fun hf => ?_⟩
              have := rbox.lt
              rcases ft6 _ hf with h | h
              · exact rq h
              · omega
            case measure => simp [intOf]; omega
          · have hik' : i2 = k := by omega
            subst hik'
            have q2 : ¬ (i2 : Int) < (i2 : Int) := by omega
            have hL9 : (L ++ M.take i2).length ≤ 1000 := by rw [List.length_append, List.length_take]; omega
            have c9 : World.cell? _ ⟨p', 0, none⟩ = some lvq := (r48).obj.cell 0
            have m36 := Lib.hid (r36)
            have m48 := Lib.hid (r48)
            have md := Lib.hid (rd)
            have mb := Lib.hid (rb)
            go_wp2_with fail
            go_region_held3 (fun (w' : World) => w'.cell? ⟨p', 0, none⟩ = some lvq) (first | assumption | exact c9 | exact (hb9.cell (p := ⟨p', 0, none⟩) m48.out.obj.lt).trans c9) (first | (go_at_call 26; refine (all36 _ _ _ _ _ _ _ (m36.out.drewN _) hL9).mono ?_; rintro e w9 ⟨v9, rfl, own9, hb9⟩) | (go_at_call 31; refine (same_effects _ _ _ _ (View.of_own own9) (View.of_own (own_below (own_drewN m48.out.ls _) hb9)) hL9).mono ?_; rintro e w10 ⟨rfl, m10, rfl⟩))
            go_wp2_with fail
            go_roundw
            case rel => exact ⟨i + 1, p', L ++ M.take i2, pts, by omega, rfl, by go_num, by rw [List.length_append, List.length_take]; omega, by omega, (hall.out.mono (by rw [List.length_append]; omega)), ⟨_, _, _, _, ((m36.out.drewN _).below hb9).drewN _, ((m48.out.drewN _).below hb9).drewN _, md.out, below_dn _ ((below_dn _ mb.out).trans (hb9.mono (by simpa using mb.out.size)))⟩⟩
            case measure => simp [intOf]; omega
      · by_cases z1 : way = 1
        · subst z1
          have al := (Below.refl wr.heap.size wr).alloc (Nat.le_refl _) (.cells #[.int .i64 1, .int .i64 N, .slice A2 m c2] 50)
          have g1 := h1.out.below al
          have g2 := h2.out.below al
          have gb := hb.trans (al.mono hb.size)
          go_wp2_with fail
          refine (mark36 _ _ _ _ _ _ _ g1 (by omega)).mono ?_; rintro e w5 ⟨rfl, pv5, k1, ft5, up5⟩
          obtain ⟨j2, jd, jb⟩ := two_a g1 g2 hd.out gb ft5 up5 k1
          go_wp2_with fail
          refine (mark48 _ _ _ _ _ _ _ j2 (by omega)).mono ?_; rintro e w6 ⟨rfl, pv6, k2, ft6, up6⟩
          obtain ⟨t1, t2, t3⟩ := two_a j2 k1 (fun b h h' => jd b h' h) jb ft6 up6 k2
          have hL9 : (L).length ≤ 1000 := by omega
          have c9 : World.cell? _ ⟨p', 0, none⟩ = some lv' := (k2).obj.cell 0
          have m36 := Lib.hid (t1)
          have m48 := Lib.hid (k2)
          have md := Lib.hid (fun b h h' => t2 b h' h)
          have mb := Lib.hid (t3)
          go_wp2_with fail
          go_region_held3 (fun (w' : World) => w'.cell? ⟨p', 0, none⟩ = some lv') (first | assumption | exact c9 | exact (hb9.cell (p := ⟨p', 0, none⟩) m48.out.obj.lt).trans c9) (first | (go_at_call 26; refine (all36 _ _ _ _ _ _ _ (m36.out.drewN _) hL9).mono ?_; rintro e w9 ⟨v9, rfl, own9, hb9⟩) | (go_at_call 31; refine (same_effects _ _ _ _ (View.of_own own9) (View.of_own (own_below (own_drewN m48.out.ls _) hb9)) hL9).mono ?_; rintro e w10 ⟨rfl, m10, rfl⟩))
          go_wp2_with fail
          go_roundw
          case rel => exact ⟨i + 1, p', L, pts ++ [L.length], by omega, rfl, by go_num, by omega, by rw [List.length_append, List.length_singleton]; omega, hall.out.mark, ⟨_, _, _, _, ((m36.out.drewN _).below hb9).drewN _, ((m48.out.drewN _).below hb9).drewN _, md.out, below_dn _ ((below_dn _ mb.out).trans (hb9.mono (by simpa using mb.out.size)))⟩⟩
          case measure => simp [intOf]; omega
        by_cases z2 : way = 2
        · subst z2
          have al := (Below.refl wr.heap.size wr).alloc (Nat.le_refl _) (.cells #[.int .i64 2, .int .i64 N, .slice A2 m c2] 50)
          have g1 := h1.out.below al
          have g2 := h2.out.below al
          have gb := hb.trans (al.mono hb.size)
          by_cases hN : N < 0 ∨ pts.length ≤ N
          · go_wp2_with fail
            refine (back36_no _ _ _ _ _ _ _ _ g1 hN).mono ?_; rintro e w5 ⟨rfl, rfl⟩
            go_wp2_with fail
            refine (back48_no _ _ _ _ _ _ _ _ g2 hN).mono ?_; rintro e w5 ⟨rfl, rfl⟩
            go_wp2_with fail
            refine (same_effects _ _ _ [] (View.nil _ _) (View.nil _ _) (by simp)).mono ?_; rintro e w5 ⟨rfl, m5, rfl⟩
            have hL9 : (L).length ≤ 1000 := by omega
            have c9 : World.cell? _ ⟨p', 0, none⟩ = some lv' := (g2).obj.cell 0
            have m36 := Lib.hid (g1)
            have m48 := Lib.hid (g2)
            have md := Lib.hid (hd.out)
            have mb := Lib.hid (gb)
            go_wp2_with fail
            go_region_held3 (fun (w' : World) => w'.cell? ⟨p', 0, none⟩ = some lv') (first | assumption | exact c9 | exact (hb9.cell (p := ⟨p', 0, none⟩) m48.out.obj.lt).trans c9) (first | (go_at_call 26; refine (all36 _ _ _ _ _ _ _ (m36.out.drewN _) hL9).mono ?_; rintro e w9 ⟨v9, rfl, own9, hb9⟩) | (go_at_call 31; refine (same_effects _ _ _ _ (View.of_own own9) (View.of_own (own_below (own_drewN m48.out.ls _) hb9)) hL9).mono ?_; rintro e w10 ⟨rfl, m10, rfl⟩))
            go_wp2_with fail
            go_roundw
            case rel => exact ⟨i + 1, p', L, pts, by omega, rfl, by go_num, by omega, by omega, hall.out, ⟨_, _, _, _, ((m36.out.drewN _).below hb9).drewN _, ((m48.out.drewN _).below hb9).drewN _, md.out, below_dn _ ((below_dn _ mb.out).trans (hb9.mono (by simpa using mb.out.size)))⟩⟩
            case measure => simp [intOf]; omega
          · obtain ⟨X, rfl⟩ := Int.eq_ofNat_of_zero_le (show 0 ≤ N by omega)
            have hX : X < pts.length := by omega
            obtain ⟨k, hk⟩ : ∃ k, pts[X]? = some k := ⟨_, List.getElem?_eq_getElem hX⟩
            have hkc : k ≤ L.length := hall.out.1 k (List.mem_of_getElem? hk)
            have hLk : (L.take k).length = k := by rw [List.length_take]; omega
            have hsane : Sane (L.take k).length (pts.take (X + 1)) := by rw [hLk]; exact hall.out.take hk
            replace hsane := Lib.hid hsane
            replace hLk := Lib.hid hLk
            replace hk := Lib.hid hk
            clear hN
            go_wp2_with fail
            refine (back36 _ _ _ _ _ _ _ X k g1 hk.out hkc (by omega) (by omega)).mono ?_; rintro e w5 ⟨v5, lv5, pv5, rfl, own5, k1, ft5, up5⟩
            have gl := Lib.hid (fun b (h : Foot p' lv' pv' b) => g2.foot_lt h)
            obtain ⟨j2, jd, jb⟩ := two_a g1 g2 hd.out gb (fun b h => .inl (ft5 b h)) up5 k1
            have cb : w5.cell? ⟨wr.heap.size, 1, none⟩ = some (.int .i64 (X : Int)) := ((Whole.new wr 50 #[.int .i64 2, .int .i64 (X : Int), .slice A2 m c2]).upd up5 (fun hf => hq1.out _ hf rfl)).cell 1
            go_wp2_with fail
            refine (back48 _ _ _ _ _ _ _ X k j2 hk.out hkc (by omega) (by omega)).mono ?_; rintro e w6 ⟨v6, lv6, pv6, rfl, own6, k2, ft6, up6⟩
            obtain ⟨t1, t2, t3⟩ := two_a j2 k1 (fun b h h' => jd b h' h) jb ft6 up6 k2
            have own5' := own_upd own5 up6 (fun b hb hf => by have := (own5.lt b hb).1; have := (gl.out b hf).2; omega)
            go_wp2_with fail
            refine (same_effects _ _ _ _ (View.of_own own5') (View.of_own own6) (by rw [List.length_drop]; omega)).mono ?_; rintro e w7 ⟨rfl, m5, rfl⟩
            have hL9 : (L.take k).length ≤ 1000 := by rw [hLk.out]; omega
            have c9 : World.cell? _ ⟨p', 0, none⟩ = some lv6 := (k2).obj.cell 0
            have m36 := Lib.hid (t1)
            have m48 := Lib.hid (k2)
            have md := Lib.hid (fun b h h' => t2 b h' h)
            have mb := Lib.hid (t3)
            go_wp2_with fail
            go_region_held3 (fun (w' : World) => w'.cell? ⟨p', 0, none⟩ = some lv6) (first | assumption | exact c9 | exact (hb9.cell (p := ⟨p', 0, none⟩) m48.out.obj.lt).trans c9) (first | (go_at_call 26; refine (all36 _ _ _ _ _ _ _ (m36.out.drewN _) hL9).mono ?_; rintro e w9 ⟨v9, rfl, own9, hb9⟩) | (go_at_call 31; refine (same_effects _ _ _ _ (View.of_own own9) (View.of_own (own_below (own_drewN m48.out.ls _) hb9)) hL9).mono ?_; rintro e w10 ⟨rfl, m10, rfl⟩))
            go_wp2_with fail
            go_roundw
            case rel => exact ⟨i + 1, p', L.take k, pts.take (X + 1), by omega, rfl, by go_num, by rw [hLk.out]; omega, by rw [List.length_take]; omega, hsane.out, ⟨_, _, _, _, ((m36.out.drewN _).below hb9).drewN _, ((m48.out.drewN _).below hb9).drewN _, md.out, below_dn _ ((below_dn _ mb.out).trans (hb9.mono (by simpa using mb.out.size)))⟩⟩
            case measure => simp [intOf]; omega
        by_cases z3 : way = 3
        · subst z3
          have al := (Below.refl wr.heap.size wr).alloc (Nat.le_refl _) (.cells #[.int .i64 3, .int .i64 N, .slice A2 m c2] 50)
          have g1 := h1.out.below al
          have g2 := h2.out.below al
          have gb := hb.trans (al.mono hb.size)
          go_wp2_with fail
          refine (clear36 _ _ _ _ _ _ _ g1).mono ?_; rintro e w5 ⟨rfl, k1, up5⟩
          have j3 := gb.trans (work_below g1 up5)
          have al2 := (Below.refl w5.heap.size w5).alloc (Nat.le_refl _) (.cells #[.slice none 0 0, .slice none 0 0] 48)
          have k2 := work_new 48 w5 w0.heap.size j3.size
          have k3 := k1.below al2
          have kd : ∀ b, Foot p (.slice none 0 0) (.slice none 0 0) b → ¬ Foot w5.heap.size (.slice none 0 0) (.slice none 0 0) b := fun b h h' => by
            have e1 := foot_nil h
            have e2 := foot_nil h'
            have := k1.obj.lt
            omega
          have j4 := j3.trans (al2.mono j3.size)
          have hL9 : (([] : List Eff)).length ≤ 1000 := by simp
          have c9 : World.cell? _ ⟨w5.heap.size, 0, none⟩ = some (.slice none 0 0) := (k2).obj.cell 0
          have m36 := Lib.hid (k3)
          have m48 := Lib.hid (k2)
          have md := Lib.hid (kd)
          have mb := Lib.hid (j4)
          go_wp2_with fail
          go_region_held3 (fun (w' : World) => w'.cell? ⟨w5.heap.size, 0, none⟩ = some (.slice none 0 0)) (first | assumption | exact c9 | exact (hb9.cell (p := ⟨w5.heap.size, 0, none⟩) m48.out.obj.lt).trans c9) (first | (go_at_call 26; refine (all36 _ _ _ _ _ _ _ (m36.out.drewN _) hL9).mono ?_; rintro e w9 ⟨v9, rfl, own9, hb9⟩) | (go_at_call 31; refine (same_effects _ _ _ _ (View.of_own own9) (View.of_own (own_below (own_drewN m48.out.ls _) hb9)) hL9).mono ?_; rintro e w10 ⟨rfl, m10, rfl⟩))
          go_wp2_with fail
          go_roundw
          case rel => exact ⟨i + 1, w5.heap.size, ([] : List Eff), ([] : List Nat), by omega, rfl, by go_num, by simp, by simp, ⟨by simp, .nil⟩, ⟨_, _, _, _, ((m36.out.drewN _).below hb9).drewN _, ((m48.out.drewN _).below hb9).drewN _, md.out, below_dn _ ((below_dn _ mb.out).trans (hb9.mono (by simpa using mb.out.size)))⟩⟩
          case measure => simp [intOf]; omega
        have al := (Below.refl wr.heap.size wr).alloc (Nat.le_refl _) (.cells #[.int .i64 way, .int .i64 N, .slice A2 m c2] 50)
        have g1 := h1.out.below al
        have g2 := h2.out.below al
        have gb := hb.trans (al.mono hb.size)
        have hL9 : (L).length ≤ 1000 := by omega
        have c9 : World.cell? _ ⟨p', 0, none⟩ = some lv' := (g2).obj.cell 0
        have m36 := Lib.hid (g1)
        have m48 := Lib.hid (g2)
        have md := Lib.hid (hd.out)
        have mb := Lib.hid (gb)
        go_wp2_with fail
        go_region_held3 (fun (w' : World) => w'.cell? ⟨p', 0, none⟩ = some lv') (first | assumption | exact c9 | exact (hb9.cell (p := ⟨p', 0, none⟩) m48.out.obj.lt).trans c9) (first | (go_at_call 26; refine (all36 _ _ _ _ _ _ _ (m36.out.drewN _) hL9).mono ?_; rintro e w9 ⟨v9, rfl, own9, hb9⟩) | (go_at_call 31; refine (same_effects _ _ _ _ (View.of_own own9) (View.of_own (own_below (own_drewN m48.out.ls _) hb9)) hL9).mono ?_; rintro e w10 ⟨rfl, m10, rfl⟩))
        go_wp2_with fail
        go_roundw
        case rel => exact ⟨i + 1, p', L, pts, by omega, rfl, by go_num, by omega, by omega, hall.out, ⟨_, _, _, _, ((m36.out.drewN _).below hb9).drewN _, ((m48.out.drewN _).below hb9).drewN _, md.out, below_dn _ ((below_dn _ mb.out).trans (hb9.mono (by simpa using mb.out.size)))⟩⟩
        case measure => simp [intOf]; omega
    · have q1 : ¬ (i : Int) < (n : Int) := by omega
      obtain ⟨lv, pv, lv', pv', h1, h2, hd, hb⟩ := hrel
      go_wp2
      go_ret
      exact ⟨rfl, hb⟩
end Go.Proofs.Ytppcofcgdbflpaa
