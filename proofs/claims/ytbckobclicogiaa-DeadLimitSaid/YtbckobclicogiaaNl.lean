/-
  DeadLimit: its walk.
-/
import Derived.Test.YtbckobclicogiaaNk
import Derived.Test.YtbckobclicogiaaNi
import Derived.Deep.DeepCutAuto
set_option linter.unusedVariables false
set_option linter.unusedSimpArgs false
namespace Go.Proofs.Ytbckobclicogiaa
open Go.RowKit Go.Proofs.PosteMem Go.Proofs.PosteOpen
attribute [local go_sem ↓] Go.wp_at_zero Go.wp_at_succ

set_option maxRecDepth 100000 in
set_option maxHeartbeats 8000000 in
theorem limit_core (w : World) (limit : Int) (A : Option Addr) (cap : Nat) (l : List Bool) (h : View w 1 (.slice A l.length cap) l.length (l.map .bool)) :
    Calls Try.prog 4 #[.int .i64 limit, .slice A l.length cap] w fun e w' => e = .returned (.bool true) ∧ Below w.heap.size w w' := by
  have kF := Lib.hid (fun W o r m d tried (h : VOb W o r m d) (hs : o.small) => free_any W o r m d 2 tried h hs)
  have kW := Lib.hid (fun W o r m d id (h : VOb W o r m d) (hs : o.small) => where_any W o r m d id h hs)
  replace h := Lib.hid h
  by_cases g1 : limit < 1
  · go_enter Try.func4, Try.ntmps4
    go_wp2_with fail
    refine (alive16 _).mono ?_; rintro e w1 ⟨rfl, hb1⟩
    go_wp2
    go_ret
    exact ⟨rfl, hb1⟩
  by_cases g2 : 20 < limit
  · go_enter Try.func4, Try.ntmps4
    go_wp2_with fail
    refine (alive16 _).mono ?_; rintro e w1 ⟨rfl, hb1⟩
    go_wp2
    go_ret
    exact ⟨rfl, hb1⟩
  by_cases h3 : 60 < l.length
  · have g3 : (60 : Int) < (l.length : Int) := by omega
    go_enter Try.func4, Try.ntmps4
    go_wp2_with fail
    refine (alive16 _).mono ?_; rintro e w1 ⟨rfl, hb1⟩
    go_wp2
    go_ret
    exact ⟨rfl, hb1⟩
  have g3 : ¬ (60 : Int) < (l.length : Int) := by omega
  go_enter Try.func4, Try.ntmps4
  go_wp2_with fail
  refine (alive16 _).mono ?_; rintro e w1 ⟨rfl, hb1⟩
  go_upto_region 7 with fail
  have st0 := Sd.start hb1 limit
  have hql : w1.heap.size + 1 = w1.heap.size + 1 := rfl
  generalize ((w1.alloc (.cells #[.int .i64 1, .int .i64 (-1), .int .i64 0, .bool false, .string ⟨#[]⟩, .string ⟨#[]⟩, .int .i64 2, .int .i64 0, .int .i64 0, .bool false, .string ⟨#[]⟩, .string ⟨#[]⟩, .int .i64 3, .int .i64 1, .int .i64 0, .bool false, .string ⟨#[]⟩, .string ⟨#[]⟩] 34)).alloc (.cells #[.string ⟨#[113]⟩, .int .i64 2, .int .i64 limit, .slice none 0 0, .slice (some ⟨w1.heap.size, 0, none⟩) 3 3, .slice none 0 0] 25)) = w0 at *
  generalize (Value.slice (some ⟨w1.heap.size, 0, none⟩) 3 3) = m0 at *
  generalize w1.heap.size + 1 = q at *
  clear hb1 hql
  go_loopw [7, 8] (fun n i wr => ∃ (N : Int) (k : Nat) (r m d : Value), n = .int .i64 N ∧ i = .int .i64 k ∧ 0 ≤ N ∧ N < limit ∧ k ≤ l.length ∧ Sd w wr q (oL limit N false) r m d) (fun _ i _ => l.length - (intOf i).toNat)
  case atStart => exact ⟨0, 0, _, _, _, rfl, rfl, by omega, by omega, by omega, st0⟩
  case round =>
    obtain ⟨N, k, r, m, d, rfl, rfl, hN0, hN1, hk, st⟩ := hrel
    by_cases hlt : k < l.length
    · have q1 : (k : Int) < (l.length : Int) := by omega
      obtain ⟨g, c, rfl, hc1, hc2, hg1, hg2⟩ := own_some st.ob.msgs (show 0 < 3 by decide)
      have st1 := st.claim
      have c4 := st.box.cell 4
      have f3 := own_free st.ob.msgs 9
      have v3 := own_cell st.ob.msgs 9 (show 9 < 3 * 6 by decide)
      simp only [oL, Ob.cells, List.length_cons, List.length_nil, Nat.zero_add] at c4 v3
      replace st1 := Lib.hid st1
      replace st := Lib.hid st
      go_upto_region 10 with fail
      generalize hW : wr.setCell ⟨g, 9, none⟩ (.bool true) = W at *
      have hx : ∃ x : Ob, freeR (oL limit N true) 2 l[k] = (x, true) ∧ x.name = ⟨#[113]⟩ ∧ x.kind = 2 ∧ x.limit = limit ∧ x.rows = [] ∧ (x = oL limit N false ∧ l[k] = false ∨ x = oL limit (N + 1) false ∧ l[k] = true ∧ N + 1 < limit ∨ x = oG limit ∧ l[k] = true ∧ N + 1 = limit) := by
        cases hb : l[k] with
        | false => exact ⟨_, freeL_untried limit N, rfl, rfl, rfl, rfl, .inl ⟨rfl, rfl⟩⟩
        | true =>
          by_cases he : N + 1 = limit
          · exact ⟨_, freeL_gone limit N hN0 he (by omega), rfl, rfl, rfl, rfl, .inr (.inr ⟨rfl, rfl, he⟩)⟩
          · exact ⟨_, freeL_kept limit N hN0 (by omega) (by omega), rfl, rfl, rfl, rfl, .inr (.inl ⟨rfl, rfl, by omega⟩)⟩
      obtain ⟨x, hx1, hx2, hx3, hx4, hx5, hx6⟩ := hx
      obtain ⟨lb, lo, lc, e2, _, _, hll, hlc⟩ := h.out.at_ (show 0 < l.length * 1 by omega)
      injection e2 with e2 e3 e4
      subst e2 e4
      have sw := st1.out
      have lk : W.cell? ⟨lb, lo + k, none⟩ = some (.bool l[k]) := (sw.acc.cell (p := ⟨lb, lo + k, none⟩) hll).trans (hlc k _ (by simp [List.getElem?_eq_getElem hlt]))
      have hll' : lb < W.heap.size := by have := sw.acc.size; omega
      have hql := sw.box.lt
      have d0 := sw.box.cell 0
      have d1 := sw.box.cell 1
      have d2 := sw.box.cell 2
      have d3 := sw.box.cell 3
      have d4 := sw.box.cell 4
      have d5 := sw.box.cell 5
      simp only [oL, Ob.cells] at d0 d1 d2 d3 d4 d5
      have kC := Lib.hid (fun W' (hb : Below W.heap.size W W') => kF.out W' (oL limit N true) r _ d l[k] (VOb.below sw.ob.view hb) (by unfold Ob.small; simp [oL]))
      rw [hx1] at kC
      unfold FreePost Ob.cells at kC
      simp only [oL, List.length_cons, List.length_nil, Nat.zero_add, Nat.reduceAdd] at kC
      clear hx1 st1 st
      replace sw := Lib.hid sw
      replace hx6 := Lib.hid hx6
      go_cut [9, 10] (fun s9 s10 wx => ∃ nb r' m' d', s9 = .pointer (some ⟨nb, 0, none⟩) ∧ s10 = .bool true ∧ W.heap.size ≤ nb ∧ Below W.heap.size W wx ∧ Whole wx nb 25 (x.cells r' m' d') ∧ OOb wx W.heap.size x r' m' d')
      case first =>
        go_region_law (first
          | (go_simp; go_at_call 13; refine (kC.out _ (by first | exact Below.refl _ _ | exact Below.drew (Below.refl _ _) | exact Below.alloc (Below.drew (Below.refl _ _)) (Nat.le_refl _) _)).mono ?_; rintro e w4 ⟨r1, m1, d1, rfl, ho4, hb4⟩; obtain ⟨A1, n1, rfl, _, _, _⟩ := own_shape ho4.rows; obtain ⟨A2, n2, rfl, _, _, _⟩ := own_shape ho4.msgs; obtain ⟨A3, n3, rfl, _, _, _⟩ := own_shape ho4.dead; try (have n0 : Whole w4 W.heap.size 25 #[.string ⟨#[]⟩, .int .i64 0, .int .i64 0, .slice none 0 0, .slice none 0 0, .slice none 0 0] := Whole.below (Whole.new W.drew 25 #[.string ⟨#[]⟩, .int .i64 0, .int .i64 0, .slice none 0 0, .slice none 0 0, .slice none 0 0]) hb4; have nc0 := n0.cell 0; have nc1 := n0.cell 1; have nc2 := n0.cell 2; have nc3 := n0.cell 3; have nc4 := n0.cell 4; have nc5 := n0.cell 5; have nf0 := n0.frozen 0; have nf1 := n0.frozen 1; have nf2 := n0.frozen 2; have nf3 := n0.frozen 3; have nf4 := n0.frozen 4; have nf5 := n0.frozen 5)))
        all_goals
          go_wp2_with fail
          go_meet
          -- the worlds: set6 w4 W.heap.size .. (new box ahead of the call) or w4.alloc .. (behind it)
          first
            | (obtain ⟨h1, h2, h3⟩ := cut_before hb4 n0 ho4; obtain ⟨name, kind, lim, R, M, D⟩ := x; simp only at hx2 hx3 hx4 hx5; subst hx2 hx3 hx4 hx5; exact ⟨W.heap.size, _, _, _, rfl, rfl, Nat.le_refl _, h1, h2, h3⟩)
            | (obtain ⟨h1, h2, h3⟩ := cut_behind hb4 ho4; obtain ⟨name, kind, lim, R, M, D⟩ := x; simp only at hx2 hx3 hx4 hx5; subst hx2 hx3 hx4 hx5; exact ⟨w4.heap.size, _, _, _, rfl, rfl, hb4.size, h1, h2, h3⟩)
      case rest =>
        obtain ⟨nb, r', m', d', rfl, rfl, hnb, hbx, hwx, hox⟩ := hcut
        have lk' := (hbx.cell (p := ⟨lb, lo + k, none⟩) hll').trans lk
        have hsm : x.small := by rcases hx6.out with ⟨rfl, _⟩ | ⟨rfl, _⟩ | ⟨rfl, _⟩ <;> (unfold Ob.small; simp [oL, oG])
        have sn := sw.out.next hbx hox
        have kW1 := Lib.hid (fun W' id (hb : Below wc.heap.size wc W') => kW.out W' x r' m' d' id (VOb.below hox.view hb) hsm)
        have qs := sw.out.box.below hbx
        have b0 := hwx.cell 0
        have b1 := hwx.cell 1
        have b2 := hwx.cell 2
        have b3 := hwx.cell 3
        have b4 := hwx.cell 4
        have b5 := hwx.cell 5
        have f0 := qs.frozen 0
        have f1 := qs.frozen 1
        have f2 := qs.frozen 2
        have f3' := qs.frozen 3
        have f4 := qs.frozen 4
        have f5 := qs.frozen 5
        have g0 : wc.cell? ⟨q, 0, none⟩ = some (.string ⟨#[113]⟩) := qs.cell 0
        have g1' : wc.cell? ⟨q, 1, none⟩ = some (.int .i64 2) := qs.cell 1
        have g2' : wc.cell? ⟨q, 2, none⟩ = some (.int .i64 limit) := qs.cell 2
        have g3' := qs.cell 3
        have g4 := qs.cell 4
        have g5 := qs.cell 5
        unfold Ob.cells oL at g3' g4 g5
        simp only at g3' g4 g5
        have hnlt := hwx.lt
        have hqn : ¬ nb = q := by omega
        have hsz := sw.out.acc.size
        have hacc := below_then sw.out.acc hbx
        clear d0 d1 d2 d3 d4 d5 lk sw kC kF c4 v3 f3 hlc kW qs hwx hnb hbx hsm hx2 hx3 hx4 hx5
        rcases hx6.out with ⟨rfl, hb⟩ | ⟨rfl, hb, hN2⟩ | ⟨rfl, hb, hN2⟩
        · rw [hb] at lk'
          clear hx6 kW1 hb hacc hsz
          obtain ⟨A4, c4, rfl, _, _, _⟩ := own_shape hox.rows
          obtain ⟨g9, c5, rfl, _, _, _, _⟩ := own_some hox.msgs (show 0 < 3 by decide)
          obtain ⟨A6, c6, rfl, _, _, _⟩ := own_shape hox.dead
          obtain ⟨p0, p1, p2, p3, p4, p5⟩ := msg_cells (L := [m1L, m2L (N) false, m3L]) hox.msgs 1 (show 1 < 3 by decide)
          replace b0 : wc.cell? ⟨nb, 0, none⟩ = some (.string ⟨#[113]⟩) := b0
          replace b1 : wc.cell? ⟨nb, 1, none⟩ = some (.int .i64 2) := b1
          replace b2 : wc.cell? ⟨nb, 2, none⟩ = some (.int .i64 limit) := b2
          replace b3 : wc.cell? ⟨nb, 3, none⟩ = some (.slice A4 0 c4) := b3
          replace b4 : wc.cell? ⟨nb, 4, none⟩ = some (.slice (some ⟨g9, 0, none⟩) 3 c5) := b4
          replace b5 : wc.cell? ⟨nb, 5, none⟩ = some (.slice A6 0 c6) := b5
          replace p0 : wc.cell? ⟨g9, 6, none⟩ = some (.int .i64 2) := p0
          replace p1 : wc.cell? ⟨g9, 7, none⟩ = some (.int .i64 0) := p1
          replace p2 : wc.cell? ⟨g9, 8, none⟩ = some (.int .i64 (N)) := p2
          replace p3 : wc.cell? ⟨g9, 9, none⟩ = some (.bool false) := p3
          replace p4 : wc.cell? ⟨g9, 10, none⟩ = some (.string ⟨#[]⟩) := p4
          replace p5 : wc.cell? ⟨g9, 11, none⟩ = some (.string ⟨#[]⟩) := p5
          replace sn := Lib.hid sn
          clear hox
          go_wp2_with fail
          go_roundw
          case rel => exact ⟨N, k + 1, _, _, _, rfl, by go_num, by omega, by omega, by omega, sn.out⟩
          case measure => simp [intOf]; omega
        · rw [hb] at lk'
          clear hx6 kW1 hb hacc hsz
          obtain ⟨A4, c4, rfl, _, _, _⟩ := own_shape hox.rows
          obtain ⟨g9, c5, rfl, _, _, _, _⟩ := own_some hox.msgs (show 0 < 3 by decide)
          obtain ⟨A6, c6, rfl, _, _, _⟩ := own_shape hox.dead
          obtain ⟨p0, p1, p2, p3, p4, p5⟩ := msg_cells (L := [m1L, m2L (N + 1) false, m3L]) hox.msgs 1 (show 1 < 3 by decide)
          replace b0 : wc.cell? ⟨nb, 0, none⟩ = some (.string ⟨#[113]⟩) := b0
          replace b1 : wc.cell? ⟨nb, 1, none⟩ = some (.int .i64 2) := b1
          replace b2 : wc.cell? ⟨nb, 2, none⟩ = some (.int .i64 limit) := b2
          replace b3 : wc.cell? ⟨nb, 3, none⟩ = some (.slice A4 0 c4) := b3
          replace b4 : wc.cell? ⟨nb, 4, none⟩ = some (.slice (some ⟨g9, 0, none⟩) 3 c5) := b4
          replace b5 : wc.cell? ⟨nb, 5, none⟩ = some (.slice A6 0 c6) := b5
          replace p0 : wc.cell? ⟨g9, 6, none⟩ = some (.int .i64 2) := p0
          replace p1 : wc.cell? ⟨g9, 7, none⟩ = some (.int .i64 0) := p1
          replace p2 : wc.cell? ⟨g9, 8, none⟩ = some (.int .i64 (N + 1)) := p2
          replace p3 : wc.cell? ⟨g9, 9, none⟩ = some (.bool false) := p3
          replace p4 : wc.cell? ⟨g9, 10, none⟩ = some (.string ⟨#[]⟩) := p4
          replace p5 : wc.cell? ⟨g9, 11, none⟩ = some (.string ⟨#[]⟩) := p5
          replace sn := Lib.hid sn
          clear hox
          go_wp2_with fail
          go_roundw
          case rel => exact ⟨N + 1, k + 1, _, _, _, by go_num, by go_num, by omega, by omega, by omega, sn.out⟩
          case measure => simp [intOf]; omega
        · rw [hb] at lk'
          clear hx6 hb sn
          replace kW1 : Hid (∀ W' id, Below wc.heap.size wc W' → _) := kW1
          obtain ⟨A4, c4, rfl, _, _, _⟩ := own_shape hox.rows
          obtain ⟨g9, c5, rfl, _, _, _, _⟩ := own_some hox.msgs (show 0 < 2 by decide)
          obtain ⟨g8, c6, rfl, _, _, _, _⟩ := own_some hox.dead (show 0 < 1 by decide)
          obtain ⟨p0, p1, p2, p3, p4, p5⟩ := msg_cells (L := [m2L limit false]) hox.dead 0 (show 0 < 1 by decide)
          replace b0 : wc.cell? ⟨nb, 0, none⟩ = some (.string ⟨#[113]⟩) := b0
          replace b1 : wc.cell? ⟨nb, 1, none⟩ = some (.int .i64 2) := b1
          replace b2 : wc.cell? ⟨nb, 2, none⟩ = some (.int .i64 limit) := b2
          replace b3 : wc.cell? ⟨nb, 3, none⟩ = some (.slice A4 0 c4) := b3
          replace b4 : wc.cell? ⟨nb, 4, none⟩ = some (.slice (some ⟨g9, 0, none⟩) 2 c5) := b4
          replace b5 : wc.cell? ⟨nb, 5, none⟩ = some (.slice (some ⟨g8, 0, none⟩) 1 c6) := b5
          replace p0 : wc.cell? ⟨g8, 0, none⟩ = some (.int .i64 2) := p0
          replace p1 : wc.cell? ⟨g8, 1, none⟩ = some (.int .i64 0) := p1
          replace p2 : wc.cell? ⟨g8, 2, none⟩ = some (.int .i64 limit) := p2
          replace p3 : wc.cell? ⟨g8, 3, none⟩ = some (.bool false) := p3
          replace p4 : wc.cell? ⟨g8, 4, none⟩ = some (.string ⟨#[]⟩) := p4
          replace p5 : wc.cell? ⟨g8, 5, none⟩ = some (.string ⟨#[]⟩) := p5
          clear hox
          replace hacc := Lib.hid hacc
          have kA : Hid (∀ W', Below wc.heap.size wc W' → _) := Lib.hid (fun W' hb => whereG2 limit ▸ kW1.out W' 2 hb)
          have kB : Hid (∀ W', Below wc.heap.size wc W' → _) := Lib.hid (fun W' hb => whereG3 limit ▸ kW1.out W' 3 hb)
          clear kW1
          unfold oG Ob.cells at kA kB
          simp only [List.length_nil, List.length_cons, Nat.zero_add, Nat.reduceAdd] at kA kB
          clear f0 f1 f2 f3' f4 f5 g0 g1' g2' g3' g4 g5
          go_upto_region 15 with fail
          go_wp2_with fail
          refine (kA.out _ (Below.refl _ _)).mono ?_; rintro e wA ⟨rfl, hbA⟩
          replace b0 := (hbA.cell (p := ⟨nb, 0, none⟩) hnlt).trans b0
          replace b1 := (hbA.cell (p := ⟨nb, 1, none⟩) hnlt).trans b1
          replace b2 := (hbA.cell (p := ⟨nb, 2, none⟩) hnlt).trans b2
          replace b3 := (hbA.cell (p := ⟨nb, 3, none⟩) hnlt).trans b3
          replace b4 := (hbA.cell (p := ⟨nb, 4, none⟩) hnlt).trans b4
          replace b5 := (hbA.cell (p := ⟨nb, 5, none⟩) hnlt).trans b5
          clear p0 p1 p2 p3 p4 p5 kA lk'
          go_wp2_with fail
          refine (kB.out _ hbA).mono ?_; rintro e wB ⟨rfl, hbB⟩
          go_wp2_with fail
          go_ret
          exact ⟨rfl, below_then (below_then hacc.out hbA) hbB⟩
    · have q1 : ¬ (k : Int) < (l.length : Int) := by omega
      go_wp2_with fail
      go_ret
      exact ⟨rfl, st.acc⟩
theorem deadLimit_walk (W : World) (limit : Int) (_ : (Lit.int .i64 limit).wf = true) (A : Option Addr) (n c : Nat) (x : (Kd.sl 4 .bool).T) (z : Rd Try.prog W (.sl 4 .bool) [.slice A n c] x) :
    Calls Try.prog 4 #[.int .i64 limit, .slice A n c] W fun e w' => e = .returned (.bool true) ∧ Below W.heap.size W w' := by
  have hv := rd_view_flat rfl z
  obtain ⟨A', c', e, _, _⟩ := View.cells hv
  injection e with e1 e2 e3
  subst e1 e2 e3
  have he : ∀ l : List Bool, l.flatMap (Kd.enc .bool) = l.map .bool := fun l => by
    induction l with
    | nil => rfl
    | cons a l ih => rw [List.flatMap_cons, ih]; rfl
  rw [he x] at hv
  exact limit_core W limit A c x hv
end Go.Proofs.Ytbckobclicogiaa
