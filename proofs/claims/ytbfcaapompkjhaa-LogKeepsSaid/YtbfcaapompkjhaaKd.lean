/-
  posteref1.Writer's Text (of the mark) and Int; an append of zeros; SameBytes of rows of different lengths.
-/
import Derived.Test.YtbfcaapompkjhaaKc
import Derived.Test.YtbfcaapompkjhaaHi
set_option linter.unusedVariables false
set_option linter.unusedSimpArgs false
namespace Go.Proofs.Ytbfcaapompkjhaa
open Go.RowKit Go.Proofs.PosteMem
attribute [local go_sem ↓] Go.wp_at_zero Go.wp_at_succ

/-- append(s, make([]byte, k)...) to a row of the call's own that holds something. -/
theorem run_append_own_zeros {P : Program} (w : World) (base : Nat) (t tn ty e : TypeId) (i : TypeInfo) (kq kn : IntKind) (ht : P.underlying t = some (.slice e)) (htn : P.underlying tn = some (.int kn)) (hi : P.info? e = some i) (hz : i.zero = some (.int .u8 0))
    (hsize : i.size = 1) (hby : i.bytes = 1) (v : Value) (n : Nat) (xs : List Value) (hown : w.ownsRow base e 1 v n xs) (h0 : 0 < n) (k : Nat) (hk : 0 < k) (hm : n + k ≤ 1000000) (hbase : base ≤ w.heap.size) :
    ∃ v' w', (Builtin.append_ #[t, tn] ty #[v, .int kq k]).run P w = .ok v' w' ∧ w'.ownsRow base e 1 v' (n + k) (xs ++ List.replicate k (.int .u8 0)) ∧ w.grownBy w' v.ownBlock := by
  have hxl : xs.length = n := by simpa using hown.1
  have hlen : (xs ++ List.replicate k (Value.int .u8 0)).length = (n + k) * 1 := by rw [List.length_append, hxl, List.length_replicate, Nat.mul_one]
  have hzc : (Builtin.zeroCells (Value.int .u8 0).cells k).toList = List.replicate k (Value.int .u8 0) := by
    have hz1 : (Value.int IntKind.u8 0).cells = #[Value.int .u8 0] := rfl
    apply List.ext_getElem
    · rw [Array.length_toList, size_zeroCells, hz1, List.length_replicate]; simp
    · intro j h1 h2
      simp [Builtin.zeroCells, hz1, Nat.mod_one]
  have hkw : IntKind.i64.wrap (k : Int) = k := by rw [IntKind.wrap_i64]; omega
  rcases hown.2 with ⟨rfl, rfl⟩ | ⟨g, cap, cur, rfl, hbg, hg, hnc, hcm, hcs, htake⟩
  · omega
  · have hcs' : cur.size = cap := by simpa using hcs
    by_cases hroom : n + k ≤ cap
    · have hst := run_storeCells_at P g n e (List.replicate k (Value.int .u8 0)) 0 cur w hg (by rw [List.length_replicate]; omega) (fun v hv => by rw [List.eq_of_mem_replicate hv]; rfl)
      simp only [Nat.add_zero, List.length_replicate] at hst
      have hneg : ¬ ((k : Int) < 0) := by omega
      have h48i : ¬ (281474976710656 < (k : Int)) := by omega
      refine ⟨.slice (some ⟨g, 0, none⟩) (n + k) cap, w.setRow g (cur.toList.take n ++ List.replicate k (Value.int .u8 0) ++ cur.toList.drop (n + k)).toArray, ?_, ⟨hlen, .inr ⟨g, cap, _, rfl, hbg, setRow_heap w g cur _ e _ hg, hroom, hcm, ?_, ?_⟩⟩, ⟨rfl, rfl, rfl, by simp, fun j _ hj => setRow_other w g j _ (fun e => hj (by simp [Value.ownBlock, e]))⟩⟩
      · simp [Builtin.append_, run_underlying ht, run_underlying htn, sizeOf, typeInfo, zeroValue, hi, hz, hsize, hby, asInt, asIntOf, hkw, hneg, h48i, hroom, Nat.pos_iff_ne_zero.1 hk, Addr.add_lit, hzc, hst]
      · simp only [List.size_toArray, List.length_append, List.length_take, List.length_drop, Array.length_toList, List.length_replicate]
        omega
      · have ht' : cur.toList.take n = xs := by simpa using htake
        rw [ht', ← hlen]
        exact List.take_left
    · have holds : ∀ j u, xs[j]? = some u → w.drew.cell? ((⟨g, 0, none⟩ : Addr).add j) = some u := hown.cells (g := g) rfl
      have hfo := run_firstCells_some (P := P) w.drew i.size n ⟨g, 0, none⟩ n cap xs (by rw [hsize]; simpa using hxl) holds
      have hr := Lib.run_append_grow_zeros w t tn ty e i (.int .u8 0) kq kn ht htn hi hz (some ⟨g, 0, none⟩) n cap xs hfo k hk (by omega) (by omega) (by omega) (by rw [hby]; omega) (by rw [hby]; exact growslice_fits (by omega) (by omega))
      have hge := grownCap_ge w (n + k) cap e
      have hcm2 : grownCap w (n + k) cap e ≤ maxLen := grownCap_le_maxLen w (n + k) cap e (by simp only [maxLen]; omega)
      refine ⟨_, _, hr, ⟨hlen, .inr ⟨w.heap.size, _, _, rfl, hbase, heap_alloc_new w.drew _, hge, hcm2, ?_, ?_⟩⟩, ⟨rfl, rfl, rfl, by simp, fun j hj _ => heap_alloc_old w.drew _ hj⟩⟩
      · have hz1 : (Value.int IntKind.u8 0).cells.size = 1 := rfl
        simp only [Array.size_append, List.size_toArray, size_zeroCells, hz1, hxl]
        omega
      · simp only [Array.toList_append, List.append_assoc, hzc]
        rw [← List.append_assoc, ← hlen]
        exact List.take_left
theorem wp_append_own_zeros {P : Program} (w : World) {o : Oper} {a : Act} {K : Act → World → Prop} {Q : Exit → Act → World → Prop} (s x : Operand) (t tn : TypeId)
    (ho : o.op = .call { callee := .builtin .append, args := #[s, x], argTypes := #[t, tn] }) (base : Nat) (e : TypeId) (i : TypeInfo) (kq kn : IntKind) (ht : P.underlying t = some (.slice e)) (htn : P.underlying tn = some (.int kn)) (hi : P.info? e = some i) (hz : i.zero = some (.int .u8 0))
    (hsize : i.size = 1) (hby : i.bytes = 1) (v : Value) (n : Nat) (xs : List Value) (hs : a.eval s = v) (hown : w.ownsRow base e 1 v n xs) (h0 : 0 < n) (k : Nat) (hx : a.eval x = .int kq k) (hk : 0 < k) (hm : n + k ≤ 1000000) (hbase : base ≤ w.heap.size)
    (h : ∀ v' w', w'.ownsRow base e 1 v' (n + k) (xs ++ List.replicate k (.int .u8 0)) → w.grownBy w' v.ownBlock → K (a.put o.dst v') w') : o.wp P a w K Q := by
  obtain ⟨v', w', h6, h7, h8⟩ := run_append_own_zeros (P := P) w base t tn o.type e i kq kn ht htn hi hz hsize hby v n xs hown h0 k hk hm hbase
  unfold Oper.wp execOp
  simp only [ho, resolve, invoke, builtin, Sem.run_bind, Sem.run_pure, Result.andThen_ok, List.map_toArray, List.map_cons, List.map_nil, hs, hx, h6]
  exact h v' w' h7 h8

/-- 'x & (2^k - 1)' of a word without a sign is its rest by 2^k. -/
theorem bits_masku (x : Int) (k : Nat) (hk : k < 63) : bits .and .u64 x ((2 ^ k - 1 : Nat) : Int) = x % ((2 ^ k : Nat) : Int) := by
  have hp : 0 < 2 ^ k := Nat.two_pow_pos k
  have hlt : 2 ^ k < 2 ^ 63 := Nat.pow_lt_pow_right (by decide) hk
  have e1 : (BitVec.ofInt 64 ((2 ^ k - 1 : Nat) : Int)).toNat = 2 ^ k - 1 := by
    rw [BitVec.ofInt_natCast, BitVec.toNat_ofNat]
    exact Nat.mod_eq_of_lt (by omega)
  have e2 : (BitVec.ofInt 64 x).toNat = (x % (2 ^ 64 : Nat)).toNat := by rw [BitVec.toNat_ofInt]
  have e3 : ((BitVec.ofInt 64 x &&& BitVec.ofInt 64 ((2 ^ k - 1 : Nat) : Int)).toNat : Int) = x % ((2 ^ k : Nat) : Int) := by
    rw [BitVec.toNat_and, e1, e2, Nat.and_two_pow_sub_one_eq_mod, Int.natCast_emod, Int.toNat_of_nonneg (Int.emod_nonneg _ (by decide))]
    refine Int.emod_emod_of_dvd x ?_
    exact Int.natCast_dvd_natCast.2 (Nat.pow_dvd_pow 2 (by omega))
  have h0 : 0 ≤ x % ((2 ^ k : Nat) : Int) := Int.emod_nonneg _ (by omega)
  have h1 : x % ((2 ^ k : Nat) : Int) < ((2 ^ k : Nat) : Int) := Int.emod_lt_of_pos _ (by omega)
  show IntKind.u64.wrap ((BitVec.ofInt 64 x &&& BitVec.ofInt 64 ((2 ^ k - 1 : Nat) : Int)).toNat : Int) = _
  rw [e3, IntKind.wrap_u64]
  omega

/-- A writer of the reference in box q that holds bs, all behind B. -/
def Wq (W : World) (B q : Nat) (bs : List Int) : Prop := ∃ v, Whole W q 70 #[v] ∧ OB W B v bs ∧ B ≤ q

set_option maxRecDepth 100000 in
set_option maxHeartbeats 8000000 in
theorem qint_any (w : World) (B q : Nat) (bs : List Int) (n : Int) (h : Wq w B q bs) (hB : B ≤ w.heap.size) (hl : bs.length ≤ 1000) (hn0 : 0 ≤ n) (hn1 : n < 18446744073709551616) :
    Calls Try.prog 54 #[.pointer (some ⟨q, 0, none⟩), .int .i64 n] w fun e w' => e = .returned (.tuple #[]) ∧ Wq w' B q (bs ++ le n 8) ∧ Below B w w' := by
  obtain ⟨j0, hj0, hy0, hy1, hy2⟩ := info_parts infoByte
  have eu : IntKind.u64.wrap n = n := by rw [IntKind.wrap_u64]; omega
  go_enter Try.func54, Try.ntmps54
  go_wp2_with fail
  go_loopw [5] (fun i wr => ∃ k : Nat, k ≤ 8 ∧ i = .int .i64 k ∧ Wq wr B q (bs ++ le n k) ∧ Below B w wr) (fun i _ => 8 - (intOf i).toNat)
  case atStart => exact ⟨0, by omega, rfl, by simpa [le] using h, Below.refl _ _⟩
  case round =>
    obtain ⟨k, hk, rfl, hw, hb⟩ := hrel
    by_cases hlt : k < 8
    · have q1 : (k : Int) < (8 : Int) := by omega
      obtain ⟨v, hx, ho, hBq⟩ := hw
      have hlen : (bs ++ le n k).length = bs.length + k := by rw [List.length_append, le_len]
      have hBs : B ≤ wr.heap.size := Nat.le_trans hB hb.size
      have ew : IntKind.i64.wrap (8 * (k : Int)) = ((8 * k : Nat) : Int) := by rw [IntKind.wrap_i64]; omega
      have ew2 : IntKind.u64.wrap ((8 * k : Nat) : Int) = ((8 * k : Nat) : Int) := by rw [IntKind.wrap_u64]; omega
      have hsh : Op.shift .shr .u64 n .u64 ((8 * k : Nat) : Int) = pure (.int .u64 (n / 2 ^ (8 * k))) := by
        rw [shift_shr_any _ _ _ _ (by omega), Int.toNat_natCast, Nat.min_eq_left (by show 8 * k ≤ 64; omega)]
      have hbt : bits .and .u64 (n / 2 ^ (8 * k)) 255 = bt n k := bits_masku _ 8 (by decide)
      have hbw : IntKind.u8.wrap (bt n k) = bt n k := by rw [IntKind.wrap_u8]; unfold bt; omega
      unfold OB at ho
      rw [hlen] at ho
      have hne := Lib.hid (own_ne_whole ho hx (by decide))
      obtain ⟨A, c, rfl, _, _, _⟩ := own_shape ho
      have hq := hx.lt
      have c0 : wr.cell? ⟨q, 0, none⟩ = some (.slice A (bs.length + k) c) := hx.cell 0
      replace hx := Lib.hid hx
      replace ho := Lib.hid ho
      replace hlen := Lib.hid hlen
      have hsn := le_snoc n k
      generalize bt n k = t at *
      replace hsn := Lib.hid hsn
      go_wp2_with (at_builtin; refine wpList_append_view _ rfl (.tmp 16) (.tmp 24) _ rfl B 5 j0 (.int .u8 0) 1 1 Try.underlying27 hj0 hy0 hy1 hy2 rfl (by omega) (.slice A (bs.length + k) c) (bs.length + k) _ rfl (ho.out.alloc _) (.slice (some ⟨wr.heap.size, 0, none⟩) 1 1) 1 [bv t] rfl (View.boxAt _ _ _ _ rfl rfl) (by intro u hu; simp only [List.mem_cons, List.not_mem_nil, or_false] at hu; rcases hu with rfl; rfl) (by omega) (by simp only [maxLen]; omega) (by simp; omega) ?_; intro v2 w2 hown2 hg2 _; have x2 := Lib.hid ((hx.out.alloc _).grown hg2 hne.out); have d0 := x2.out.frozen 0; have d1 := x2.out.cell 0; have dq := x2.out.lt; obtain ⟨A2, c2, rfl, _, _, _⟩ := own_shape hown2)
      have hW : Wq (w2.setCell ⟨q, 0, none⟩ (.slice A2 (bs.length + k + 1) c2)) B q (bs ++ le n (k + 1)) := by
        refine ⟨_, x2.out.set 0 _, ?_, hBq⟩
        rw [hsn.out, ← List.append_assoc]
        have h9 : (bs ++ le n k ++ [t]).length = bs.length + k + 1 := by rw [List.length_append, hlen.out]; rfl
        unfold OB
        rw [h9, List.map_append]
        exact own_setCell hown2 (own_ne_whole hown2 x2.out (by decide)) _
      have hbF : Below B w (w2.setCell ⟨q, 0, none⟩ (.slice A2 (bs.length + k + 1) c2)) := ((hb.alloc hBs _).grown hg2 (by simp; omega) (fun j hj => (ho.out.lt j hj).1)).setCell (p := ⟨q, 0, none⟩) hBq _
      replace hW := Lib.hid hW
      replace hbF := Lib.hid hbF
      clear hown2 hg2 x2 d0 d1
      go_roundw
      case rel => exact ⟨k + 1, by omega, by go_num, hW.out, hbF.out⟩
      case measure => simp [intOf]; omega
    · obtain rfl : k = 8 := by omega
      have q1 : ¬ ((8 : Nat) : Int) < (8 : Int) := by omega
      go_wp2_with fail
      go_end0
      exact ⟨rfl, hw, hb⟩

set_option maxRecDepth 100000 in
set_option maxHeartbeats 4000000 in
/-- The mark, its length ahead. -/
theorem qtext_any (w : World) (B q : Nat) (h : Wq w B q []) (hB : B ≤ w.heap.size) :
    Calls Try.prog 53 #[.pointer (some ⟨q, 0, none⟩), .string ⟨#[114, 101, 99]⟩] w fun e w' => e = .returned (.tuple #[]) ∧ Wq w' B q (le 3 2 ++ strL ⟨#[114, 101, 99]⟩) ∧ Below B w w' := by
  obtain ⟨j0, hj0, hy0, hy1, hy2⟩ := info_parts infoByte
  obtain ⟨v, hx, ho, hBq⟩ := h
  unfold OB at ho
  have hne := own_ne_whole ho hx (by decide)
  obtain ⟨A, c, rfl, _, _, _⟩ := own_shape ho
  replace hne : (Value.slice A 0 c).ownBlock ≠ some q := hne
  replace hne := Lib.hid hne
  replace hx : Whole w q 70 #[.slice A 0 c] := hx
  replace ho : w.ownsRow B 5 1 (.slice A 0 c) 0 [] := ho
  have hq := hx.lt
  have c0 : w.cell? ⟨q, 0, none⟩ = some (.slice A 0 c) := hx.cell 0
  replace hx := Lib.hid hx
  replace ho := Lib.hid ho
  have hbt : bits .and .i64 3 255 = 3 := Go.Proofs.PosteMem.bits_mask 3 8 (by decide)
  go_enter Try.func53, Try.ntmps53
  go_upto_region 3 with (at_builtin; refine wpList_append_view _ rfl (.tmp 13) (.tmp 22) _ rfl B 5 j0 (.int .u8 0) 1 1 Try.underlying27 hj0 hy0 hy1 hy2 rfl (by omega) (.slice A 0 c) 0 _ rfl (ho.out.alloc _) (.slice (some ⟨w.heap.size, 0, none⟩) 2 2) 2 [.int .u8 3, .int .u8 0] rfl (View.of_own (own_lit (w := w) (B := 0) (e := 5) (sz := 1) (n := 2) (b := w.heap.size) (xs := [.int .u8 3, .int .u8 0]) rfl (Nat.zero_le _) rfl (by decide))) (by intro u hu; simp only [List.mem_cons, List.not_mem_nil, or_false] at hu; rcases hu with rfl | rfl <;> rfl) (by omega) (by simp only [maxLen]; omega) (by simp; omega) ?_; intro v2 w2 hown2 hg2 _; have x2 := Lib.hid ((hx.out.alloc _).grown hg2 hne.out); have d0 := x2.out.frozen 0; have d1 := x2.out.cell 0; have dq := x2.out.lt; obtain ⟨A2, c2, rfl, _, _, _⟩ := own_shape hown2)
  have hx3 := x2.out.set 0 (.slice A2 2 c2)
  have ho3 : (w2.setCell ⟨q, 0, none⟩ (.slice A2 2 c2)).ownsRow B 5 1 (.slice A2 2 c2) 2 [.int .u8 3, .int .u8 0] := own_setCell hown2 (own_ne_whole hown2 x2.out (by decide)) _
  have hb3 : Below B w (w2.setCell ⟨q, 0, none⟩ (.slice A2 2 c2)) := (((Below.refl B w).alloc hB _).grown hg2 (by simp; omega) (fun j hj => (ho.out.lt j hj).1)).setCell (p := ⟨q, 0, none⟩) hBq _
  generalize w2.setCell ⟨q, 0, none⟩ (.slice A2 2 c2) = w3 at *
  have hne3 := Lib.hid (own_ne_whole ho3 hx3 (by decide))
  have hq3 := hx3.lt
  have t0 : w3.cell? ⟨q, 0, none⟩ = some (.slice A2 2 c2) := hx3.cell 0
  have hBs := hb3.size
  replace hx3 := Lib.hid hx3
  replace ho3 := Lib.hid ho3
  replace hb3 := Lib.hid hb3
  clear hown2 hg2 x2 d0 d1 dq hx ho hne c0
  go_wp2_with (at_builtin; refine Lib.wpList_append_own_string _ rfl (.tmp 30) (.tmp 31) _ _ rfl B 5 j0 Try.underlying27 Try.underlying9 hj0 hy0 hy1 hy2 (.slice A2 2 c2) 2 _ rfl ho3.out ⟨#[114, 101, 99]⟩ rfl (by decide) (by decide) (by omega) ?_; intro v4 w4 hown4 hg4 _; have x4 := Lib.hid (hx3.out.grown hg4 hne3.out); have d0 := x4.out.frozen 0; have d1 := x4.out.cell 0; have dq := x4.out.lt; obtain ⟨A4, c4, rfl, _, _, _⟩ := own_shape hown4)
  go_end0
  refine ⟨rfl, ⟨_, x4.out.set 0 _, ?_, hBq⟩, (hb3.out.grown hg4 (by omega) (fun j hj => (ho3.out.lt j hj).1)).setCell (p := ⟨q, 0, none⟩) hBq _⟩
  exact own_setCell hown4 (own_ne_whole hown4 x4.out (by decide)) _

set_option maxHeartbeats 4000000 in
theorem sameBytes_len (w : World) (v1 v2 : Value) (a b : List (List Int)) (h1 : VL w v1 a) (h2 : VL w v2 b) (hne : a.length ≠ b.length) :
    Calls Try.prog 51 #[v1, v2] w fun e w' => e = .returned (.bool false) ∧ Below w.heap.size w w' := by
  obtain ⟨hs1, g1, g2, g3⟩ := h1
  obtain ⟨hs2, k1, k2, k3⟩ := h2
  obtain ⟨A1, c1, rfl, _, _⟩ := g1.cells
  obtain ⟨A2, c2, rfl, _, _⟩ := k1.cells
  have q1 : ¬ (a.length : Int) = (b.length : Int) := by omega
  clear g1 k1 g2 k2 g3 k3
  go_enter Try.func51, Try.ntmps51
  go_wp2_with fail
  go_ret
  exact ⟨rfl, Below.refl _ _⟩
end Go.Proofs.Ytbfcaapompkjhaa
