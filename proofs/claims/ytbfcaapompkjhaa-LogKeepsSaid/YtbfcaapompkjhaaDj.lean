/-
  SectorsSure, SectorsLast: plain facts; string(b).
-/
import Derived.Test.YtbfcaapompkjhaaDi
import Derived.Laws.BytesString
import Derived.Laws.IdiomStrings
set_option linter.unusedVariables false
set_option linter.unusedSimpArgs false
namespace Go.Proofs.Ytbfcaapompkjhaa
open Go.RowKit Go.Proofs.PosteMem

/-- string(b). -/
def strOf (bs : List Int) : ByteArray := bs.foldl (fun r n => r.push (UInt8.ofNat n.toNat)) ByteArray.empty
theorem conv_any (w : World) (v : Value) (bs : List Int) (hv : VB w v bs) : (convert 27 9 v).run Try.prog w = .ok (.string (strOf bs)) w := by
  obtain ⟨hl, A, cap, rfl, h2, h3, h4, h5⟩ := hv
  rw [run_convert_bytes_string w 27 9 5 A bs.length cap Try.underlying27 Try.underlying5 Try.underlying9]
  cases A with
  | none =>
    have hc := h4 rfl
    have hb : bs = [] := List.eq_nil_of_length_eq_zero (by omega)
    subst hb
    simp [Conv.bytesToString]
    rfl
  | some a =>
    have hl2 := run_loadCells_list (P := Try.prog) w a (bs.map bv) (fun j u hj => h5 a rfl j u hj)
    rw [List.length_map] at hl2
    exact run_bytesToString w a bs.length cap bs hl2

theorem settleN_snoc {kp : List Bool} {U : List (Nat × List Int)} {x : Nat × List Int} {S : List (List Int)} : ∀ i, i ≤ U.length → settleN kp (U ++ [x]) S i = settleN kp U S i
  | 0, _ => rfl
  | i + 1, hi => by
    by_cases hk : kp[i]? = some true
    · rw [settleN_put (by simp; omega) hk, settleN_put (by omega) hk, settleN_snoc i (by omega), List.getElem_append_left (by omega)]
    · rw [settleN_skip hk, settleN_skip hk, settleN_snoc i (by omega)]
theorem map_set_fill (Wn : List Int) (m : Nat) (c : Int) : (Wn.map (fillL 64)).set m (fillL 64 c) = (Wn.set m c).map (fillL 64) := by rw [List.map_set]

/-- Ahead of the Sync. -/
structure S1 (n i : Nat) (D : Dk) (Wn : List Int) : Prop where
  ok : D.ok
  now : D.now = Wn.map (fillL 64)
  len : Wn.length = n
  broken : D.broken = false
  left : D.left = -1
  uns : D.uns.length ≤ i
  written : D.written ≤ i
theorem s1_start (n : Nat) (hn : n ≤ 4096) : S1 n 0 (Dk.new n) (List.replicate n 0) := by
  refine ⟨new_ok n hn, ?_, by simp, rfl, rfl, by simp [Dk.new], by simp [Dk.new]⟩
  rw [List.map_replicate]
  rfl
theorem s1_write {n i : Nat} {D : Dk} {Wn : List Int} (h : S1 n i D Wn) (m : Nat) (hm : m < n) (c : Int) : (D.write m (fillL 64 c)).2 = true ∧ S1 n (i + 1) (D.write m (fillL 64 c)).1 (Wn.set m c) := by
  have hl : D.now.length = n := by rw [h.now, List.length_map, h.len]
  have hok := write_ok h.ok m (fillL 64 c)
  rw [write_yes (by omega) (by omega) (fillL_len 64 c) h.broken] at hok ⊢
  have h1 := h.left
  have h2 := h.uns
  have h3 := h.written
  refine ⟨rfl, hok, ?_, by simpa using h.len, ?_, ?_, ?_, ?_⟩
  · show D.now.set (m : Int).toNat _ = _
    rw [Int.toNat_natCast, h.now, map_set_fill]
  · show decide (D.left = 1) = false
    rw [h1]; rfl
  · show (if 0 < D.left then D.left - 1 else D.left) = -1
    rw [if_neg (by omega), h1]
  · show (D.uns ++ [_]).length ≤ i + 1
    simp; omega
  · show D.written + 1 ≤ i + 1
    omega
/-- Behind it: what a crash would leave is Wn. -/
structure S2 (kp : List Bool) (n N i : Nat) (D : Dk) (Wn : List Int) : Prop where
  ok : D.ok
  dlen : D.now.length = n
  len : Wn.length = n
  broken : D.broken = false
  left : D.left = -1
  uns : D.uns.length = i
  written : D.written ≤ N + i
  set : settleN kp D.uns D.sure i = Wn.map (fillL 64)
theorem s2_start {kp : List Bool} {n N : Nat} {D : Dk} {Wn : List Int} (h : S1 n N D Wn) : D.sync.2 = true ∧ S2 kp n N 0 D.sync.1 Wn := by
  have hok := sync_ok h.ok
  unfold Dk.sync at hok ⊢
  rw [if_neg (by simp [h.broken])] at hok ⊢
  exact ⟨rfl, hok, by show D.now.length = n; rw [h.now, List.length_map, h.len], h.len, h.broken, h.left, rfl, by have := h.written; simpa using this, h.now⟩
theorem s2_write {kp : List Bool} {n N i : Nat} {D : Dk} {Wn : List Int} (h : S2 kp n N i D Wn) (m : Nat) (hm : m < n) (c : Int) :
    (D.write m (fillL 64 c)).2 = true ∧ (kp[i]? = some true → S2 kp n N (i + 1) (D.write m (fillL 64 c)).1 (Wn.set m c)) ∧ (¬ kp[i]? = some true → S2 kp n N (i + 1) (D.write m (fillL 64 c)).1 Wn) := by
  have hok := write_ok h.ok m (fillL 64 c)
  have hdl := h.dlen
  rw [write_yes (by omega) (by omega) (fillL_len 64 c) h.broken] at hok ⊢
  have h1 := h.left
  have h2 := h.uns
  have h3 := h.written
  have hb : decide (D.left = 1) = false := by rw [h1]; rfl
  have hl : (if 0 < D.left then D.left - 1 else D.left) = -1 := by rw [if_neg (by omega), h1]
  have hx : (D.uns ++ [((m : Int).toNat, fillL 64 c)])[i]'(by simp; omega) = (m, fillL 64 c) := by
    rw [List.getElem_append_right (by omega)]
    simp
  refine ⟨rfl, fun hk => ?_, fun hk => ?_⟩
  · refine ⟨hok, by simpa using hdl, by simpa using h.len, hb, hl, by show (D.uns ++ [_]).length = i + 1; simp; omega, by show D.written + 1 ≤ _; omega, ?_⟩
    show settleN kp (D.uns ++ [((m : Int).toNat, fillL 64 c)]) D.sure (i + 1) = _
    rw [settleN_put (by simp; omega) hk, settleN_snoc i (by omega), h.set, hx, map_set_fill]
  · refine ⟨hok, by simpa using hdl, h.len, hb, hl, by show (D.uns ++ [_]).length = i + 1; simp; omega, by show D.written + 1 ≤ _; omega, ?_⟩
    show settleN kp (D.uns ++ [((m : Int).toNat, fillL 64 c)]) D.sure (i + 1) = _
    rw [settleN_skip hk, settleN_snoc i (by omega), h.set]
theorem s2_crash {kp : List Bool} {n N i : Nat} {D : Dk} {Wn : List Int} (h : S2 kp n N i D Wn) : (D.crash kp).ok ∧ (D.crash kp).now = Wn.map (fillL 64) := by
  refine ⟨crash_ok h.ok kp, ?_⟩
  show settleN kp D.uns D.sure D.uns.length = _
  rw [h.uns, h.set]
theorem read_fill {D : Dk} {Wn : List Int} (h : D.now = Wn.map (fillL 64)) (i : Nat) (hi : i < Wn.length) : D.read i = fillL 64 Wn[i] := by
  rw [read_in (by rw [h, List.length_map]; exact hi)]
  simp [h]
theorem and15 (x : Int) : ∃ m : Nat, m < 16 ∧ bits .and .i64 x 15 = (m : Int) := by
  obtain ⟨m, h1, h2, _⟩ := bits_mask_ex x 4 (by decide)
  exact ⟨m, h1, h2⟩
end Go.Proofs.Ytbfcaapompkjhaa
