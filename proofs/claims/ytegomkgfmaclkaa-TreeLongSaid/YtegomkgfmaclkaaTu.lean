/-
  postelaw8.key, and what the rows of a tree are whatever their order.
-/
import Derived.Test.YtegomkgfmaclkaaTt
import Derived.BigQuiet
set_option linter.unusedVariables false
set_option linter.unusedSimpArgs false
namespace Go.Proofs.Ytegomkgfmaclkaa
open Go.RowKit Go.Proofs.PosteOrd Go.Proofs.PosteMem Go.Proofs.PosteOpen

def abc : ByteArray := ⟨#[97, 98, 99, 100, 101, 102, 103, 104, 105, 106, 107, 108, 109, 110, 111, 112, 113, 114, 115, 116]⟩
def chr (k : Nat) : UInt8 := (97 + k).toUInt8
def keyN (n : Nat) : ByteArray := ⟨#[chr (n / 400 % 20), chr (n / 20 % 20), chr (n % 20)]⟩
theorem abc_one : ∀ k, k < 20 → abc.extract k (k + 1) = ⟨#[chr k]⟩ := by
  intro k hk
  have : ∀ k : Fin 20, abc.extract k.1 (k.1 + 1) = ⟨#[chr k.1]⟩ := by decide
  exact this ⟨k, hk⟩

set_option maxRecDepth 100000 in
set_option maxHeartbeats 4000000 in
theorem keyN_any (w : World) (n : Nat) (hn : n < 8000) : Calls Try.prog 47 #[.int .i64 n] w fun e w' => e = .returned (.string (keyN n)) ∧ Same w w' := by
  have f1 : Int.tdiv (n : Int) 400 = ((n / 400 : Nat) : Int) := by rw [Int.tdiv_eq_ediv_of_nonneg (by omega)]; omega
  have f2 : Int.tdiv (n : Int) 20 = ((n / 20 : Nat) : Int) := by rw [Int.tdiv_eq_ediv_of_nonneg (by omega)]; omega
  have f3 : Int.tmod ((n / 400 : Nat) : Int) 20 = ((n / 400 % 20 : Nat) : Int) := by rw [Int.tmod_eq_emod_of_nonneg (by omega)]; omega
  have f4 : Int.tmod ((n / 20 : Nat) : Int) 20 = ((n / 20 % 20 : Nat) : Int) := by rw [Int.tmod_eq_emod_of_nonneg (by omega)]; omega
  have f5 : Int.tmod (n : Int) 20 = ((n % 20 : Nat) : Int) := by rw [Int.tmod_eq_emod_of_nonneg (by omega)]; omega
  have a1 : n / 400 % 20 < 20 := by omega
  have a2 : n / 20 % 20 < 20 := by omega
  have a3 : n % 20 < 20 := by omega
  have x1 := Lib.hid (abc_one _ a1)
  have x2 := Lib.hid (abc_one _ a2)
  have x3 := Lib.hid (abc_one _ a3)
  unfold keyN
  have g1 : n / 400 < 20 := by omega
  have g2 : n / 20 < 400 := by omega
  generalize n / 400 % 20 = c1 at *
  generalize n / 20 % 20 = c2 at *
  generalize n % 20 = c3 at *
  generalize n / 400 = d1 at *
  generalize n / 20 = d2 at *
  have e1 : IntKind.i64.wrap ((c1 : Int) + 1) = ((c1 + 1 : Nat) : Int) := by rw [IntKind.wrap_i64]; omega
  have e2 : IntKind.i64.wrap ((c2 : Int) + 1) = ((c2 + 1 : Nat) : Int) := by rw [IntKind.wrap_i64]; omega
  have e3 : IntKind.i64.wrap ((c3 : Int) + 1) = ((c3 + 1 : Nat) : Int) := by rw [IntKind.wrap_i64]; omega
  have u1 : c1 + 1 ≤ 20 := by omega
  have u2 : c2 + 1 ≤ 20 := by omega
  have u3 : c3 + 1 ≤ 20 := by omega
  have t1 : ((c1 : Int) + 1).toNat = c1 + 1 := by omega
  have t2 : ((c2 : Int) + 1).toNat = c2 + 1 := by omega
  have t3 : ((c3 : Int) + 1).toNat = c3 + 1 := by omega
  have v1 : (c1 : Int) ≤ (c1 : Int) + 1 := by omega
  have v2 : (c2 : Int) ≤ (c2 : Int) + 1 := by omega
  have v3 : (c3 : Int) ≤ (c3 : Int) + 1 := by omega
  have s1 : (c1 : Int) + 1 ≤ 20 := by omega
  have s2 : (c2 : Int) + 1 ≤ 20 := by omega
  have s3 : (c3 : Int) + 1 ≤ 20 := by omega
  go_enter Try.func47, Try.ntmps47
  go_upto_region 2 with fail
  go_quiet (fail)
  go_wp2_with fail
  go_ret
  refine ⟨?_, nq, rfl⟩
  have y1 := x1.out
  have y2 := x2.out
  have y3 := x3.out
  unfold abc at y1 y2 y3
  rw [y1, y2, y3]
  rfl

theorem chr_inj {a b : Nat} (ha : a < 20) (hb : b < 20) (h : chr a = chr b) : a = b := by
  have : ∀ a b : Fin 20, chr a.1 = chr b.1 → a = b := by decide
  exact congrArg Fin.val (this ⟨a, ha⟩ ⟨b, hb⟩ h)
theorem keyN_inj {a b : Nat} (ha : a < 8000) (hb : b < 8000) (h : keyN a = keyN b) : a = b := by
  unfold keyN at h
  injection h with h
  have h1 : ([chr (a / 400 % 20), chr (a / 20 % 20), chr (a % 20)] : List UInt8) = [chr (b / 400 % 20), chr (b / 20 % 20), chr (b % 20)] := by injection h
  injection h1 with e1 h1
  injection h1 with e2 h1
  injection h1 with e3 h1
  have d1 := chr_inj (by omega) (by omega) e1
  have d2 := chr_inj (by omega) (by omega) e2
  have d3 := chr_inj (by omega) (by omega) e3
  omega
theorem putS_has (L : List Row) (x : Row) : x ∈ putS L x := by
  induction L with
  | nil => rw [putS_nil]; exact List.mem_cons_self
  | cons z L ih =>
    rw [putS_cons]
    split
    · exact List.mem_cons_of_mem _ ih
    · split
      · exact List.mem_cons_self
      · exact List.mem_cons_self
theorem putS_old {L : List Row} {x y : Row} (h : y ∈ L) : y ∈ putS L x ∨ y.key = x.key := by
  induction L with
  | nil => cases h
  | cons z L ih =>
    rw [putS_cons]
    split
    · rcases List.mem_cons.1 h with rfl | h
      · exact .inl List.mem_cons_self
      · rcases ih h with h | h
        · exact .inl (List.mem_cons_of_mem _ h)
        · exact .inr h
    · split
      · rename_i he
        rcases List.mem_cons.1 h with rfl | h
        · exact .inr (bytes_inj (cmpL_eq.1 he))
        · exact .inl (List.mem_cons_of_mem _ h)
      · exact .inl (List.mem_cons_of_mem _ h)
theorem srt_ext {L M : List Row} (hL : Srt L) (hM : Srt M) (h : ∀ y, y ∈ L ↔ y ∈ M) : L = M := by
  induction L generalizing M with
  | nil =>
    cases M with
    | nil => rfl
    | cons y M => exact absurd ((h y).2 List.mem_cons_self) (by simp)
  | cons x L ih =>
    cases M with
    | nil => exact absurd ((h x).1 List.mem_cons_self) (by simp)
    | cons y M =>
      have hL' := List.pairwise_cons.1 hL
      have hM' := List.pairwise_cons.1 hM
      have e : x = y := by
        rcases List.mem_cons.1 ((h x).1 List.mem_cons_self) with e | h1
        · exact e
        · rcases List.mem_cons.1 ((h y).2 List.mem_cons_self) with e | h2
          · exact e.symm
          · exact (lt_asymm (hL'.1 _ h2) (hM'.1 _ h1)).elim
      subst e
      rw [ih hL'.2 hM'.2 fun z => ⟨fun hz => by
        rcases List.mem_cons.1 ((h z).1 (List.mem_cons_of_mem _ hz)) with rfl | h1
        · exact (lt_irrefl _ (hL'.1 _ hz)).elim
        · exact h1, fun hz => by
        rcases List.mem_cons.1 ((h z).2 (List.mem_cons_of_mem _ hz)) with rfl | h1
        · exact (lt_irrefl _ (hM'.1 _ hz)).elim
        · exact h1⟩]
/-- Where no key is there twice, hit says whether a row with that key is there. -/
theorem hit_mem {L : List Row} {key : ByteArray} (h : Srt L) : hit L key = true ↔ ∃ r ∈ L, r.key = key := by
  constructor
  · intro hh
    obtain ⟨r, h1, h2⟩ := hit_iff.1 hh
    exact ⟨r, List.mem_of_getElem? h1, h2⟩
  · rintro ⟨r, hr, rfl⟩
    obtain ⟨i, hi, rfl⟩ := List.getElem_of_mem hr
    have hp : pos L L[i].key = i := pos_eq (by omega) (fun j hj hji => srt_lt h hji hi) (fun hj => lt_irrefl _)
    exact hit_iff.2 ⟨L[i], by rw [hp]; exact List.getElem?_eq_getElem hi, rfl⟩
end Go.Proofs.Ytegomkgfmaclkaa
