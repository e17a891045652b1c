/-
  No cell of these rows narrows 'for every input' (looked for: loops, veiled, ifaces, maps, wideKeys, modest, calm, conditions, laid).
  DERIVED. THE GIVEN ROWS OF THIS SEAT. 12 by the template 'for every input the law returns true; each argument reads behind the call as it read before'; 0 by the template 'total and deterministic' (their statements: YtbfcaapompkjhaaTotals.lean).
  GIVEN WITH THE SEED: the statements are not yours to turn. If you find one false, say at which input.
  Laid BY PROGRAM, IN A SANDBOX (cutbox-rows.mjs): the forced cells as the released guide's own fill.sh prints them over the translation 50024c7fb387953b… (all of the seat's roots in one cut). By AI agents, Wed Nov 11 2026. No macro, syntax, notation, axiom, sorry.
-/
import Derived.Test.YtbfcaapompkjhaaChecked
import GoSem.Claim
import GoSem.ClaimJoined
import GoSem.ClaimMapViews
import Derived.JoinedTies
import Derived.KernelRfl
namespace Go.Proofs.Ytbfcaapompkjhaa
/- THE CELL 'sum', in the pinned program and in every row, IS THE sha256 OF THE DUMP (.gsa) THAT YtbfcaapompkjhaaProg.lean LOADS. Nothing in Lean hashes anything: it is a label: what it is worth is what the hold of that sum in a sandbox is worth. -/
noncomputable def Try.pinned : Pinned := { name := "ytbfcaapompkjhaa", sum := "50024c7fb387953b8265dee7c8869b9cf810f5bac422cc33beee205ed7929e82", checked := Try.checked }
namespace Rows
def none {H : Type} : Left H := { results := [], args := [] }

/-- 'postelaw3.SectorsSure': WHATEVER THE INPUT: true; the input reads as it did. -/
def sectorsSureSpec : ChangeSpec := { name := "sectorsSure", fn := fun _ => fun
  | [d1, d2, d3] => { results := [.lit (.bool true)], args := [d1, d2, d3] }
  | _ => none }
def sectorsSureRow : OpenClaim := { program := "ytbfcaapompkjhaa", sum := "50024c7fb387953b8265dee7c8869b9cf810f5bac422cc33beee205ed7929e82", func := "poste/postelaw3.SectorsSure", spec := "sectorsSure", apart := false }
def SectorsSureSaid : Prop := sectorsSureRow.holds Try.pinned (OpenSpec.ofChange sectorsSureSpec)

/-- ITS FALSE NEIGHBOUR: 'it returns false'. Refute it at one input. -/
def sectorsSureWrong : ChangeSpec := { name := "sectorsSure", fn := fun _ => fun
  | [d1, d2, d3] => { results := [.lit (.bool false)], args := [d1, d2, d3] }
  | _ => none }
def SectorsSureWrongFalsely : Prop := sectorsSureRow.holds Try.pinned (OpenSpec.ofChange sectorsSureWrong)

/-- 'postelaw3.SectorsLast': WHATEVER THE INPUT: true; the input reads as it did. -/
def sectorsLastSpec : ChangeSpec := { name := "sectorsLast", fn := fun _ => fun
  | [d1, d2, d3] => { results := [.lit (.bool true)], args := [d1, d2, d3] }
  | _ => none }
def sectorsLastRow : OpenClaim := { program := "ytbfcaapompkjhaa", sum := "50024c7fb387953b8265dee7c8869b9cf810f5bac422cc33beee205ed7929e82", func := "poste/postelaw3.SectorsLast", spec := "sectorsLast", apart := false }
def SectorsLastSaid : Prop := sectorsLastRow.holds Try.pinned (OpenSpec.ofChange sectorsLastSpec)

/-- ITS FALSE NEIGHBOUR: 'it returns false'. Refute it at one input. -/
def sectorsLastWrong : ChangeSpec := { name := "sectorsLast", fn := fun _ => fun
  | [d1, d2, d3] => { results := [.lit (.bool false)], args := [d1, d2, d3] }
  | _ => none }
def SectorsLastWrongFalsely : Prop := sectorsLastRow.holds Try.pinned (OpenSpec.ofChange sectorsLastWrong)

/-- 'postelaw3.SectorsPlay': WHATEVER THE INPUT: true; the input reads as it did. -/
def sectorsPlaySpec : ChangeSpec := { name := "sectorsPlay", fn := fun _ => fun
  | [d1, d2] => { results := [.lit (.bool true)], args := [d1, d2] }
  | _ => none }
def sectorsPlayRow : OpenClaim := { program := "ytbfcaapompkjhaa", sum := "50024c7fb387953b8265dee7c8869b9cf810f5bac422cc33beee205ed7929e82", func := "poste/postelaw3.SectorsPlay", spec := "sectorsPlay", apart := false }
def SectorsPlaySaid : Prop := sectorsPlayRow.holds Try.pinned (OpenSpec.ofChange sectorsPlaySpec)

/-- ITS FALSE NEIGHBOUR: 'it returns false'. Refute it at one input. -/
def sectorsPlayWrong : ChangeSpec := { name := "sectorsPlay", fn := fun _ => fun
  | [d1, d2] => { results := [.lit (.bool false)], args := [d1, d2] }
  | _ => none }
def SectorsPlayWrongFalsely : Prop := sectorsPlayRow.holds Try.pinned (OpenSpec.ofChange sectorsPlayWrong)

/-- 'postelaw3.SectorsBreak': WHATEVER THE INPUT: true; the input reads as it did. -/
def sectorsBreakSpec : ChangeSpec := { name := "sectorsBreak", fn := fun _ => fun
  | [d1, d2] => { results := [.lit (.bool true)], args := [d1, d2] }
  | _ => none }
def sectorsBreakRow : OpenClaim := { program := "ytbfcaapompkjhaa", sum := "50024c7fb387953b8265dee7c8869b9cf810f5bac422cc33beee205ed7929e82", func := "poste/postelaw3.SectorsBreak", spec := "sectorsBreak", apart := false }
def SectorsBreakSaid : Prop := sectorsBreakRow.holds Try.pinned (OpenSpec.ofChange sectorsBreakSpec)

/-- ITS FALSE NEIGHBOUR: 'it returns false'. Refute it at one input. -/
def sectorsBreakWrong : ChangeSpec := { name := "sectorsBreak", fn := fun _ => fun
  | [d1, d2] => { results := [.lit (.bool false)], args := [d1, d2] }
  | _ => none }
def SectorsBreakWrongFalsely : Prop := sectorsBreakRow.holds Try.pinned (OpenSpec.ofChange sectorsBreakWrong)

/-- 'postelaw4.SpanKeeps': WHATEVER THE INPUT: true; the input reads as it did. -/
def spanKeepsSpec : ChangeSpec := { name := "spanKeeps", fn := fun _ => fun
  | [d1, d2] => { results := [.lit (.bool true)], args := [d1, d2] }
  | _ => none }
def spanKeepsRow : OpenClaim := { program := "ytbfcaapompkjhaa", sum := "50024c7fb387953b8265dee7c8869b9cf810f5bac422cc33beee205ed7929e82", func := "poste/postelaw4.SpanKeeps", spec := "spanKeeps", apart := false }
def SpanKeepsSaid : Prop := spanKeepsRow.holds Try.pinned (OpenSpec.ofChange spanKeepsSpec)

/-- ITS FALSE NEIGHBOUR: 'it returns false'. Refute it at one input. -/
def spanKeepsWrong : ChangeSpec := { name := "spanKeeps", fn := fun _ => fun
  | [d1, d2] => { results := [.lit (.bool false)], args := [d1, d2] }
  | _ => none }
def SpanKeepsWrongFalsely : Prop := spanKeepsRow.holds Try.pinned (OpenSpec.ofChange spanKeepsWrong)

/-- 'postelaw4.SpanNeeds': WHATEVER THE INPUT: true; the input reads as it did. -/
def spanNeedsSpec : ChangeSpec := { name := "spanNeeds", fn := fun _ => fun
  | [d1, d2] => { results := [.lit (.bool true)], args := [d1, d2] }
  | _ => none }
def spanNeedsRow : OpenClaim := { program := "ytbfcaapompkjhaa", sum := "50024c7fb387953b8265dee7c8869b9cf810f5bac422cc33beee205ed7929e82", func := "poste/postelaw4.SpanNeeds", spec := "spanNeeds", apart := false }
def SpanNeedsSaid : Prop := spanNeedsRow.holds Try.pinned (OpenSpec.ofChange spanNeedsSpec)

/-- ITS FALSE NEIGHBOUR: 'it returns false'. Refute it at one input. -/
def spanNeedsWrong : ChangeSpec := { name := "spanNeeds", fn := fun _ => fun
  | [d1, d2] => { results := [.lit (.bool false)], args := [d1, d2] }
  | _ => none }
def SpanNeedsWrongFalsely : Prop := spanNeedsRow.holds Try.pinned (OpenSpec.ofChange spanNeedsWrong)

/-- 'postelaw4.SpanPuts': WHATEVER THE INPUT: true; the input reads as it did. -/
def spanPutsSpec : ChangeSpec := { name := "spanPuts", fn := fun _ => fun
  | [d1, d2, d3, d4, d5, d6] => { results := [.lit (.bool true)], args := [d1, d2, d3, d4, d5, d6] }
  | _ => none }
def spanPutsRow : OpenClaim := { program := "ytbfcaapompkjhaa", sum := "50024c7fb387953b8265dee7c8869b9cf810f5bac422cc33beee205ed7929e82", func := "poste/postelaw4.SpanPuts", spec := "spanPuts", apart := false }
def SpanPutsSaid : Prop := spanPutsRow.holds Try.pinned (OpenSpec.ofChange spanPutsSpec)

/-- ITS FALSE NEIGHBOUR: 'it returns false'. Refute it at one input. -/
def spanPutsWrong : ChangeSpec := { name := "spanPuts", fn := fun _ => fun
  | [d1, d2, d3, d4, d5, d6] => { results := [.lit (.bool false)], args := [d1, d2, d3, d4, d5, d6] }
  | _ => none }
def SpanPutsWrongFalsely : Prop := spanPutsRow.holds Try.pinned (OpenSpec.ofChange spanPutsWrong)

/-- 'postelaw6.RootsLast': WHATEVER THE INPUT: true; the input reads as it did. -/
def rootsLastSpec : ChangeSpec := { name := "rootsLast", fn := fun _ => fun
  | [d1, d2] => { results := [.lit (.bool true)], args := [d1, d2] }
  | _ => none }
def rootsLastRow : OpenClaim := { program := "ytbfcaapompkjhaa", sum := "50024c7fb387953b8265dee7c8869b9cf810f5bac422cc33beee205ed7929e82", func := "poste/postelaw6.RootsLast", spec := "rootsLast", apart := false }
def RootsLastSaid : Prop := rootsLastRow.holds Try.pinned (OpenSpec.ofChange rootsLastSpec)

/-- ITS FALSE NEIGHBOUR: 'it returns false'. Refute it at one input. -/
def rootsLastWrong : ChangeSpec := { name := "rootsLast", fn := fun _ => fun
  | [d1, d2] => { results := [.lit (.bool false)], args := [d1, d2] }
  | _ => none }
def RootsLastWrongFalsely : Prop := rootsLastRow.holds Try.pinned (OpenSpec.ofChange rootsLastWrong)

/-- 'postelaw6.RootsTurn': WHATEVER THE INPUT: true; the input reads as it did. -/
def rootsTurnSpec : ChangeSpec := { name := "rootsTurn", fn := fun _ => fun
  | [d1, d2, d3] => { results := [.lit (.bool true)], args := [d1, d2, d3] }
  | _ => none }
def rootsTurnRow : OpenClaim := { program := "ytbfcaapompkjhaa", sum := "50024c7fb387953b8265dee7c8869b9cf810f5bac422cc33beee205ed7929e82", func := "poste/postelaw6.RootsTurn", spec := "rootsTurn", apart := false }
def RootsTurnSaid : Prop := rootsTurnRow.holds Try.pinned (OpenSpec.ofChange rootsTurnSpec)

/-- ITS FALSE NEIGHBOUR: 'it returns false'. Refute it at one input. -/
def rootsTurnWrong : ChangeSpec := { name := "rootsTurn", fn := fun _ => fun
  | [d1, d2, d3] => { results := [.lit (.bool false)], args := [d1, d2, d3] }
  | _ => none }
def RootsTurnWrongFalsely : Prop := rootsTurnRow.holds Try.pinned (OpenSpec.ofChange rootsTurnWrong)

/-- 'postelaw5.LogEpochs': WHATEVER THE INPUT: true; the input reads as it did. -/
def logEpochsSpec : ChangeSpec := { name := "logEpochs", fn := fun _ => fun
  | [d1, d2] => { results := [.lit (.bool true)], args := [d1, d2] }
  | _ => none }
def logEpochsRow : OpenClaim := { program := "ytbfcaapompkjhaa", sum := "50024c7fb387953b8265dee7c8869b9cf810f5bac422cc33beee205ed7929e82", func := "poste/postelaw5.LogEpochs", spec := "logEpochs", apart := false }
def LogEpochsSaid : Prop := logEpochsRow.holds Try.pinned (OpenSpec.ofChange logEpochsSpec)

/-- ITS FALSE NEIGHBOUR: 'it returns false'. Refute it at one input. -/
def logEpochsWrong : ChangeSpec := { name := "logEpochs", fn := fun _ => fun
  | [d1, d2] => { results := [.lit (.bool false)], args := [d1, d2] }
  | _ => none }
def LogEpochsWrongFalsely : Prop := logEpochsRow.holds Try.pinned (OpenSpec.ofChange logEpochsWrong)

/-- 'postelaw5.LogRoom': WHATEVER THE INPUT: true; the input reads as it did. -/
def logRoomSpec : ChangeSpec := { name := "logRoom", fn := fun _ => fun
  | [d1, d2, d3] => { results := [.lit (.bool true)], args := [d1, d2, d3] }
  | _ => none }
def logRoomRow : OpenClaim := { program := "ytbfcaapompkjhaa", sum := "50024c7fb387953b8265dee7c8869b9cf810f5bac422cc33beee205ed7929e82", func := "poste/postelaw5.LogRoom", spec := "logRoom", apart := false }
def LogRoomSaid : Prop := logRoomRow.holds Try.pinned (OpenSpec.ofChange logRoomSpec)

/-- ITS FALSE NEIGHBOUR: 'it returns false'. Refute it at one input. -/
def logRoomWrong : ChangeSpec := { name := "logRoom", fn := fun _ => fun
  | [d1, d2, d3] => { results := [.lit (.bool false)], args := [d1, d2, d3] }
  | _ => none }
def LogRoomWrongFalsely : Prop := logRoomRow.holds Try.pinned (OpenSpec.ofChange logRoomWrong)

/-- 'postelaw5.LogKeeps': WHATEVER THE INPUT: true; the input reads as it did. -/
def logKeepsSpec : ChangeSpec := { name := "logKeeps", fn := fun _ => fun
  | [d1, d2, d3, d4] => { results := [.lit (.bool true)], args := [d1, d2, d3, d4] }
  | _ => none }
def logKeepsRow : OpenClaim := { program := "ytbfcaapompkjhaa", sum := "50024c7fb387953b8265dee7c8869b9cf810f5bac422cc33beee205ed7929e82", func := "poste/postelaw5.LogKeeps", spec := "logKeeps", apart := false }
def LogKeepsSaid : Prop := logKeepsRow.holds Try.pinned (OpenSpec.ofChange logKeepsSpec)

/-- ITS FALSE NEIGHBOUR: 'it returns false'. Refute it at one input. -/
def logKeepsWrong : ChangeSpec := { name := "logKeeps", fn := fun _ => fun
  | [d1, d2, d3, d4] => { results := [.lit (.bool false)], args := [d1, d2, d3, d4] }
  | _ => none }
def LogKeepsWrongFalsely : Prop := logKeepsRow.holds Try.pinned (OpenSpec.ofChange logKeepsWrong)

/- THE SECOND FORM. 'bulk': how many values and letters a reading holds, each counted each time it is reached (what is shared counts as often as it is met; a slice's spare places count too). A statement '..UptoSaid' is the law's where the arguments, and the package variables that the reading takes, are together of bulk at most 1048576: NARROWER than '..Said'. Prove '..Said' where nothing that the law and all that it calls make is longer than what came in: it says more and counts as full. Else prove '..UptoSaid'. A law counts once. -/
mutual
def uptoBulk {H : Type} : DataW H → Nat
  | .lit (.string bytes) => bytes.length + 1
  | .lit _ => 1
  | .nil => 1
  | .ptr d => uptoBulk d + 1
  | .slice elems spare => uptoBulkAll elems + uptoBulkAll spare + 1
  | .agg parts => uptoBulkAll parts + 1
  | .iface _ d => uptoBulk d + 1
  | .map entries => uptoBulkEntries entries + 1
  | .held _ => 1
def uptoBulkAll {H : Type} : List (DataW H) → Nat
  | [] => 0
  | d :: r => uptoBulk d + uptoBulkAll r
def uptoBulkEntries {H : Type} : List (Lit × DataW H) → Nat
  | [] => 0
  | x :: r => uptoBulkEntry x + uptoBulkEntries r
def uptoBulkEntry {H : Type} : Lit × DataW H → Nat
  | (.string bytes, d) => bytes.length + uptoBulk d + 1
  | (_, d) => uptoBulk d + 1
 end
def uptoSmall : (H : Type) → List (DataW H) → Bool := fun _ ds => decide (uptoBulkAll ds ≤ 1048576)
def OpenSpec.upto (s : _root_.Go.ChangeSpec) : _root_.Go.OpenSpec := { _root_.Go.OpenSpec.ofChange s with cond := some uptoSmall }

/-- 'postelaw3.SectorsSure', WHERE WHAT IT READS IS OF BULK AT MOST 1048576: true; the input reads as it did. -/
def sectorsSureUptoRow : OpenClaim := { program := "ytbfcaapompkjhaa", sum := "50024c7fb387953b8265dee7c8869b9cf810f5bac422cc33beee205ed7929e82", func := "poste/postelaw3.SectorsSure", spec := "sectorsSure", apart := false, narrowed := true }
def SectorsSureUptoSaid : Prop := sectorsSureUptoRow.holds Try.pinned (OpenSpec.upto sectorsSureSpec)

/-- 'postelaw3.SectorsLast', WHERE WHAT IT READS IS OF BULK AT MOST 1048576: true; the input reads as it did. -/
def sectorsLastUptoRow : OpenClaim := { program := "ytbfcaapompkjhaa", sum := "50024c7fb387953b8265dee7c8869b9cf810f5bac422cc33beee205ed7929e82", func := "poste/postelaw3.SectorsLast", spec := "sectorsLast", apart := false, narrowed := true }
def SectorsLastUptoSaid : Prop := sectorsLastUptoRow.holds Try.pinned (OpenSpec.upto sectorsLastSpec)

/-- 'postelaw3.SectorsPlay', WHERE WHAT IT READS IS OF BULK AT MOST 1048576: true; the input reads as it did. -/
def sectorsPlayUptoRow : OpenClaim := { program := "ytbfcaapompkjhaa", sum := "50024c7fb387953b8265dee7c8869b9cf810f5bac422cc33beee205ed7929e82", func := "poste/postelaw3.SectorsPlay", spec := "sectorsPlay", apart := false, narrowed := true }
def SectorsPlayUptoSaid : Prop := sectorsPlayUptoRow.holds Try.pinned (OpenSpec.upto sectorsPlaySpec)

/-- 'postelaw3.SectorsBreak', WHERE WHAT IT READS IS OF BULK AT MOST 1048576: true; the input reads as it did. -/
def sectorsBreakUptoRow : OpenClaim := { program := "ytbfcaapompkjhaa", sum := "50024c7fb387953b8265dee7c8869b9cf810f5bac422cc33beee205ed7929e82", func := "poste/postelaw3.SectorsBreak", spec := "sectorsBreak", apart := false, narrowed := true }
def SectorsBreakUptoSaid : Prop := sectorsBreakUptoRow.holds Try.pinned (OpenSpec.upto sectorsBreakSpec)

/-- 'postelaw4.SpanKeeps', WHERE WHAT IT READS IS OF BULK AT MOST 1048576: true; the input reads as it did. -/
def spanKeepsUptoRow : OpenClaim := { program := "ytbfcaapompkjhaa", sum := "50024c7fb387953b8265dee7c8869b9cf810f5bac422cc33beee205ed7929e82", func := "poste/postelaw4.SpanKeeps", spec := "spanKeeps", apart := false, narrowed := true }
def SpanKeepsUptoSaid : Prop := spanKeepsUptoRow.holds Try.pinned (OpenSpec.upto spanKeepsSpec)

/-- 'postelaw4.SpanNeeds', WHERE WHAT IT READS IS OF BULK AT MOST 1048576: true; the input reads as it did. -/
def spanNeedsUptoRow : OpenClaim := { program := "ytbfcaapompkjhaa", sum := "50024c7fb387953b8265dee7c8869b9cf810f5bac422cc33beee205ed7929e82", func := "poste/postelaw4.SpanNeeds", spec := "spanNeeds", apart := false, narrowed := true }
def SpanNeedsUptoSaid : Prop := spanNeedsUptoRow.holds Try.pinned (OpenSpec.upto spanNeedsSpec)

/-- 'postelaw4.SpanPuts', WHERE WHAT IT READS IS OF BULK AT MOST 1048576: true; the input reads as it did. -/
def spanPutsUptoRow : OpenClaim := { program := "ytbfcaapompkjhaa", sum := "50024c7fb387953b8265dee7c8869b9cf810f5bac422cc33beee205ed7929e82", func := "poste/postelaw4.SpanPuts", spec := "spanPuts", apart := false, narrowed := true }
def SpanPutsUptoSaid : Prop := spanPutsUptoRow.holds Try.pinned (OpenSpec.upto spanPutsSpec)

/-- 'postelaw6.RootsLast', WHERE WHAT IT READS IS OF BULK AT MOST 1048576: true; the input reads as it did. -/
def rootsLastUptoRow : OpenClaim := { program := "ytbfcaapompkjhaa", sum := "50024c7fb387953b8265dee7c8869b9cf810f5bac422cc33beee205ed7929e82", func := "poste/postelaw6.RootsLast", spec := "rootsLast", apart := false, narrowed := true }
def RootsLastUptoSaid : Prop := rootsLastUptoRow.holds Try.pinned (OpenSpec.upto rootsLastSpec)

/-- 'postelaw6.RootsTurn', WHERE WHAT IT READS IS OF BULK AT MOST 1048576: true; the input reads as it did. -/
def rootsTurnUptoRow : OpenClaim := { program := "ytbfcaapompkjhaa", sum := "50024c7fb387953b8265dee7c8869b9cf810f5bac422cc33beee205ed7929e82", func := "poste/postelaw6.RootsTurn", spec := "rootsTurn", apart := false, narrowed := true }
def RootsTurnUptoSaid : Prop := rootsTurnUptoRow.holds Try.pinned (OpenSpec.upto rootsTurnSpec)

/-- 'postelaw5.LogEpochs', WHERE WHAT IT READS IS OF BULK AT MOST 1048576: true; the input reads as it did. -/
def logEpochsUptoRow : OpenClaim := { program := "ytbfcaapompkjhaa", sum := "50024c7fb387953b8265dee7c8869b9cf810f5bac422cc33beee205ed7929e82", func := "poste/postelaw5.LogEpochs", spec := "logEpochs", apart := false, narrowed := true }
def LogEpochsUptoSaid : Prop := logEpochsUptoRow.holds Try.pinned (OpenSpec.upto logEpochsSpec)

/-- 'postelaw5.LogRoom', WHERE WHAT IT READS IS OF BULK AT MOST 1048576: true; the input reads as it did. -/
def logRoomUptoRow : OpenClaim := { program := "ytbfcaapompkjhaa", sum := "50024c7fb387953b8265dee7c8869b9cf810f5bac422cc33beee205ed7929e82", func := "poste/postelaw5.LogRoom", spec := "logRoom", apart := false, narrowed := true }
def LogRoomUptoSaid : Prop := logRoomUptoRow.holds Try.pinned (OpenSpec.upto logRoomSpec)

/-- 'postelaw5.LogKeeps', WHERE WHAT IT READS IS OF BULK AT MOST 1048576: true; the input reads as it did. -/
def logKeepsUptoRow : OpenClaim := { program := "ytbfcaapompkjhaa", sum := "50024c7fb387953b8265dee7c8869b9cf810f5bac422cc33beee205ed7929e82", func := "poste/postelaw5.LogKeeps", spec := "logKeeps", apart := false, narrowed := true }
def LogKeepsUptoSaid : Prop := logKeepsUptoRow.holds Try.pinned (OpenSpec.upto logKeepsSpec)

end Rows
end Go.Proofs.Ytbfcaapompkjhaa
