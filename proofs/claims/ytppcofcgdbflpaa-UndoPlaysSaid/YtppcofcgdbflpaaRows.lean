/-
  No cell of these rows narrows 'for every input' (looked for: loops, veiled, ifaces, maps, wideKeys, modest, calm, conditions, laid).
  DERIVED. THE GIVEN ROWS OF THIS SEAT. 10 by the template 'for every input the law returns true; each argument reads behind the call as it read before'; 0 by the template 'total and deterministic' (their statements: YtppcofcgdbflpaaTotals.lean).
  GIVEN WITH THE SEED: the statements are not yours to turn. If you find one false, say at which input.
  Laid BY PROGRAM, IN A SANDBOX (cutbox-rows.mjs): the forced cells as the released guide's own fill.sh prints them over the translation 6d28e3d79af9eb4c… (all of the seat's roots in one cut). By AI agents, Wed Nov 11 2026. No macro, syntax, notation, axiom, sorry.
-/
import Derived.Test.YtppcofcgdbflpaaChecked
import GoSem.Claim
import GoSem.ClaimJoined
import GoSem.ClaimMapViews
import Derived.JoinedTies
import Derived.KernelRfl
namespace Go.Proofs.Ytppcofcgdbflpaa
/- THE CELL 'sum', in the pinned program and in every row, IS THE sha256 OF THE DUMP (.gsa) THAT YtppcofcgdbflpaaProg.lean LOADS. Nothing in Lean hashes anything: it is a label: what it is worth is what the hold of that sum in a sandbox is worth. -/
noncomputable def Try.pinned : Pinned := { name := "ytppcofcgdbflpaa", sum := "6d28e3d79af9eb4c9b85025f36f4510f997c120f8715c4f176c311200b591785", checked := Try.checked }
namespace Rows
def none {H : Type} : Left H := { results := [], args := [] }

/-- 'postelaw1.OrderRow': WHATEVER THE INPUT: true; the input reads as it did. -/
def orderRowSpec : ChangeSpec := { name := "orderRow", fn := fun _ => fun
  | [d1, d2, d3] => { results := [.lit (.bool true)], args := [d1, d2, d3] }
  | _ => none }
def orderRowRow : OpenClaim := { program := "ytppcofcgdbflpaa", sum := "6d28e3d79af9eb4c9b85025f36f4510f997c120f8715c4f176c311200b591785", func := "poste/postelaw1.OrderRow", spec := "orderRow", apart := false }
def OrderRowSaid : Prop := orderRowRow.holds Try.pinned (OpenSpec.ofChange orderRowSpec)

/-- ITS FALSE NEIGHBOUR: 'it returns false'. Refute it at one input. -/
def orderRowWrong : ChangeSpec := { name := "orderRow", fn := fun _ => fun
  | [d1, d2, d3] => { results := [.lit (.bool false)], args := [d1, d2, d3] }
  | _ => none }
def OrderRowWrongFalsely : Prop := orderRowRow.holds Try.pinned (OpenSpec.ofChange orderRowWrong)

/-- 'postelaw1.OrderNext': WHATEVER THE INPUT: true; the input reads as it did. -/
def orderNextSpec : ChangeSpec := { name := "orderNext", fn := fun _ => fun
  | [d1, d2] => { results := [.lit (.bool true)], args := [d1, d2] }
  | _ => none }
def orderNextRow : OpenClaim := { program := "ytppcofcgdbflpaa", sum := "6d28e3d79af9eb4c9b85025f36f4510f997c120f8715c4f176c311200b591785", func := "poste/postelaw1.OrderNext", spec := "orderNext", apart := false }
def OrderNextSaid : Prop := orderNextRow.holds Try.pinned (OpenSpec.ofChange orderNextSpec)

/-- ITS FALSE NEIGHBOUR: 'it returns false'. Refute it at one input. -/
def orderNextWrong : ChangeSpec := { name := "orderNext", fn := fun _ => fun
  | [d1, d2] => { results := [.lit (.bool false)], args := [d1, d2] }
  | _ => none }
def OrderNextWrongFalsely : Prop := orderNextRow.holds Try.pinned (OpenSpec.ofChange orderNextWrong)

/-- 'postelaw1.OrderMsgs': WHATEVER THE INPUT: true; the input reads as it did. -/
def orderMsgsSpec : ChangeSpec := { name := "orderMsgs", fn := fun _ => fun
  | [d1, d2, d3] => { results := [.lit (.bool true)], args := [d1, d2, d3] }
  | _ => none }
def orderMsgsRow : OpenClaim := { program := "ytppcofcgdbflpaa", sum := "6d28e3d79af9eb4c9b85025f36f4510f997c120f8715c4f176c311200b591785", func := "poste/postelaw1.OrderMsgs", spec := "orderMsgs", apart := false }
def OrderMsgsSaid : Prop := orderMsgsRow.holds Try.pinned (OpenSpec.ofChange orderMsgsSpec)

/-- ITS FALSE NEIGHBOUR: 'it returns false'. Refute it at one input. -/
def orderMsgsWrong : ChangeSpec := { name := "orderMsgs", fn := fun _ => fun
  | [d1, d2, d3] => { results := [.lit (.bool false)], args := [d1, d2, d3] }
  | _ => none }
def OrderMsgsWrongFalsely : Prop := orderMsgsRow.holds Try.pinned (OpenSpec.ofChange orderMsgsWrong)

/-- 'postelaw1.OrderTells': WHATEVER THE INPUT: true; the input reads as it did. -/
def orderTellsSpec : ChangeSpec := { name := "orderTells", fn := fun _ => fun
  | [d1, d2, d3, d4, d5] => { results := [.lit (.bool true)], args := [d1, d2, d3, d4, d5] }
  | _ => none }
def orderTellsRow : OpenClaim := { program := "ytppcofcgdbflpaa", sum := "6d28e3d79af9eb4c9b85025f36f4510f997c120f8715c4f176c311200b591785", func := "poste/postelaw1.OrderTells", spec := "orderTells", apart := false }
def OrderTellsSaid : Prop := orderTellsRow.holds Try.pinned (OpenSpec.ofChange orderTellsSpec)

/-- ITS FALSE NEIGHBOUR: 'it returns false'. Refute it at one input. -/
def orderTellsWrong : ChangeSpec := { name := "orderTells", fn := fun _ => fun
  | [d1, d2, d3, d4, d5] => { results := [.lit (.bool false)], args := [d1, d2, d3, d4, d5] }
  | _ => none }
def OrderTellsWrongFalsely : Prop := orderTellsRow.holds Try.pinned (OpenSpec.ofChange orderTellsWrong)

/-- 'postelaw22.UndoPoints': WHATEVER THE INPUT: true; the input reads as it did. -/
def undoPointsSpec : ChangeSpec := { name := "undoPoints", fn := fun _ => fun
  | [d1, d2] => { results := [.lit (.bool true)], args := [d1, d2] }
  | _ => none }
def undoPointsRow : OpenClaim := { program := "ytppcofcgdbflpaa", sum := "6d28e3d79af9eb4c9b85025f36f4510f997c120f8715c4f176c311200b591785", func := "poste/postelaw22.UndoPoints", spec := "undoPoints", apart := false }
def UndoPointsSaid : Prop := undoPointsRow.holds Try.pinned (OpenSpec.ofChange undoPointsSpec)

/-- ITS FALSE NEIGHBOUR: 'it returns false'. Refute it at one input. -/
def undoPointsWrong : ChangeSpec := { name := "undoPoints", fn := fun _ => fun
  | [d1, d2] => { results := [.lit (.bool false)], args := [d1, d2] }
  | _ => none }
def UndoPointsWrongFalsely : Prop := undoPointsRow.holds Try.pinned (OpenSpec.ofChange undoPointsWrong)

/-- 'postelaw22.UndoPlays': WHATEVER THE INPUT: true; the input reads as it did. -/
def undoPlaysSpec : ChangeSpec := { name := "undoPlays", fn := fun _ => fun
  | [d] => { results := [.lit (.bool true)], args := [d] }
  | _ => none }
def undoPlaysRow : OpenClaim := { program := "ytppcofcgdbflpaa", sum := "6d28e3d79af9eb4c9b85025f36f4510f997c120f8715c4f176c311200b591785", func := "poste/postelaw22.UndoPlays", spec := "undoPlays", apart := false }
def UndoPlaysSaid : Prop := undoPlaysRow.holds Try.pinned (OpenSpec.ofChange undoPlaysSpec)

/-- ITS FALSE NEIGHBOUR: 'it returns false'. Refute it at one input. -/
def undoPlaysWrong : ChangeSpec := { name := "undoPlays", fn := fun _ => fun
  | [d] => { results := [.lit (.bool false)], args := [d] }
  | _ => none }
def UndoPlaysWrongFalsely : Prop := undoPlaysRow.holds Try.pinned (OpenSpec.ofChange undoPlaysWrong)

/-- 'postelaw10.ModesLaws': WHATEVER THE INPUT: true; the input reads as it did. -/
def modesLawsSpec : ChangeSpec := { name := "modesLaws", fn := fun _ => fun
  | [d1, d2, d3] => { results := [.lit (.bool true)], args := [d1, d2, d3] }
  | _ => none }
def modesLawsRow : OpenClaim := { program := "ytppcofcgdbflpaa", sum := "6d28e3d79af9eb4c9b85025f36f4510f997c120f8715c4f176c311200b591785", func := "poste/postelaw10.ModesLaws", spec := "modesLaws", apart := false }
def ModesLawsSaid : Prop := modesLawsRow.holds Try.pinned (OpenSpec.ofChange modesLawsSpec)

/-- ITS FALSE NEIGHBOUR: 'it returns false'. Refute it at one input. -/
def modesLawsWrong : ChangeSpec := { name := "modesLaws", fn := fun _ => fun
  | [d1, d2, d3] => { results := [.lit (.bool false)], args := [d1, d2, d3] }
  | _ => none }
def ModesLawsWrongFalsely : Prop := modesLawsRow.holds Try.pinned (OpenSpec.ofChange modesLawsWrong)

/-- 'postelaw10.ModesTell': WHATEVER THE INPUT: true; the input reads as it did. -/
def modesTellSpec : ChangeSpec := { name := "modesTell", fn := fun _ => fun
  | [d1, d2] => { results := [.lit (.bool true)], args := [d1, d2] }
  | _ => none }
def modesTellRow : OpenClaim := { program := "ytppcofcgdbflpaa", sum := "6d28e3d79af9eb4c9b85025f36f4510f997c120f8715c4f176c311200b591785", func := "poste/postelaw10.ModesTell", spec := "modesTell", apart := false }
def ModesTellSaid : Prop := modesTellRow.holds Try.pinned (OpenSpec.ofChange modesTellSpec)

/-- ITS FALSE NEIGHBOUR: 'it returns false'. Refute it at one input. -/
def modesTellWrong : ChangeSpec := { name := "modesTell", fn := fun _ => fun
  | [d1, d2] => { results := [.lit (.bool false)], args := [d1, d2] }
  | _ => none }
def ModesTellWrongFalsely : Prop := modesTellRow.holds Try.pinned (OpenSpec.ofChange modesTellWrong)

/-- 'postelaw10.ModesAbove': WHATEVER THE INPUT: true; the input reads as it did. -/
def modesAboveSpec : ChangeSpec := { name := "modesAbove", fn := fun _ => fun
  | [d1, d2] => { results := [.lit (.bool true)], args := [d1, d2] }
  | _ => none }
def modesAboveRow : OpenClaim := { program := "ytppcofcgdbflpaa", sum := "6d28e3d79af9eb4c9b85025f36f4510f997c120f8715c4f176c311200b591785", func := "poste/postelaw10.ModesAbove", spec := "modesAbove", apart := false }
def ModesAboveSaid : Prop := modesAboveRow.holds Try.pinned (OpenSpec.ofChange modesAboveSpec)

/-- ITS FALSE NEIGHBOUR: 'it returns false'. Refute it at one input. -/
def modesAboveWrong : ChangeSpec := { name := "modesAbove", fn := fun _ => fun
  | [d1, d2] => { results := [.lit (.bool false)], args := [d1, d2] }
  | _ => none }
def ModesAboveWrongFalsely : Prop := modesAboveRow.holds Try.pinned (OpenSpec.ofChange modesAboveWrong)

/-- 'postetop.TopNames': WHATEVER THE INPUT: true; the input reads as it did. -/
def topNamesSpec : ChangeSpec := { name := "topNames", fn := fun _ => fun
  | [] => { results := [.lit (.bool true)], args := [] }
  | _ => none }
def topNamesRow : OpenClaim := { program := "ytppcofcgdbflpaa", sum := "6d28e3d79af9eb4c9b85025f36f4510f997c120f8715c4f176c311200b591785", func := "poste/postetop.TopNames", spec := "topNames", apart := false }
def TopNamesSaid : Prop := topNamesRow.holds Try.pinned (OpenSpec.ofChange topNamesSpec)

/-- ITS FALSE NEIGHBOUR: 'it returns false'. Refute it at one input. -/
def topNamesWrong : ChangeSpec := { name := "topNames", fn := fun _ => fun
  | [] => { results := [.lit (.bool false)], args := [] }
  | _ => none }
def TopNamesWrongFalsely : Prop := topNamesRow.holds Try.pinned (OpenSpec.ofChange topNamesWrong)

/- THE SECOND FORM. 'bulk': how many values and letters a reading holds, each counted each time it is reached (what is shared counts as often as it is met; a slice's spare places count too). A statement '..UptoSaid' is the law's where the arguments, and the package variables that the reading takes, are together of bulk at most 1048576: NARROWER than '..Said'. Prove '..Said' where nothing that the law and all that it calls make is longer than what came in: it says more and counts as full. Else prove '..UptoSaid'. A law counts once. -/
mutual
def uptoBulk {H : Type} : DataW H → Nat
  | .lit (.string bytes) => bytes.length + 1
  | .lit _ => 1
  | .nil => 1
  | .ptr d => uptoBulk d + 1
  | .slice elems spare => uptoBulkAll elems + uptoBulkAll spare + 1
  | .agg parts => uptoBulkAll parts + 1
  | .iface _ d => uptoBulk d + 1
  | .map entries => uptoBulkEntries entries + 1
  | .held _ => 1
def uptoBulkAll {H : Type} : List (DataW H) → Nat
  | [] => 0
  | d :: r => uptoBulk d + uptoBulkAll r
def uptoBulkEntries {H : Type} : List (Lit × DataW H) → Nat
  | [] => 0
  | x :: r => uptoBulkEntry x + uptoBulkEntries r
def uptoBulkEntry {H : Type} : Lit × DataW H → Nat
  | (.string bytes, d) => bytes.length + uptoBulk d + 1
  | (_, d) => uptoBulk d + 1
 end
def uptoSmall : (H : Type) → List (DataW H) → Bool := fun _ ds => decide (uptoBulkAll ds ≤ 1048576)
def OpenSpec.upto (s : _root_.Go.ChangeSpec) : _root_.Go.OpenSpec := { _root_.Go.OpenSpec.ofChange s with cond := some uptoSmall }

/-- 'postelaw1.OrderRow', WHERE WHAT IT READS IS OF BULK AT MOST 1048576: true; the input reads as it did. -/
def orderRowUptoRow : OpenClaim := { program := "ytppcofcgdbflpaa", sum := "6d28e3d79af9eb4c9b85025f36f4510f997c120f8715c4f176c311200b591785", func := "poste/postelaw1.OrderRow", spec := "orderRow", apart := false, narrowed := true }
def OrderRowUptoSaid : Prop := orderRowUptoRow.holds Try.pinned (OpenSpec.upto orderRowSpec)

/-- 'postelaw1.OrderNext', WHERE WHAT IT READS IS OF BULK AT MOST 1048576: true; the input reads as it did. -/
def orderNextUptoRow : OpenClaim := { program := "ytppcofcgdbflpaa", sum := "6d28e3d79af9eb4c9b85025f36f4510f997c120f8715c4f176c311200b591785", func := "poste/postelaw1.OrderNext", spec := "orderNext", apart := false, narrowed := true }
def OrderNextUptoSaid : Prop := orderNextUptoRow.holds Try.pinned (OpenSpec.upto orderNextSpec)

/-- 'postelaw1.OrderMsgs', WHERE WHAT IT READS IS OF BULK AT MOST 1048576: true; the input reads as it did. -/
def orderMsgsUptoRow : OpenClaim := { program := "ytppcofcgdbflpaa", sum := "6d28e3d79af9eb4c9b85025f36f4510f997c120f8715c4f176c311200b591785", func := "poste/postelaw1.OrderMsgs", spec := "orderMsgs", apart := false, narrowed := true }
def OrderMsgsUptoSaid : Prop := orderMsgsUptoRow.holds Try.pinned (OpenSpec.upto orderMsgsSpec)

/-- 'postelaw1.OrderTells', WHERE WHAT IT READS IS OF BULK AT MOST 1048576: true; the input reads as it did. -/
def orderTellsUptoRow : OpenClaim := { program := "ytppcofcgdbflpaa", sum := "6d28e3d79af9eb4c9b85025f36f4510f997c120f8715c4f176c311200b591785", func := "poste/postelaw1.OrderTells", spec := "orderTells", apart := false, narrowed := true }
def OrderTellsUptoSaid : Prop := orderTellsUptoRow.holds Try.pinned (OpenSpec.upto orderTellsSpec)

/-- 'postelaw22.UndoPoints', WHERE WHAT IT READS IS OF BULK AT MOST 1048576: true; the input reads as it did. -/
def undoPointsUptoRow : OpenClaim := { program := "ytppcofcgdbflpaa", sum := "6d28e3d79af9eb4c9b85025f36f4510f997c120f8715c4f176c311200b591785", func := "poste/postelaw22.UndoPoints", spec := "undoPoints", apart := false, narrowed := true }
def UndoPointsUptoSaid : Prop := undoPointsUptoRow.holds Try.pinned (OpenSpec.upto undoPointsSpec)

/-- 'postelaw22.UndoPlays', WHERE WHAT IT READS IS OF BULK AT MOST 1048576: true; the input reads as it did. -/
def undoPlaysUptoRow : OpenClaim := { program := "ytppcofcgdbflpaa", sum := "6d28e3d79af9eb4c9b85025f36f4510f997c120f8715c4f176c311200b591785", func := "poste/postelaw22.UndoPlays", spec := "undoPlays", apart := false, narrowed := true }
def UndoPlaysUptoSaid : Prop := undoPlaysUptoRow.holds Try.pinned (OpenSpec.upto undoPlaysSpec)

/-- 'postelaw10.ModesLaws', WHERE WHAT IT READS IS OF BULK AT MOST 1048576: true; the input reads as it did. -/
def modesLawsUptoRow : OpenClaim := { program := "ytppcofcgdbflpaa", sum := "6d28e3d79af9eb4c9b85025f36f4510f997c120f8715c4f176c311200b591785", func := "poste/postelaw10.ModesLaws", spec := "modesLaws", apart := false, narrowed := true }
def ModesLawsUptoSaid : Prop := modesLawsUptoRow.holds Try.pinned (OpenSpec.upto modesLawsSpec)

/-- 'postelaw10.ModesTell', WHERE WHAT IT READS IS OF BULK AT MOST 1048576: true; the input reads as it did. -/
def modesTellUptoRow : OpenClaim := { program := "ytppcofcgdbflpaa", sum := "6d28e3d79af9eb4c9b85025f36f4510f997c120f8715c4f176c311200b591785", func := "poste/postelaw10.ModesTell", spec := "modesTell", apart := false, narrowed := true }
def ModesTellUptoSaid : Prop := modesTellUptoRow.holds Try.pinned (OpenSpec.upto modesTellSpec)

/-- 'postelaw10.ModesAbove', WHERE WHAT IT READS IS OF BULK AT MOST 1048576: true; the input reads as it did. -/
def modesAboveUptoRow : OpenClaim := { program := "ytppcofcgdbflpaa", sum := "6d28e3d79af9eb4c9b85025f36f4510f997c120f8715c4f176c311200b591785", func := "poste/postelaw10.ModesAbove", spec := "modesAbove", apart := false, narrowed := true }
def ModesAboveUptoSaid : Prop := modesAboveUptoRow.holds Try.pinned (OpenSpec.upto modesAboveSpec)

/-- 'postetop.TopNames', WHERE WHAT IT READS IS OF BULK AT MOST 1048576: true; the input reads as it did. -/
def topNamesUptoRow : OpenClaim := { program := "ytppcofcgdbflpaa", sum := "6d28e3d79af9eb4c9b85025f36f4510f997c120f8715c4f176c311200b591785", func := "poste/postetop.TopNames", spec := "topNames", apart := false, narrowed := true }
def TopNamesUptoSaid : Prop := topNamesUptoRow.holds Try.pinned (OpenSpec.upto topNamesSpec)

end Rows
end Go.Proofs.Ytppcofcgdbflpaa
