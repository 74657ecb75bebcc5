/-
  NARROWER THAN 'FOR EVERY INPUT', by the rows' own cells (each row's printed sentence says how): ArgsCheck: loops · ArgsNames: loops · QueuePlays: loops · QueueRaw: loops · OrchPlans: loops · RegisterKeeps: loops · RegisterPlays: loops · RegisterRaw: loops · CounterPlays: loops · CounterRaw: loops.
  DERIVED. THE GIVEN ROWS OF THIS SEAT. 18 by the template 'for every input the law returns true; each argument reads behind the call as it read before'; 0 by the template 'total and deterministic' (their statements: YtbjcckjhfjhicaaTotals.lean).
  GIVEN WITH THE SEED: the statements are not yours to turn. If you find one false, say at which input.
  Laid BY PROGRAM, IN A SANDBOX (cutbox-rows.mjs): the forced cells as the released guide's own fill.sh prints them over the translation de430ba2a079e59c… (all of the seat's roots in one cut). By AI agents, Wed Nov 11 2026. No macro, syntax, notation, axiom, sorry.
-/
import Derived.Test.YtbjcckjhfjhicaaChecked
import GoSem.Claim
import GoSem.ClaimJoined
import GoSem.ClaimMapViews
import Derived.JoinedTies
import Derived.KernelRfl
namespace Go.Proofs.Ytbjcckjhfjhicaa
/- THE CELL 'sum', in the pinned program and in every row, IS THE sha256 OF THE DUMP (.gsa) THAT YtbjcckjhfjhicaaProg.lean LOADS. Nothing in Lean hashes anything: it is a label: what it is worth is what the hold of that sum in a sandbox is worth. -/
noncomputable def Try.pinned : Pinned := { name := "ytbjcckjhfjhicaa", sum := "de430ba2a079e59c2fba8fcc3ae35831afc29287a042fe032b6c6587d48f9c3a", checked := Try.checked }
namespace Rows
def none {H : Type} : Left H := { results := [], args := [] }

/-- 'choirlaw7.ArgsCheck': WHATEVER THE INPUT: true; the input reads as it did. -/
def argsCheckSpec : ChangeSpec := { name := "argsCheck", fn := fun _ => fun
  | [d1, d2, d3, d4, d5] => { results := [.lit (.bool true)], args := [d1, d2, d3, d4, d5] }
  | _ => none }
def argsCheckRow : OpenClaim := { program := "ytbjcckjhfjhicaa", sum := "de430ba2a079e59c2fba8fcc3ae35831afc29287a042fe032b6c6587d48f9c3a", func := "choir/choirlaw7.ArgsCheck", spec := "argsCheck", unfollowed := true, recurses := true, loops := true, apart := false }
def ArgsCheckSaid : Prop := argsCheckRow.holds Try.pinned (OpenSpec.ofChange argsCheckSpec)

/-- ITS FALSE NEIGHBOUR: 'it returns false'. Refute it at one input. -/
def argsCheckWrong : ChangeSpec := { name := "argsCheck", fn := fun _ => fun
  | [d1, d2, d3, d4, d5] => { results := [.lit (.bool false)], args := [d1, d2, d3, d4, d5] }
  | _ => none }
def ArgsCheckWrongFalsely : Prop := argsCheckRow.holds Try.pinned (OpenSpec.ofChange argsCheckWrong)

/-- 'choirlaw7.ArgsNames': WHATEVER THE INPUT: true; the input reads as it did. -/
def argsNamesSpec : ChangeSpec := { name := "argsNames", fn := fun _ => fun
  | [d1, d2] => { results := [.lit (.bool true)], args := [d1, d2] }
  | _ => none }
def argsNamesRow : OpenClaim := { program := "ytbjcckjhfjhicaa", sum := "de430ba2a079e59c2fba8fcc3ae35831afc29287a042fe032b6c6587d48f9c3a", func := "choir/choirlaw7.ArgsNames", spec := "argsNames", unfollowed := true, recurses := true, loops := true, apart := false }
def ArgsNamesSaid : Prop := argsNamesRow.holds Try.pinned (OpenSpec.ofChange argsNamesSpec)

/-- ITS FALSE NEIGHBOUR: 'it returns false'. Refute it at one input. -/
def argsNamesWrong : ChangeSpec := { name := "argsNames", fn := fun _ => fun
  | [d1, d2] => { results := [.lit (.bool false)], args := [d1, d2] }
  | _ => none }
def ArgsNamesWrongFalsely : Prop := argsNamesRow.holds Try.pinned (OpenSpec.ofChange argsNamesWrong)

/-- 'choirlaw7.ArgsSteps': WHATEVER THE INPUT: true; the input reads as it did. -/
def argsStepsSpec : ChangeSpec := { name := "argsSteps", fn := fun _ => fun
  | [d1, d2, d3] => { results := [.lit (.bool true)], args := [d1, d2, d3] }
  | _ => none }
def argsStepsRow : OpenClaim := { program := "ytbjcckjhfjhicaa", sum := "de430ba2a079e59c2fba8fcc3ae35831afc29287a042fe032b6c6587d48f9c3a", func := "choir/choirlaw7.ArgsSteps", spec := "argsSteps", unfollowed := true, recurses := true, apart := false }
def ArgsStepsSaid : Prop := argsStepsRow.holds Try.pinned (OpenSpec.ofChange argsStepsSpec)

/-- ITS FALSE NEIGHBOUR: 'it returns false'. Refute it at one input. -/
def argsStepsWrong : ChangeSpec := { name := "argsSteps", fn := fun _ => fun
  | [d1, d2, d3] => { results := [.lit (.bool false)], args := [d1, d2, d3] }
  | _ => none }
def ArgsStepsWrongFalsely : Prop := argsStepsRow.holds Try.pinned (OpenSpec.ofChange argsStepsWrong)

/-- 'choirlaw7.ArgsTell': WHATEVER THE INPUT: true; the input reads as it did. -/
def argsTellSpec : ChangeSpec := { name := "argsTell", fn := fun _ => fun
  | [d1, d2, d3] => { results := [.lit (.bool true)], args := [d1, d2, d3] }
  | _ => none }
def argsTellRow : OpenClaim := { program := "ytbjcckjhfjhicaa", sum := "de430ba2a079e59c2fba8fcc3ae35831afc29287a042fe032b6c6587d48f9c3a", func := "choir/choirlaw7.ArgsTell", spec := "argsTell", inPlace := ["math.Float64frombits", "math.Float64bits"], unfollowed := true, recurses := true, apart := false }
def ArgsTellSaid : Prop := argsTellRow.holds Try.pinned (OpenSpec.ofChange argsTellSpec)

/-- ITS FALSE NEIGHBOUR: 'it returns false'. Refute it at one input. -/
def argsTellWrong : ChangeSpec := { name := "argsTell", fn := fun _ => fun
  | [d1, d2, d3] => { results := [.lit (.bool false)], args := [d1, d2, d3] }
  | _ => none }
def ArgsTellWrongFalsely : Prop := argsTellRow.holds Try.pinned (OpenSpec.ofChange argsTellWrong)

/-- 'choirlaw11.QueueOrder': WHATEVER THE INPUT: true; the input reads as it did. -/
def queueOrderSpec : ChangeSpec := { name := "queueOrder", fn := fun _ => fun
  | [d] => { results := [.lit (.bool true)], args := [d] }
  | _ => none }
def queueOrderRow : OpenClaim := { program := "ytbjcckjhfjhicaa", sum := "de430ba2a079e59c2fba8fcc3ae35831afc29287a042fe032b6c6587d48f9c3a", func := "choir/choirlaw11.QueueOrder", spec := "queueOrder", inPlace := ["math.Float64frombits", "math.Float64bits"], unfollowed := true, recurses := true, apart := false }
def QueueOrderSaid : Prop := queueOrderRow.holds Try.pinned (OpenSpec.ofChange queueOrderSpec)

/-- ITS FALSE NEIGHBOUR: 'it returns false'. Refute it at one input. -/
def queueOrderWrong : ChangeSpec := { name := "queueOrder", fn := fun _ => fun
  | [d] => { results := [.lit (.bool false)], args := [d] }
  | _ => none }
def QueueOrderWrongFalsely : Prop := queueOrderRow.holds Try.pinned (OpenSpec.ofChange queueOrderWrong)

/-- 'choirlaw11.QueueGreat': WHATEVER THE INPUT: true; the input reads as it did. -/
def queueGreatSpec : ChangeSpec := { name := "queueGreat", fn := fun _ => fun
  | [d1, d2] => { results := [.lit (.bool true)], args := [d1, d2] }
  | _ => none }
def queueGreatRow : OpenClaim := { program := "ytbjcckjhfjhicaa", sum := "de430ba2a079e59c2fba8fcc3ae35831afc29287a042fe032b6c6587d48f9c3a", func := "choir/choirlaw11.QueueGreat", spec := "queueGreat", inPlace := ["math.Float64frombits", "math.Float64bits"], unfollowed := true, recurses := true, apart := false }
def QueueGreatSaid : Prop := queueGreatRow.holds Try.pinned (OpenSpec.ofChange queueGreatSpec)

/-- ITS FALSE NEIGHBOUR: 'it returns false'. Refute it at one input. -/
def queueGreatWrong : ChangeSpec := { name := "queueGreat", fn := fun _ => fun
  | [d1, d2] => { results := [.lit (.bool false)], args := [d1, d2] }
  | _ => none }
def QueueGreatWrongFalsely : Prop := queueGreatRow.holds Try.pinned (OpenSpec.ofChange queueGreatWrong)

/-- 'choirlaw13.OrchSteps': WHATEVER THE INPUT: true; the input reads as it did. -/
def orchStepsSpec : ChangeSpec := { name := "orchSteps", fn := fun _ => fun
  | [d1, d2] => { results := [.lit (.bool true)], args := [d1, d2] }
  | _ => none }
def orchStepsRow : OpenClaim := { program := "ytbjcckjhfjhicaa", sum := "de430ba2a079e59c2fba8fcc3ae35831afc29287a042fe032b6c6587d48f9c3a", func := "choir/choirlaw13.OrchSteps", spec := "orchSteps", inPlace := ["math.Float64frombits"], unfollowed := true, recurses := true, apart := false }
def OrchStepsSaid : Prop := orchStepsRow.holds Try.pinned (OpenSpec.ofChange orchStepsSpec)

/-- ITS FALSE NEIGHBOUR: 'it returns false'. Refute it at one input. -/
def orchStepsWrong : ChangeSpec := { name := "orchSteps", fn := fun _ => fun
  | [d1, d2] => { results := [.lit (.bool false)], args := [d1, d2] }
  | _ => none }
def OrchStepsWrongFalsely : Prop := orchStepsRow.holds Try.pinned (OpenSpec.ofChange orchStepsWrong)

/-- 'choirlaw11.QueuePlays': WHATEVER THE INPUT: true; the input reads as it did. -/
def queuePlaysSpec : ChangeSpec := { name := "queuePlays", fn := fun _ => fun
  | [d] => { results := [.lit (.bool true)], args := [d] }
  | _ => none }
def queuePlaysRow : OpenClaim := { program := "ytbjcckjhfjhicaa", sum := "de430ba2a079e59c2fba8fcc3ae35831afc29287a042fe032b6c6587d48f9c3a", func := "choir/choirlaw11.QueuePlays", spec := "queuePlays", inPlace := ["math.Float64frombits", "math.Float64bits"], unfollowed := true, recurses := true, loops := true, apart := false }
def QueuePlaysSaid : Prop := queuePlaysRow.holds Try.pinned (OpenSpec.ofChange queuePlaysSpec)

/-- ITS FALSE NEIGHBOUR: 'it returns false'. Refute it at one input. -/
def queuePlaysWrong : ChangeSpec := { name := "queuePlays", fn := fun _ => fun
  | [d] => { results := [.lit (.bool false)], args := [d] }
  | _ => none }
def QueuePlaysWrongFalsely : Prop := queuePlaysRow.holds Try.pinned (OpenSpec.ofChange queuePlaysWrong)

/-- 'choirlaw11.QueueRaw': WHATEVER THE INPUT: true; the input reads as it did. -/
def queueRawSpec : ChangeSpec := { name := "queueRaw", fn := fun _ => fun
  | [d1, d2, d3] => { results := [.lit (.bool true)], args := [d1, d2, d3] }
  | _ => none }
def queueRawRow : OpenClaim := { program := "ytbjcckjhfjhicaa", sum := "de430ba2a079e59c2fba8fcc3ae35831afc29287a042fe032b6c6587d48f9c3a", func := "choir/choirlaw11.QueueRaw", spec := "queueRaw", inPlace := ["math.Float64frombits", "math.Float64bits"], unfollowed := true, recurses := true, loops := true, apart := false }
def QueueRawSaid : Prop := queueRawRow.holds Try.pinned (OpenSpec.ofChange queueRawSpec)

/-- ITS FALSE NEIGHBOUR: 'it returns false'. Refute it at one input. -/
def queueRawWrong : ChangeSpec := { name := "queueRaw", fn := fun _ => fun
  | [d1, d2, d3] => { results := [.lit (.bool false)], args := [d1, d2, d3] }
  | _ => none }
def QueueRawWrongFalsely : Prop := queueRawRow.holds Try.pinned (OpenSpec.ofChange queueRawWrong)

/-- 'choirlaw13.OrchPlans': WHATEVER THE INPUT: true; the input reads as it did. -/
def orchPlansSpec : ChangeSpec := { name := "orchPlans", fn := fun _ => fun
  | [d] => { results := [.lit (.bool true)], args := [d] }
  | _ => none }
def orchPlansRow : OpenClaim := { program := "ytbjcckjhfjhicaa", sum := "de430ba2a079e59c2fba8fcc3ae35831afc29287a042fe032b6c6587d48f9c3a", func := "choir/choirlaw13.OrchPlans", spec := "orchPlans", inPlace := ["math.Float64frombits", "math.Float64bits"], unfollowed := true, recurses := true, loops := true, apart := false }
def OrchPlansSaid : Prop := orchPlansRow.holds Try.pinned (OpenSpec.ofChange orchPlansSpec)

/-- ITS FALSE NEIGHBOUR: 'it returns false'. Refute it at one input. -/
def orchPlansWrong : ChangeSpec := { name := "orchPlans", fn := fun _ => fun
  | [d] => { results := [.lit (.bool false)], args := [d] }
  | _ => none }
def OrchPlansWrongFalsely : Prop := orchPlansRow.holds Try.pinned (OpenSpec.ofChange orchPlansWrong)

/-- 'choirlaw8.RegisterFloats': WHATEVER THE INPUT: true; the input reads as it did. -/
def registerFloatsSpec : ChangeSpec := { name := "registerFloats", fn := fun _ => fun
  | [d1, d2] => { results := [.lit (.bool true)], args := [d1, d2] }
  | _ => none }
def registerFloatsRow : OpenClaim := { program := "ytbjcckjhfjhicaa", sum := "de430ba2a079e59c2fba8fcc3ae35831afc29287a042fe032b6c6587d48f9c3a", func := "choir/choirlaw8.RegisterFloats", spec := "registerFloats", inPlace := ["math.Float64frombits", "math.Float64bits"], unfollowed := true, recurses := true, apart := false }
def RegisterFloatsSaid : Prop := registerFloatsRow.holds Try.pinned (OpenSpec.ofChange registerFloatsSpec)

/-- ITS FALSE NEIGHBOUR: 'it returns false'. Refute it at one input. -/
def registerFloatsWrong : ChangeSpec := { name := "registerFloats", fn := fun _ => fun
  | [d1, d2] => { results := [.lit (.bool false)], args := [d1, d2] }
  | _ => none }
def RegisterFloatsWrongFalsely : Prop := registerFloatsRow.holds Try.pinned (OpenSpec.ofChange registerFloatsWrong)

/-- 'choirlaw8.RegisterKeeps': WHATEVER THE INPUT: true; the input reads as it did. -/
def registerKeepsSpec : ChangeSpec := { name := "registerKeeps", fn := fun _ => fun
  | [d] => { results := [.lit (.bool true)], args := [d] }
  | _ => none }
def registerKeepsRow : OpenClaim := { program := "ytbjcckjhfjhicaa", sum := "de430ba2a079e59c2fba8fcc3ae35831afc29287a042fe032b6c6587d48f9c3a", func := "choir/choirlaw8.RegisterKeeps", spec := "registerKeeps", inPlace := ["math.Float64frombits", "math.Float64bits"], unfollowed := true, recurses := true, loops := true, apart := false }
def RegisterKeepsSaid : Prop := registerKeepsRow.holds Try.pinned (OpenSpec.ofChange registerKeepsSpec)

/-- ITS FALSE NEIGHBOUR: 'it returns false'. Refute it at one input. -/
def registerKeepsWrong : ChangeSpec := { name := "registerKeeps", fn := fun _ => fun
  | [d] => { results := [.lit (.bool false)], args := [d] }
  | _ => none }
def RegisterKeepsWrongFalsely : Prop := registerKeepsRow.holds Try.pinned (OpenSpec.ofChange registerKeepsWrong)

/-- 'choirlaw8.RegisterPlays': WHATEVER THE INPUT: true; the input reads as it did. -/
def registerPlaysSpec : ChangeSpec := { name := "registerPlays", fn := fun _ => fun
  | [d] => { results := [.lit (.bool true)], args := [d] }
  | _ => none }
def registerPlaysRow : OpenClaim := { program := "ytbjcckjhfjhicaa", sum := "de430ba2a079e59c2fba8fcc3ae35831afc29287a042fe032b6c6587d48f9c3a", func := "choir/choirlaw8.RegisterPlays", spec := "registerPlays", inPlace := ["math.Float64frombits", "math.Float64bits"], unfollowed := true, recurses := true, loops := true, apart := false }
def RegisterPlaysSaid : Prop := registerPlaysRow.holds Try.pinned (OpenSpec.ofChange registerPlaysSpec)

/-- ITS FALSE NEIGHBOUR: 'it returns false'. Refute it at one input. -/
def registerPlaysWrong : ChangeSpec := { name := "registerPlays", fn := fun _ => fun
  | [d] => { results := [.lit (.bool false)], args := [d] }
  | _ => none }
def RegisterPlaysWrongFalsely : Prop := registerPlaysRow.holds Try.pinned (OpenSpec.ofChange registerPlaysWrong)

/-- 'choirlaw8.RegisterRaw': WHATEVER THE INPUT: true; the input reads as it did. -/
def registerRawSpec : ChangeSpec := { name := "registerRaw", fn := fun _ => fun
  | [d1, d2, d3] => { results := [.lit (.bool true)], args := [d1, d2, d3] }
  | _ => none }
def registerRawRow : OpenClaim := { program := "ytbjcckjhfjhicaa", sum := "de430ba2a079e59c2fba8fcc3ae35831afc29287a042fe032b6c6587d48f9c3a", func := "choir/choirlaw8.RegisterRaw", spec := "registerRaw", inPlace := ["math.Float64frombits", "math.Float64bits"], unfollowed := true, recurses := true, loops := true, apart := false }
def RegisterRawSaid : Prop := registerRawRow.holds Try.pinned (OpenSpec.ofChange registerRawSpec)

/-- ITS FALSE NEIGHBOUR: 'it returns false'. Refute it at one input. -/
def registerRawWrong : ChangeSpec := { name := "registerRaw", fn := fun _ => fun
  | [d1, d2, d3] => { results := [.lit (.bool false)], args := [d1, d2, d3] }
  | _ => none }
def RegisterRawWrongFalsely : Prop := registerRawRow.holds Try.pinned (OpenSpec.ofChange registerRawWrong)

/-- 'choirlaw9.CounterSums': WHATEVER THE INPUT: true; the input reads as it did. -/
def counterSumsSpec : ChangeSpec := { name := "counterSums", fn := fun _ => fun
  | [d] => { results := [.lit (.bool true)], args := [d] }
  | _ => none }
def counterSumsRow : OpenClaim := { program := "ytbjcckjhfjhicaa", sum := "de430ba2a079e59c2fba8fcc3ae35831afc29287a042fe032b6c6587d48f9c3a", func := "choir/choirlaw9.CounterSums", spec := "counterSums", inPlace := ["math.Float64frombits", "math.Float64bits"], unfollowed := true, recurses := true, apart := false }
def CounterSumsSaid : Prop := counterSumsRow.holds Try.pinned (OpenSpec.ofChange counterSumsSpec)

/-- ITS FALSE NEIGHBOUR: 'it returns false'. Refute it at one input. -/
def counterSumsWrong : ChangeSpec := { name := "counterSums", fn := fun _ => fun
  | [d] => { results := [.lit (.bool false)], args := [d] }
  | _ => none }
def CounterSumsWrongFalsely : Prop := counterSumsRow.holds Try.pinned (OpenSpec.ofChange counterSumsWrong)

/-- 'choirlaw9.CounterEdges': WHATEVER THE INPUT: true; the input reads as it did. -/
def counterEdgesSpec : ChangeSpec := { name := "counterEdges", fn := fun _ => fun
  | [d1, d2, d3] => { results := [.lit (.bool true)], args := [d1, d2, d3] }
  | _ => none }
def counterEdgesRow : OpenClaim := { program := "ytbjcckjhfjhicaa", sum := "de430ba2a079e59c2fba8fcc3ae35831afc29287a042fe032b6c6587d48f9c3a", func := "choir/choirlaw9.CounterEdges", spec := "counterEdges", inPlace := ["math.Float64frombits", "math.Float64bits"], unfollowed := true, recurses := true, apart := false }
def CounterEdgesSaid : Prop := counterEdgesRow.holds Try.pinned (OpenSpec.ofChange counterEdgesSpec)

/-- ITS FALSE NEIGHBOUR: 'it returns false'. Refute it at one input. -/
def counterEdgesWrong : ChangeSpec := { name := "counterEdges", fn := fun _ => fun
  | [d1, d2, d3] => { results := [.lit (.bool false)], args := [d1, d2, d3] }
  | _ => none }
def CounterEdgesWrongFalsely : Prop := counterEdgesRow.holds Try.pinned (OpenSpec.ofChange counterEdgesWrong)

/-- 'choirlaw9.CounterPlays': WHATEVER THE INPUT: true; the input reads as it did. -/
def counterPlaysSpec : ChangeSpec := { name := "counterPlays", fn := fun _ => fun
  | [d] => { results := [.lit (.bool true)], args := [d] }
  | _ => none }
def counterPlaysRow : OpenClaim := { program := "ytbjcckjhfjhicaa", sum := "de430ba2a079e59c2fba8fcc3ae35831afc29287a042fe032b6c6587d48f9c3a", func := "choir/choirlaw9.CounterPlays", spec := "counterPlays", inPlace := ["math.Float64frombits", "math.Float64bits"], unfollowed := true, recurses := true, loops := true, apart := false }
def CounterPlaysSaid : Prop := counterPlaysRow.holds Try.pinned (OpenSpec.ofChange counterPlaysSpec)

/-- ITS FALSE NEIGHBOUR: 'it returns false'. Refute it at one input. -/
def counterPlaysWrong : ChangeSpec := { name := "counterPlays", fn := fun _ => fun
  | [d] => { results := [.lit (.bool false)], args := [d] }
  | _ => none }
def CounterPlaysWrongFalsely : Prop := counterPlaysRow.holds Try.pinned (OpenSpec.ofChange counterPlaysWrong)

/-- 'choirlaw9.CounterRaw': WHATEVER THE INPUT: true; the input reads as it did. -/
def counterRawSpec : ChangeSpec := { name := "counterRaw", fn := fun _ => fun
  | [d1, d2, d3] => { results := [.lit (.bool true)], args := [d1, d2, d3] }
  | _ => none }
def counterRawRow : OpenClaim := { program := "ytbjcckjhfjhicaa", sum := "de430ba2a079e59c2fba8fcc3ae35831afc29287a042fe032b6c6587d48f9c3a", func := "choir/choirlaw9.CounterRaw", spec := "counterRaw", inPlace := ["math.Float64frombits", "math.Float64bits"], unfollowed := true, recurses := true, loops := true, apart := false }
def CounterRawSaid : Prop := counterRawRow.holds Try.pinned (OpenSpec.ofChange counterRawSpec)

/-- ITS FALSE NEIGHBOUR: 'it returns false'. Refute it at one input. -/
def counterRawWrong : ChangeSpec := { name := "counterRaw", fn := fun _ => fun
  | [d1, d2, d3] => { results := [.lit (.bool false)], args := [d1, d2, d3] }
  | _ => none }
def CounterRawWrongFalsely : Prop := counterRawRow.holds Try.pinned (OpenSpec.ofChange counterRawWrong)

/- THE SECOND FORM. 'bulk': how many values and letters a reading holds, each counted each time it is reached (what is shared counts as often as it is met; a slice's spare places count too). A statement '..UptoSaid' is the law's where the arguments, and the package variables that the reading takes, are together of bulk at most 1048576: NARROWER than '..Said'. Prove '..Said' where nothing that the law and all that it calls make is longer than what came in: it says more and counts as full. Else prove '..UptoSaid'. A law counts once. -/
mutual
def uptoBulk {H : Type} : DataW H → Nat
  | .lit (.string bytes) => bytes.length + 1
  | .lit _ => 1
  | .nil => 1
  | .ptr d => uptoBulk d + 1
  | .slice elems spare => uptoBulkAll elems + uptoBulkAll spare + 1
  | .agg parts => uptoBulkAll parts + 1
  | .iface _ d => uptoBulk d + 1
  | .map entries => uptoBulkEntries entries + 1
  | .held _ => 1
def uptoBulkAll {H : Type} : List (DataW H) → Nat
  | [] => 0
  | d :: r => uptoBulk d + uptoBulkAll r
def uptoBulkEntries {H : Type} : List (Lit × DataW H) → Nat
  | [] => 0
  | x :: r => uptoBulkEntry x + uptoBulkEntries r
def uptoBulkEntry {H : Type} : Lit × DataW H → Nat
  | (.string bytes, d) => bytes.length + uptoBulk d + 1
  | (_, d) => uptoBulk d + 1
 end
def uptoSmall : (H : Type) → List (DataW H) → Bool := fun _ ds => decide (uptoBulkAll ds ≤ 1048576)
def OpenSpec.upto (s : _root_.Go.ChangeSpec) : _root_.Go.OpenSpec := { _root_.Go.OpenSpec.ofChange s with cond := some uptoSmall }

/-- 'choirlaw7.ArgsCheck', WHERE WHAT IT READS IS OF BULK AT MOST 1048576: true; the input reads as it did. -/
def argsCheckUptoRow : OpenClaim := { program := "ytbjcckjhfjhicaa", sum := "de430ba2a079e59c2fba8fcc3ae35831afc29287a042fe032b6c6587d48f9c3a", func := "choir/choirlaw7.ArgsCheck", spec := "argsCheck", unfollowed := true, recurses := true, loops := true, apart := false, narrowed := true }
def ArgsCheckUptoSaid : Prop := argsCheckUptoRow.holds Try.pinned (OpenSpec.upto argsCheckSpec)

/-- 'choirlaw7.ArgsNames', WHERE WHAT IT READS IS OF BULK AT MOST 1048576: true; the input reads as it did. -/
def argsNamesUptoRow : OpenClaim := { program := "ytbjcckjhfjhicaa", sum := "de430ba2a079e59c2fba8fcc3ae35831afc29287a042fe032b6c6587d48f9c3a", func := "choir/choirlaw7.ArgsNames", spec := "argsNames", unfollowed := true, recurses := true, loops := true, apart := false, narrowed := true }
def ArgsNamesUptoSaid : Prop := argsNamesUptoRow.holds Try.pinned (OpenSpec.upto argsNamesSpec)

/-- 'choirlaw7.ArgsSteps', WHERE WHAT IT READS IS OF BULK AT MOST 1048576: true; the input reads as it did. -/
def argsStepsUptoRow : OpenClaim := { program := "ytbjcckjhfjhicaa", sum := "de430ba2a079e59c2fba8fcc3ae35831afc29287a042fe032b6c6587d48f9c3a", func := "choir/choirlaw7.ArgsSteps", spec := "argsSteps", unfollowed := true, recurses := true, apart := false, narrowed := true }
def ArgsStepsUptoSaid : Prop := argsStepsUptoRow.holds Try.pinned (OpenSpec.upto argsStepsSpec)

/-- 'choirlaw7.ArgsTell', WHERE WHAT IT READS IS OF BULK AT MOST 1048576: true; the input reads as it did. -/
def argsTellUptoRow : OpenClaim := { program := "ytbjcckjhfjhicaa", sum := "de430ba2a079e59c2fba8fcc3ae35831afc29287a042fe032b6c6587d48f9c3a", func := "choir/choirlaw7.ArgsTell", spec := "argsTell", inPlace := ["math.Float64frombits", "math.Float64bits"], unfollowed := true, recurses := true, apart := false, narrowed := true }
def ArgsTellUptoSaid : Prop := argsTellUptoRow.holds Try.pinned (OpenSpec.upto argsTellSpec)

/-- 'choirlaw11.QueueOrder', WHERE WHAT IT READS IS OF BULK AT MOST 1048576: true; the input reads as it did. -/
def queueOrderUptoRow : OpenClaim := { program := "ytbjcckjhfjhicaa", sum := "de430ba2a079e59c2fba8fcc3ae35831afc29287a042fe032b6c6587d48f9c3a", func := "choir/choirlaw11.QueueOrder", spec := "queueOrder", inPlace := ["math.Float64frombits", "math.Float64bits"], unfollowed := true, recurses := true, apart := false, narrowed := true }
def QueueOrderUptoSaid : Prop := queueOrderUptoRow.holds Try.pinned (OpenSpec.upto queueOrderSpec)

/-- 'choirlaw11.QueueGreat', WHERE WHAT IT READS IS OF BULK AT MOST 1048576: true; the input reads as it did. -/
def queueGreatUptoRow : OpenClaim := { program := "ytbjcckjhfjhicaa", sum := "de430ba2a079e59c2fba8fcc3ae35831afc29287a042fe032b6c6587d48f9c3a", func := "choir/choirlaw11.QueueGreat", spec := "queueGreat", inPlace := ["math.Float64frombits", "math.Float64bits"], unfollowed := true, recurses := true, apart := false, narrowed := true }
def QueueGreatUptoSaid : Prop := queueGreatUptoRow.holds Try.pinned (OpenSpec.upto queueGreatSpec)

/-- 'choirlaw13.OrchSteps', WHERE WHAT IT READS IS OF BULK AT MOST 1048576: true; the input reads as it did. -/
def orchStepsUptoRow : OpenClaim := { program := "ytbjcckjhfjhicaa", sum := "de430ba2a079e59c2fba8fcc3ae35831afc29287a042fe032b6c6587d48f9c3a", func := "choir/choirlaw13.OrchSteps", spec := "orchSteps", inPlace := ["math.Float64frombits"], unfollowed := true, recurses := true, apart := false, narrowed := true }
def OrchStepsUptoSaid : Prop := orchStepsUptoRow.holds Try.pinned (OpenSpec.upto orchStepsSpec)

/-- 'choirlaw11.QueuePlays', WHERE WHAT IT READS IS OF BULK AT MOST 1048576: true; the input reads as it did. -/
def queuePlaysUptoRow : OpenClaim := { program := "ytbjcckjhfjhicaa", sum := "de430ba2a079e59c2fba8fcc3ae35831afc29287a042fe032b6c6587d48f9c3a", func := "choir/choirlaw11.QueuePlays", spec := "queuePlays", inPlace := ["math.Float64frombits", "math.Float64bits"], unfollowed := true, recurses := true, loops := true, apart := false, narrowed := true }
def QueuePlaysUptoSaid : Prop := queuePlaysUptoRow.holds Try.pinned (OpenSpec.upto queuePlaysSpec)

/-- 'choirlaw11.QueueRaw', WHERE WHAT IT READS IS OF BULK AT MOST 1048576: true; the input reads as it did. -/
def queueRawUptoRow : OpenClaim := { program := "ytbjcckjhfjhicaa", sum := "de430ba2a079e59c2fba8fcc3ae35831afc29287a042fe032b6c6587d48f9c3a", func := "choir/choirlaw11.QueueRaw", spec := "queueRaw", inPlace := ["math.Float64frombits", "math.Float64bits"], unfollowed := true, recurses := true, loops := true, apart := false, narrowed := true }
def QueueRawUptoSaid : Prop := queueRawUptoRow.holds Try.pinned (OpenSpec.upto queueRawSpec)

/-- 'choirlaw13.OrchPlans', WHERE WHAT IT READS IS OF BULK AT MOST 1048576: true; the input reads as it did. -/
def orchPlansUptoRow : OpenClaim := { program := "ytbjcckjhfjhicaa", sum := "de430ba2a079e59c2fba8fcc3ae35831afc29287a042fe032b6c6587d48f9c3a", func := "choir/choirlaw13.OrchPlans", spec := "orchPlans", inPlace := ["math.Float64frombits", "math.Float64bits"], unfollowed := true, recurses := true, loops := true, apart := false, narrowed := true }
def OrchPlansUptoSaid : Prop := orchPlansUptoRow.holds Try.pinned (OpenSpec.upto orchPlansSpec)

/-- 'choirlaw8.RegisterFloats', WHERE WHAT IT READS IS OF BULK AT MOST 1048576: true; the input reads as it did. -/
def registerFloatsUptoRow : OpenClaim := { program := "ytbjcckjhfjhicaa", sum := "de430ba2a079e59c2fba8fcc3ae35831afc29287a042fe032b6c6587d48f9c3a", func := "choir/choirlaw8.RegisterFloats", spec := "registerFloats", inPlace := ["math.Float64frombits", "math.Float64bits"], unfollowed := true, recurses := true, apart := false, narrowed := true }
def RegisterFloatsUptoSaid : Prop := registerFloatsUptoRow.holds Try.pinned (OpenSpec.upto registerFloatsSpec)

/-- 'choirlaw8.RegisterKeeps', WHERE WHAT IT READS IS OF BULK AT MOST 1048576: true; the input reads as it did. -/
def registerKeepsUptoRow : OpenClaim := { program := "ytbjcckjhfjhicaa", sum := "de430ba2a079e59c2fba8fcc3ae35831afc29287a042fe032b6c6587d48f9c3a", func := "choir/choirlaw8.RegisterKeeps", spec := "registerKeeps", inPlace := ["math.Float64frombits", "math.Float64bits"], unfollowed := true, recurses := true, loops := true, apart := false, narrowed := true }
def RegisterKeepsUptoSaid : Prop := registerKeepsUptoRow.holds Try.pinned (OpenSpec.upto registerKeepsSpec)

/-- 'choirlaw8.RegisterPlays', WHERE WHAT IT READS IS OF BULK AT MOST 1048576: true; the input reads as it did. -/
def registerPlaysUptoRow : OpenClaim := { program := "ytbjcckjhfjhicaa", sum := "de430ba2a079e59c2fba8fcc3ae35831afc29287a042fe032b6c6587d48f9c3a", func := "choir/choirlaw8.RegisterPlays", spec := "registerPlays", inPlace := ["math.Float64frombits", "math.Float64bits"], unfollowed := true, recurses := true, loops := true, apart := false, narrowed := true }
def RegisterPlaysUptoSaid : Prop := registerPlaysUptoRow.holds Try.pinned (OpenSpec.upto registerPlaysSpec)

/-- 'choirlaw8.RegisterRaw', WHERE WHAT IT READS IS OF BULK AT MOST 1048576: true; the input reads as it did. -/
def registerRawUptoRow : OpenClaim := { program := "ytbjcckjhfjhicaa", sum := "de430ba2a079e59c2fba8fcc3ae35831afc29287a042fe032b6c6587d48f9c3a", func := "choir/choirlaw8.RegisterRaw", spec := "registerRaw", inPlace := ["math.Float64frombits", "math.Float64bits"], unfollowed := true, recurses := true, loops := true, apart := false, narrowed := true }
def RegisterRawUptoSaid : Prop := registerRawUptoRow.holds Try.pinned (OpenSpec.upto registerRawSpec)

/-- 'choirlaw9.CounterSums', WHERE WHAT IT READS IS OF BULK AT MOST 1048576: true; the input reads as it did. -/
def counterSumsUptoRow : OpenClaim := { program := "ytbjcckjhfjhicaa", sum := "de430ba2a079e59c2fba8fcc3ae35831afc29287a042fe032b6c6587d48f9c3a", func := "choir/choirlaw9.CounterSums", spec := "counterSums", inPlace := ["math.Float64frombits", "math.Float64bits"], unfollowed := true, recurses := true, apart := false, narrowed := true }
def CounterSumsUptoSaid : Prop := counterSumsUptoRow.holds Try.pinned (OpenSpec.upto counterSumsSpec)

/-- 'choirlaw9.CounterEdges', WHERE WHAT IT READS IS OF BULK AT MOST 1048576: true; the input reads as it did. -/
def counterEdgesUptoRow : OpenClaim := { program := "ytbjcckjhfjhicaa", sum := "de430ba2a079e59c2fba8fcc3ae35831afc29287a042fe032b6c6587d48f9c3a", func := "choir/choirlaw9.CounterEdges", spec := "counterEdges", inPlace := ["math.Float64frombits", "math.Float64bits"], unfollowed := true, recurses := true, apart := false, narrowed := true }
def CounterEdgesUptoSaid : Prop := counterEdgesUptoRow.holds Try.pinned (OpenSpec.upto counterEdgesSpec)

/-- 'choirlaw9.CounterPlays', WHERE WHAT IT READS IS OF BULK AT MOST 1048576: true; the input reads as it did. -/
def counterPlaysUptoRow : OpenClaim := { program := "ytbjcckjhfjhicaa", sum := "de430ba2a079e59c2fba8fcc3ae35831afc29287a042fe032b6c6587d48f9c3a", func := "choir/choirlaw9.CounterPlays", spec := "counterPlays", inPlace := ["math.Float64frombits", "math.Float64bits"], unfollowed := true, recurses := true, loops := true, apart := false, narrowed := true }
def CounterPlaysUptoSaid : Prop := counterPlaysUptoRow.holds Try.pinned (OpenSpec.upto counterPlaysSpec)

/-- 'choirlaw9.CounterRaw', WHERE WHAT IT READS IS OF BULK AT MOST 1048576: true; the input reads as it did. -/
def counterRawUptoRow : OpenClaim := { program := "ytbjcckjhfjhicaa", sum := "de430ba2a079e59c2fba8fcc3ae35831afc29287a042fe032b6c6587d48f9c3a", func := "choir/choirlaw9.CounterRaw", spec := "counterRaw", inPlace := ["math.Float64frombits", "math.Float64bits"], unfollowed := true, recurses := true, loops := true, apart := false, narrowed := true }
def CounterRawUptoSaid : Prop := counterRawUptoRow.holds Try.pinned (OpenSpec.upto counterRawSpec)

end Rows
end Go.Proofs.Ytbjcckjhfjhicaa
