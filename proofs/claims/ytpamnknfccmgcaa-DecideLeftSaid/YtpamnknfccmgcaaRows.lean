/-
  No cell of these rows narrows 'for every input' (looked for: loops, veiled, ifaces, maps, wideKeys, modest, calm, conditions, laid).
  DERIVED. THE GIVEN ROWS OF THIS SEAT. 24 by the template 'for every input the law returns true; each argument reads behind the call as it read before'; 0 by the template 'total and deterministic' (their statements: YtpamnknfccmgcaaTotals.lean).
  GIVEN WITH THE SEED: the statements are not yours to turn. If you find one false, say at which input.
  Laid BY PROGRAM, IN A SANDBOX (cutbox-rows.mjs): the forced cells as the released guide's own fill.sh prints them over the translation a6fc8fd53312afe9… (all of the seat's roots in one cut). By AI agents, Wed Nov 11 2026. No macro, syntax, notation, axiom, sorry.
-/
import Derived.Test.YtpamnknfccmgcaaChecked
import GoSem.Claim
import GoSem.ClaimJoined
import GoSem.ClaimMapViews
import Derived.JoinedTies
import Derived.KernelRfl
namespace Go.Proofs.Ytpamnknfccmgcaa
/- THE CELL 'sum', in the pinned program and in every row, IS THE sha256 OF THE DUMP (.gsa) THAT YtpamnknfccmgcaaProg.lean LOADS. Nothing in Lean hashes anything: it is a label: what it is worth is what the hold of that sum in a sandbox is worth. -/
noncomputable def Try.pinned : Pinned := { name := "ytpamnknfccmgcaa", sum := "a6fc8fd53312afe988688be21471d2f37ad7b3c32f7f05c24ccf7e80fdb03d9e", checked := Try.checked }
namespace Rows
def none {H : Type} : Left H := { results := [], args := [] }

/-- 'periscopelaw04.HeadMay': WHATEVER THE INPUT: true; the input reads as it did. -/
def headMaySpec : ChangeSpec := { name := "headMay", fn := fun _ => fun
  | [d1, d2] => { results := [.lit (.bool true)], args := [d1, d2] }
  | _ => none }
def headMayRow : OpenClaim := { program := "ytpamnknfccmgcaa", sum := "a6fc8fd53312afe988688be21471d2f37ad7b3c32f7f05c24ccf7e80fdb03d9e", func := "periscope/periscopelaw04.HeadMay", spec := "headMay", unfollowed := true, recurses := true, apart := false }
def HeadMaySaid : Prop := headMayRow.holds Try.pinned (OpenSpec.ofChange headMaySpec)

/-- ITS FALSE NEIGHBOUR: 'it returns false'. Refute it at one input. -/
def headMayWrong : ChangeSpec := { name := "headMay", fn := fun _ => fun
  | [d1, d2] => { results := [.lit (.bool false)], args := [d1, d2] }
  | _ => none }
def HeadMayWrongFalsely : Prop := headMayRow.holds Try.pinned (OpenSpec.ofChange headMayWrong)

/-- 'periscopelaw04.HeadLists': WHATEVER THE INPUT: true; the input reads as it did. -/
def headListsSpec : ChangeSpec := { name := "headLists", fn := fun _ => fun
  | [d1, d2, d3, d4] => { results := [.lit (.bool true)], args := [d1, d2, d3, d4] }
  | _ => none }
def headListsRow : OpenClaim := { program := "ytpamnknfccmgcaa", sum := "a6fc8fd53312afe988688be21471d2f37ad7b3c32f7f05c24ccf7e80fdb03d9e", func := "periscope/periscopelaw04.HeadLists", spec := "headLists", unfollowed := true, recurses := true, apart := false }
def HeadListsSaid : Prop := headListsRow.holds Try.pinned (OpenSpec.ofChange headListsSpec)

/-- ITS FALSE NEIGHBOUR: 'it returns false'. Refute it at one input. -/
def headListsWrong : ChangeSpec := { name := "headLists", fn := fun _ => fun
  | [d1, d2, d3, d4] => { results := [.lit (.bool false)], args := [d1, d2, d3, d4] }
  | _ => none }
def HeadListsWrongFalsely : Prop := headListsRow.holds Try.pinned (OpenSpec.ofChange headListsWrong)

/-- 'periscopelaw04.HeadSets': WHATEVER THE INPUT: true; the input reads as it did. -/
def headSetsSpec : ChangeSpec := { name := "headSets", fn := fun _ => fun
  | [d1, d2, d3] => { results := [.lit (.bool true)], args := [d1, d2, d3] }
  | _ => none }
def headSetsRow : OpenClaim := { program := "ytpamnknfccmgcaa", sum := "a6fc8fd53312afe988688be21471d2f37ad7b3c32f7f05c24ccf7e80fdb03d9e", func := "periscope/periscopelaw04.HeadSets", spec := "headSets", unfollowed := true, recurses := true, apart := false }
def HeadSetsSaid : Prop := headSetsRow.holds Try.pinned (OpenSpec.ofChange headSetsSpec)

/-- ITS FALSE NEIGHBOUR: 'it returns false'. Refute it at one input. -/
def headSetsWrong : ChangeSpec := { name := "headSets", fn := fun _ => fun
  | [d1, d2, d3] => { results := [.lit (.bool false)], args := [d1, d2, d3] }
  | _ => none }
def HeadSetsWrongFalsely : Prop := headSetsRow.holds Try.pinned (OpenSpec.ofChange headSetsWrong)

/-- 'periscopelaw07.ParentReads': WHATEVER THE INPUT: true; the input reads as it did. -/
def parentReadsSpec : ChangeSpec := { name := "parentReads", fn := fun _ => fun
  | [d] => { results := [.lit (.bool true)], args := [d] }
  | _ => none }
def parentReadsRow : OpenClaim := { program := "ytpamnknfccmgcaa", sum := "a6fc8fd53312afe988688be21471d2f37ad7b3c32f7f05c24ccf7e80fdb03d9e", func := "periscope/periscopelaw07.ParentReads", spec := "parentReads", apart := false }
def ParentReadsSaid : Prop := parentReadsRow.holds Try.pinned (OpenSpec.ofChange parentReadsSpec)

/-- ITS FALSE NEIGHBOUR: 'it returns false'. Refute it at one input. -/
def parentReadsWrong : ChangeSpec := { name := "parentReads", fn := fun _ => fun
  | [d] => { results := [.lit (.bool false)], args := [d] }
  | _ => none }
def ParentReadsWrongFalsely : Prop := parentReadsRow.holds Try.pinned (OpenSpec.ofChange parentReadsWrong)

/-- 'periscopelaw07.ParentWrites': WHATEVER THE INPUT: true; the input reads as it did. -/
def parentWritesSpec : ChangeSpec := { name := "parentWrites", fn := fun _ => fun
  | [d1, d2] => { results := [.lit (.bool true)], args := [d1, d2] }
  | _ => none }
def parentWritesRow : OpenClaim := { program := "ytpamnknfccmgcaa", sum := "a6fc8fd53312afe988688be21471d2f37ad7b3c32f7f05c24ccf7e80fdb03d9e", func := "periscope/periscopelaw07.ParentWrites", spec := "parentWrites", apart := false }
def ParentWritesSaid : Prop := parentWritesRow.holds Try.pinned (OpenSpec.ofChange parentWritesSpec)

/-- ITS FALSE NEIGHBOUR: 'it returns false'. Refute it at one input. -/
def parentWritesWrong : ChangeSpec := { name := "parentWrites", fn := fun _ => fun
  | [d1, d2] => { results := [.lit (.bool false)], args := [d1, d2] }
  | _ => none }
def ParentWritesWrongFalsely : Prop := parentWritesRow.holds Try.pinned (OpenSpec.ofChange parentWritesWrong)

/-- 'periscopelaw07.ParentBack': WHATEVER THE INPUT: true; the input reads as it did. -/
def parentBackSpec : ChangeSpec := { name := "parentBack", fn := fun _ => fun
  | [d1, d2] => { results := [.lit (.bool true)], args := [d1, d2] }
  | _ => none }
def parentBackRow : OpenClaim := { program := "ytpamnknfccmgcaa", sum := "a6fc8fd53312afe988688be21471d2f37ad7b3c32f7f05c24ccf7e80fdb03d9e", func := "periscope/periscopelaw07.ParentBack", spec := "parentBack", apart := false }
def ParentBackSaid : Prop := parentBackRow.holds Try.pinned (OpenSpec.ofChange parentBackSpec)

/-- ITS FALSE NEIGHBOUR: 'it returns false'. Refute it at one input. -/
def parentBackWrong : ChangeSpec := { name := "parentBack", fn := fun _ => fun
  | [d1, d2] => { results := [.lit (.bool false)], args := [d1, d2] }
  | _ => none }
def ParentBackWrongFalsely : Prop := parentBackRow.holds Try.pinned (OpenSpec.ofChange parentBackWrong)

/-- 'periscopelaw11.PredChecks': WHATEVER THE INPUT: true; the input reads as it did. -/
def predChecksSpec : ChangeSpec := { name := "predChecks", fn := fun _ => fun
  | [d] => { results := [.lit (.bool true)], args := [d] }
  | _ => none }
def predChecksRow : OpenClaim := { program := "ytpamnknfccmgcaa", sum := "a6fc8fd53312afe988688be21471d2f37ad7b3c32f7f05c24ccf7e80fdb03d9e", func := "periscope/periscopelaw11.PredChecks", spec := "predChecks", unfollowed := true, recurses := true, apart := false }
def PredChecksSaid : Prop := predChecksRow.holds Try.pinned (OpenSpec.ofChange predChecksSpec)

/-- ITS FALSE NEIGHBOUR: 'it returns false'. Refute it at one input. -/
def predChecksWrong : ChangeSpec := { name := "predChecks", fn := fun _ => fun
  | [d] => { results := [.lit (.bool false)], args := [d] }
  | _ => none }
def PredChecksWrongFalsely : Prop := predChecksRow.holds Try.pinned (OpenSpec.ofChange predChecksWrong)

/-- 'periscopelaw11.PredMatches': WHATEVER THE INPUT: true; the input reads as it did. -/
def predMatchesSpec : ChangeSpec := { name := "predMatches", fn := fun _ => fun
  | [d1, d2, d3] => { results := [.lit (.bool true)], args := [d1, d2, d3] }
  | _ => none }
def predMatchesRow : OpenClaim := { program := "ytpamnknfccmgcaa", sum := "a6fc8fd53312afe988688be21471d2f37ad7b3c32f7f05c24ccf7e80fdb03d9e", func := "periscope/periscopelaw11.PredMatches", spec := "predMatches", unfollowed := true, recurses := true, apart := false }
def PredMatchesSaid : Prop := predMatchesRow.holds Try.pinned (OpenSpec.ofChange predMatchesSpec)

/-- ITS FALSE NEIGHBOUR: 'it returns false'. Refute it at one input. -/
def predMatchesWrong : ChangeSpec := { name := "predMatches", fn := fun _ => fun
  | [d1, d2, d3] => { results := [.lit (.bool false)], args := [d1, d2, d3] }
  | _ => none }
def PredMatchesWrongFalsely : Prop := predMatchesRow.holds Try.pinned (OpenSpec.ofChange predMatchesWrong)

/-- 'periscopelaw11.PredMore': WHATEVER THE INPUT: true; the input reads as it did. -/
def predMoreSpec : ChangeSpec := { name := "predMore", fn := fun _ => fun
  | [d1, d2, d3, d4] => { results := [.lit (.bool true)], args := [d1, d2, d3, d4] }
  | _ => none }
def predMoreRow : OpenClaim := { program := "ytpamnknfccmgcaa", sum := "a6fc8fd53312afe988688be21471d2f37ad7b3c32f7f05c24ccf7e80fdb03d9e", func := "periscope/periscopelaw11.PredMore", spec := "predMore", unfollowed := true, recurses := true, apart := false }
def PredMoreSaid : Prop := predMoreRow.holds Try.pinned (OpenSpec.ofChange predMoreSpec)

/-- ITS FALSE NEIGHBOUR: 'it returns false'. Refute it at one input. -/
def predMoreWrong : ChangeSpec := { name := "predMore", fn := fun _ => fun
  | [d1, d2, d3, d4] => { results := [.lit (.bool false)], args := [d1, d2, d3, d4] }
  | _ => none }
def PredMoreWrongFalsely : Prop := predMoreRow.holds Try.pinned (OpenSpec.ofChange predMoreWrong)

/-- 'periscopelaw12.RuleChecks': WHATEVER THE INPUT: true; the input reads as it did. -/
def ruleChecksSpec : ChangeSpec := { name := "ruleChecks", fn := fun _ => fun
  | [d1, d2] => { results := [.lit (.bool true)], args := [d1, d2] }
  | _ => none }
def ruleChecksRow : OpenClaim := { program := "ytpamnknfccmgcaa", sum := "a6fc8fd53312afe988688be21471d2f37ad7b3c32f7f05c24ccf7e80fdb03d9e", func := "periscope/periscopelaw12.RuleChecks", spec := "ruleChecks", unfollowed := true, recurses := true, apart := false }
def RuleChecksSaid : Prop := ruleChecksRow.holds Try.pinned (OpenSpec.ofChange ruleChecksSpec)

/-- ITS FALSE NEIGHBOUR: 'it returns false'. Refute it at one input. -/
def ruleChecksWrong : ChangeSpec := { name := "ruleChecks", fn := fun _ => fun
  | [d1, d2] => { results := [.lit (.bool false)], args := [d1, d2] }
  | _ => none }
def RuleChecksWrongFalsely : Prop := ruleChecksRow.holds Try.pinned (OpenSpec.ofChange ruleChecksWrong)

/-- 'periscopelaw12.RuleFinds': WHATEVER THE INPUT: true; the input reads as it did. -/
def ruleFindsSpec : ChangeSpec := { name := "ruleFinds", fn := fun _ => fun
  | [d1, d2] => { results := [.lit (.bool true)], args := [d1, d2] }
  | _ => none }
def ruleFindsRow : OpenClaim := { program := "ytpamnknfccmgcaa", sum := "a6fc8fd53312afe988688be21471d2f37ad7b3c32f7f05c24ccf7e80fdb03d9e", func := "periscope/periscopelaw12.RuleFinds", spec := "ruleFinds", unfollowed := true, recurses := true, apart := false }
def RuleFindsSaid : Prop := ruleFindsRow.holds Try.pinned (OpenSpec.ofChange ruleFindsSpec)

/-- ITS FALSE NEIGHBOUR: 'it returns false'. Refute it at one input. -/
def ruleFindsWrong : ChangeSpec := { name := "ruleFinds", fn := fun _ => fun
  | [d1, d2] => { results := [.lit (.bool false)], args := [d1, d2] }
  | _ => none }
def RuleFindsWrongFalsely : Prop := ruleFindsRow.holds Try.pinned (OpenSpec.ofChange ruleFindsWrong)

/-- 'periscopelaw12.RuleOrders': WHATEVER THE INPUT: true; the input reads as it did. -/
def ruleOrdersSpec : ChangeSpec := { name := "ruleOrders", fn := fun _ => fun
  | [d1, d2] => { results := [.lit (.bool true)], args := [d1, d2] }
  | _ => none }
def ruleOrdersRow : OpenClaim := { program := "ytpamnknfccmgcaa", sum := "a6fc8fd53312afe988688be21471d2f37ad7b3c32f7f05c24ccf7e80fdb03d9e", func := "periscope/periscopelaw12.RuleOrders", spec := "ruleOrders", unfollowed := true, recurses := true, apart := false }
def RuleOrdersSaid : Prop := ruleOrdersRow.holds Try.pinned (OpenSpec.ofChange ruleOrdersSpec)

/-- ITS FALSE NEIGHBOUR: 'it returns false'. Refute it at one input. -/
def ruleOrdersWrong : ChangeSpec := { name := "ruleOrders", fn := fun _ => fun
  | [d1, d2] => { results := [.lit (.bool false)], args := [d1, d2] }
  | _ => none }
def RuleOrdersWrongFalsely : Prop := ruleOrdersRow.holds Try.pinned (OpenSpec.ofChange ruleOrdersWrong)

/-- 'periscopelaw14.TableCompiles': WHATEVER THE INPUT: true; the input reads as it did. -/
def tableCompilesSpec : ChangeSpec := { name := "tableCompiles", fn := fun _ => fun
  | [d1, d2, d3] => { results := [.lit (.bool true)], args := [d1, d2, d3] }
  | _ => none }
def tableCompilesRow : OpenClaim := { program := "ytpamnknfccmgcaa", sum := "a6fc8fd53312afe988688be21471d2f37ad7b3c32f7f05c24ccf7e80fdb03d9e", func := "periscope/periscopelaw14.TableCompiles", spec := "tableCompiles", unfollowed := true, recurses := true, apart := false }
def TableCompilesSaid : Prop := tableCompilesRow.holds Try.pinned (OpenSpec.ofChange tableCompilesSpec)

/-- ITS FALSE NEIGHBOUR: 'it returns false'. Refute it at one input. -/
def tableCompilesWrong : ChangeSpec := { name := "tableCompiles", fn := fun _ => fun
  | [d1, d2, d3] => { results := [.lit (.bool false)], args := [d1, d2, d3] }
  | _ => none }
def TableCompilesWrongFalsely : Prop := tableCompilesRow.holds Try.pinned (OpenSpec.ofChange tableCompilesWrong)

/-- 'periscopelaw14.TableLooks': WHATEVER THE INPUT: true; the input reads as it did. -/
def tableLooksSpec : ChangeSpec := { name := "tableLooks", fn := fun _ => fun
  | [d1, d2, d3] => { results := [.lit (.bool true)], args := [d1, d2, d3] }
  | _ => none }
def tableLooksRow : OpenClaim := { program := "ytpamnknfccmgcaa", sum := "a6fc8fd53312afe988688be21471d2f37ad7b3c32f7f05c24ccf7e80fdb03d9e", func := "periscope/periscopelaw14.TableLooks", spec := "tableLooks", unfollowed := true, recurses := true, apart := false }
def TableLooksSaid : Prop := tableLooksRow.holds Try.pinned (OpenSpec.ofChange tableLooksSpec)

/-- ITS FALSE NEIGHBOUR: 'it returns false'. Refute it at one input. -/
def tableLooksWrong : ChangeSpec := { name := "tableLooks", fn := fun _ => fun
  | [d1, d2, d3] => { results := [.lit (.bool false)], args := [d1, d2, d3] }
  | _ => none }
def TableLooksWrongFalsely : Prop := tableLooksRow.holds Try.pinned (OpenSpec.ofChange tableLooksWrong)

/-- 'periscopelaw14.TableFirst': WHATEVER THE INPUT: true; the input reads as it did. -/
def tableFirstSpec : ChangeSpec := { name := "tableFirst", fn := fun _ => fun
  | [d1, d2, d3] => { results := [.lit (.bool true)], args := [d1, d2, d3] }
  | _ => none }
def tableFirstRow : OpenClaim := { program := "ytpamnknfccmgcaa", sum := "a6fc8fd53312afe988688be21471d2f37ad7b3c32f7f05c24ccf7e80fdb03d9e", func := "periscope/periscopelaw14.TableFirst", spec := "tableFirst", unfollowed := true, recurses := true, apart := false }
def TableFirstSaid : Prop := tableFirstRow.holds Try.pinned (OpenSpec.ofChange tableFirstSpec)

/-- ITS FALSE NEIGHBOUR: 'it returns false'. Refute it at one input. -/
def tableFirstWrong : ChangeSpec := { name := "tableFirst", fn := fun _ => fun
  | [d1, d2, d3] => { results := [.lit (.bool false)], args := [d1, d2, d3] }
  | _ => none }
def TableFirstWrongFalsely : Prop := tableFirstRow.holds Try.pinned (OpenSpec.ofChange tableFirstWrong)

/-- 'periscopelaw16.DecideSays': WHATEVER THE INPUT: true; the input reads as it did. -/
def decideSaysSpec : ChangeSpec := { name := "decideSays", fn := fun _ => fun
  | [d1, d2, d3, d4] => { results := [.lit (.bool true)], args := [d1, d2, d3, d4] }
  | _ => none }
def decideSaysRow : OpenClaim := { program := "ytpamnknfccmgcaa", sum := "a6fc8fd53312afe988688be21471d2f37ad7b3c32f7f05c24ccf7e80fdb03d9e", func := "periscope/periscopelaw16.DecideSays", spec := "decideSays", unfollowed := true, recurses := true, apart := false }
def DecideSaysSaid : Prop := decideSaysRow.holds Try.pinned (OpenSpec.ofChange decideSaysSpec)

/-- ITS FALSE NEIGHBOUR: 'it returns false'. Refute it at one input. -/
def decideSaysWrong : ChangeSpec := { name := "decideSays", fn := fun _ => fun
  | [d1, d2, d3, d4] => { results := [.lit (.bool false)], args := [d1, d2, d3, d4] }
  | _ => none }
def DecideSaysWrongFalsely : Prop := decideSaysRow.holds Try.pinned (OpenSpec.ofChange decideSaysWrong)

/-- 'periscopelaw16.DecideOnce': WHATEVER THE INPUT: true; the input reads as it did. -/
def decideOnceSpec : ChangeSpec := { name := "decideOnce", fn := fun _ => fun
  | [d1, d2, d3] => { results := [.lit (.bool true)], args := [d1, d2, d3] }
  | _ => none }
def decideOnceRow : OpenClaim := { program := "ytpamnknfccmgcaa", sum := "a6fc8fd53312afe988688be21471d2f37ad7b3c32f7f05c24ccf7e80fdb03d9e", func := "periscope/periscopelaw16.DecideOnce", spec := "decideOnce", unfollowed := true, recurses := true, apart := false }
def DecideOnceSaid : Prop := decideOnceRow.holds Try.pinned (OpenSpec.ofChange decideOnceSpec)

/-- ITS FALSE NEIGHBOUR: 'it returns false'. Refute it at one input. -/
def decideOnceWrong : ChangeSpec := { name := "decideOnce", fn := fun _ => fun
  | [d1, d2, d3] => { results := [.lit (.bool false)], args := [d1, d2, d3] }
  | _ => none }
def DecideOnceWrongFalsely : Prop := decideOnceRow.holds Try.pinned (OpenSpec.ofChange decideOnceWrong)

/-- 'periscopelaw16.DecideLeft': WHATEVER THE INPUT: true; the input reads as it did. -/
def decideLeftSpec : ChangeSpec := { name := "decideLeft", fn := fun _ => fun
  | [d1, d2, d3, d4] => { results := [.lit (.bool true)], args := [d1, d2, d3, d4] }
  | _ => none }
def decideLeftRow : OpenClaim := { program := "ytpamnknfccmgcaa", sum := "a6fc8fd53312afe988688be21471d2f37ad7b3c32f7f05c24ccf7e80fdb03d9e", func := "periscope/periscopelaw16.DecideLeft", spec := "decideLeft", unfollowed := true, recurses := true, apart := false }
def DecideLeftSaid : Prop := decideLeftRow.holds Try.pinned (OpenSpec.ofChange decideLeftSpec)

/-- ITS FALSE NEIGHBOUR: 'it returns false'. Refute it at one input. -/
def decideLeftWrong : ChangeSpec := { name := "decideLeft", fn := fun _ => fun
  | [d1, d2, d3, d4] => { results := [.lit (.bool false)], args := [d1, d2, d3, d4] }
  | _ => none }
def DecideLeftWrongFalsely : Prop := decideLeftRow.holds Try.pinned (OpenSpec.ofChange decideLeftWrong)

/-- 'periscopelaw35.GraphChecks': WHATEVER THE INPUT: true; the input reads as it did. -/
def graphChecksSpec : ChangeSpec := { name := "graphChecks", fn := fun _ => fun
  | [d] => { results := [.lit (.bool true)], args := [d] }
  | _ => none }
def graphChecksRow : OpenClaim := { program := "ytpamnknfccmgcaa", sum := "a6fc8fd53312afe988688be21471d2f37ad7b3c32f7f05c24ccf7e80fdb03d9e", func := "periscope/periscopelaw35.GraphChecks", spec := "graphChecks", unfollowed := true, recurses := true, apart := false }
def GraphChecksSaid : Prop := graphChecksRow.holds Try.pinned (OpenSpec.ofChange graphChecksSpec)

/-- ITS FALSE NEIGHBOUR: 'it returns false'. Refute it at one input. -/
def graphChecksWrong : ChangeSpec := { name := "graphChecks", fn := fun _ => fun
  | [d] => { results := [.lit (.bool false)], args := [d] }
  | _ => none }
def GraphChecksWrongFalsely : Prop := graphChecksRow.holds Try.pinned (OpenSpec.ofChange graphChecksWrong)

/-- 'periscopelaw35.GraphFinds': WHATEVER THE INPUT: true; the input reads as it did. -/
def graphFindsSpec : ChangeSpec := { name := "graphFinds", fn := fun _ => fun
  | [d1, d2, d3, d4] => { results := [.lit (.bool true)], args := [d1, d2, d3, d4] }
  | _ => none }
def graphFindsRow : OpenClaim := { program := "ytpamnknfccmgcaa", sum := "a6fc8fd53312afe988688be21471d2f37ad7b3c32f7f05c24ccf7e80fdb03d9e", func := "periscope/periscopelaw35.GraphFinds", spec := "graphFinds", unfollowed := true, recurses := true, apart := false }
def GraphFindsSaid : Prop := graphFindsRow.holds Try.pinned (OpenSpec.ofChange graphFindsSpec)

/-- ITS FALSE NEIGHBOUR: 'it returns false'. Refute it at one input. -/
def graphFindsWrong : ChangeSpec := { name := "graphFinds", fn := fun _ => fun
  | [d1, d2, d3, d4] => { results := [.lit (.bool false)], args := [d1, d2, d3, d4] }
  | _ => none }
def GraphFindsWrongFalsely : Prop := graphFindsRow.holds Try.pinned (OpenSpec.ofChange graphFindsWrong)

/-- 'periscopelaw35.GraphMore': WHATEVER THE INPUT: true; the input reads as it did. -/
def graphMoreSpec : ChangeSpec := { name := "graphMore", fn := fun _ => fun
  | [d1, d2, d3] => { results := [.lit (.bool true)], args := [d1, d2, d3] }
  | _ => none }
def graphMoreRow : OpenClaim := { program := "ytpamnknfccmgcaa", sum := "a6fc8fd53312afe988688be21471d2f37ad7b3c32f7f05c24ccf7e80fdb03d9e", func := "periscope/periscopelaw35.GraphMore", spec := "graphMore", unfollowed := true, recurses := true, apart := false }
def GraphMoreSaid : Prop := graphMoreRow.holds Try.pinned (OpenSpec.ofChange graphMoreSpec)

/-- ITS FALSE NEIGHBOUR: 'it returns false'. Refute it at one input. -/
def graphMoreWrong : ChangeSpec := { name := "graphMore", fn := fun _ => fun
  | [d1, d2, d3] => { results := [.lit (.bool false)], args := [d1, d2, d3] }
  | _ => none }
def GraphMoreWrongFalsely : Prop := graphMoreRow.holds Try.pinned (OpenSpec.ofChange graphMoreWrong)

/-- 'periscopelaw17.SnapPlays': WHATEVER THE INPUT: true; the input reads as it did. -/
def snapPlaysSpec : ChangeSpec := { name := "snapPlays", fn := fun _ => fun
  | [d1, d2] => { results := [.lit (.bool true)], args := [d1, d2] }
  | _ => none }
def snapPlaysRow : OpenClaim := { program := "ytpamnknfccmgcaa", sum := "a6fc8fd53312afe988688be21471d2f37ad7b3c32f7f05c24ccf7e80fdb03d9e", func := "periscope/periscopelaw17.SnapPlays", spec := "snapPlays", inPlace := ["sync/atomic.LoadInt64", "sync/atomic.AddInt64", "sync/atomic.StoreInt64"], unfollowed := true, recurses := true, apart := false }
def SnapPlaysSaid : Prop := snapPlaysRow.holds Try.pinned (OpenSpec.ofChange snapPlaysSpec)

/-- ITS FALSE NEIGHBOUR: 'it returns false'. Refute it at one input. -/
def snapPlaysWrong : ChangeSpec := { name := "snapPlays", fn := fun _ => fun
  | [d1, d2] => { results := [.lit (.bool false)], args := [d1, d2] }
  | _ => none }
def SnapPlaysWrongFalsely : Prop := snapPlaysRow.holds Try.pinned (OpenSpec.ofChange snapPlaysWrong)

/-- 'periscopelaw17.SnapRises': WHATEVER THE INPUT: true; the input reads as it did. -/
def snapRisesSpec : ChangeSpec := { name := "snapRises", fn := fun _ => fun
  | [d1, d2] => { results := [.lit (.bool true)], args := [d1, d2] }
  | _ => none }
def snapRisesRow : OpenClaim := { program := "ytpamnknfccmgcaa", sum := "a6fc8fd53312afe988688be21471d2f37ad7b3c32f7f05c24ccf7e80fdb03d9e", func := "periscope/periscopelaw17.SnapRises", spec := "snapRises", inPlace := ["sync/atomic.LoadInt64", "sync/atomic.AddInt64", "sync/atomic.StoreInt64"], unfollowed := true, recurses := true, apart := false }
def SnapRisesSaid : Prop := snapRisesRow.holds Try.pinned (OpenSpec.ofChange snapRisesSpec)

/-- ITS FALSE NEIGHBOUR: 'it returns false'. Refute it at one input. -/
def snapRisesWrong : ChangeSpec := { name := "snapRises", fn := fun _ => fun
  | [d1, d2] => { results := [.lit (.bool false)], args := [d1, d2] }
  | _ => none }
def SnapRisesWrongFalsely : Prop := snapRisesRow.holds Try.pinned (OpenSpec.ofChange snapRisesWrong)

/-- 'periscopelaw17.SnapAlone': WHATEVER THE INPUT: true; the input reads as it did. -/
def snapAloneSpec : ChangeSpec := { name := "snapAlone", fn := fun _ => fun
  | [d1, d2] => { results := [.lit (.bool true)], args := [d1, d2] }
  | _ => none }
def snapAloneRow : OpenClaim := { program := "ytpamnknfccmgcaa", sum := "a6fc8fd53312afe988688be21471d2f37ad7b3c32f7f05c24ccf7e80fdb03d9e", func := "periscope/periscopelaw17.SnapAlone", spec := "snapAlone", inPlace := ["sync/atomic.LoadInt64", "sync/atomic.AddInt64", "sync/atomic.StoreInt64"], unfollowed := true, recurses := true, apart := false }
def SnapAloneSaid : Prop := snapAloneRow.holds Try.pinned (OpenSpec.ofChange snapAloneSpec)

/-- ITS FALSE NEIGHBOUR: 'it returns false'. Refute it at one input. -/
def snapAloneWrong : ChangeSpec := { name := "snapAlone", fn := fun _ => fun
  | [d1, d2] => { results := [.lit (.bool false)], args := [d1, d2] }
  | _ => none }
def SnapAloneWrongFalsely : Prop := snapAloneRow.holds Try.pinned (OpenSpec.ofChange snapAloneWrong)

/- THE SECOND FORM. 'bulk': how many values and letters a reading holds, each counted each time it is reached (what is shared counts as often as it is met; a slice's spare places count too). A statement '..UptoSaid' is the law's where the arguments, and the package variables that the reading takes, are together of bulk at most 1048576: NARROWER than '..Said'. Prove '..Said' where nothing that the law and all that it calls make is longer than what came in: it says more and counts as full. Else prove '..UptoSaid'. A law counts once. -/
mutual
def uptoBulk {H : Type} : DataW H → Nat
  | .lit (.string bytes) => bytes.length + 1
  | .lit _ => 1
  | .nil => 1
  | .ptr d => uptoBulk d + 1
  | .slice elems spare => uptoBulkAll elems + uptoBulkAll spare + 1
  | .agg parts => uptoBulkAll parts + 1
  | .iface _ d => uptoBulk d + 1
  | .map entries => uptoBulkEntries entries + 1
  | .held _ => 1
def uptoBulkAll {H : Type} : List (DataW H) → Nat
  | [] => 0
  | d :: r => uptoBulk d + uptoBulkAll r
def uptoBulkEntries {H : Type} : List (Lit × DataW H) → Nat
  | [] => 0
  | x :: r => uptoBulkEntry x + uptoBulkEntries r
def uptoBulkEntry {H : Type} : Lit × DataW H → Nat
  | (.string bytes, d) => bytes.length + uptoBulk d + 1
  | (_, d) => uptoBulk d + 1
 end
def uptoSmall : (H : Type) → List (DataW H) → Bool := fun _ ds => decide (uptoBulkAll ds ≤ 1048576)
def OpenSpec.upto (s : _root_.Go.ChangeSpec) : _root_.Go.OpenSpec := { _root_.Go.OpenSpec.ofChange s with cond := some uptoSmall }

/-- 'periscopelaw04.HeadMay', WHERE WHAT IT READS IS OF BULK AT MOST 1048576: true; the input reads as it did. -/
def headMayUptoRow : OpenClaim := { program := "ytpamnknfccmgcaa", sum := "a6fc8fd53312afe988688be21471d2f37ad7b3c32f7f05c24ccf7e80fdb03d9e", func := "periscope/periscopelaw04.HeadMay", spec := "headMay", unfollowed := true, recurses := true, apart := false, narrowed := true }
def HeadMayUptoSaid : Prop := headMayUptoRow.holds Try.pinned (OpenSpec.upto headMaySpec)

/-- 'periscopelaw04.HeadLists', WHERE WHAT IT READS IS OF BULK AT MOST 1048576: true; the input reads as it did. -/
def headListsUptoRow : OpenClaim := { program := "ytpamnknfccmgcaa", sum := "a6fc8fd53312afe988688be21471d2f37ad7b3c32f7f05c24ccf7e80fdb03d9e", func := "periscope/periscopelaw04.HeadLists", spec := "headLists", unfollowed := true, recurses := true, apart := false, narrowed := true }
def HeadListsUptoSaid : Prop := headListsUptoRow.holds Try.pinned (OpenSpec.upto headListsSpec)

/-- 'periscopelaw04.HeadSets', WHERE WHAT IT READS IS OF BULK AT MOST 1048576: true; the input reads as it did. -/
def headSetsUptoRow : OpenClaim := { program := "ytpamnknfccmgcaa", sum := "a6fc8fd53312afe988688be21471d2f37ad7b3c32f7f05c24ccf7e80fdb03d9e", func := "periscope/periscopelaw04.HeadSets", spec := "headSets", unfollowed := true, recurses := true, apart := false, narrowed := true }
def HeadSetsUptoSaid : Prop := headSetsUptoRow.holds Try.pinned (OpenSpec.upto headSetsSpec)

/-- 'periscopelaw07.ParentReads', WHERE WHAT IT READS IS OF BULK AT MOST 1048576: true; the input reads as it did. -/
def parentReadsUptoRow : OpenClaim := { program := "ytpamnknfccmgcaa", sum := "a6fc8fd53312afe988688be21471d2f37ad7b3c32f7f05c24ccf7e80fdb03d9e", func := "periscope/periscopelaw07.ParentReads", spec := "parentReads", apart := false, narrowed := true }
def ParentReadsUptoSaid : Prop := parentReadsUptoRow.holds Try.pinned (OpenSpec.upto parentReadsSpec)

/-- 'periscopelaw07.ParentWrites', WHERE WHAT IT READS IS OF BULK AT MOST 1048576: true; the input reads as it did. -/
def parentWritesUptoRow : OpenClaim := { program := "ytpamnknfccmgcaa", sum := "a6fc8fd53312afe988688be21471d2f37ad7b3c32f7f05c24ccf7e80fdb03d9e", func := "periscope/periscopelaw07.ParentWrites", spec := "parentWrites", apart := false, narrowed := true }
def ParentWritesUptoSaid : Prop := parentWritesUptoRow.holds Try.pinned (OpenSpec.upto parentWritesSpec)

/-- 'periscopelaw07.ParentBack', WHERE WHAT IT READS IS OF BULK AT MOST 1048576: true; the input reads as it did. -/
def parentBackUptoRow : OpenClaim := { program := "ytpamnknfccmgcaa", sum := "a6fc8fd53312afe988688be21471d2f37ad7b3c32f7f05c24ccf7e80fdb03d9e", func := "periscope/periscopelaw07.ParentBack", spec := "parentBack", apart := false, narrowed := true }
def ParentBackUptoSaid : Prop := parentBackUptoRow.holds Try.pinned (OpenSpec.upto parentBackSpec)

/-- 'periscopelaw11.PredChecks', WHERE WHAT IT READS IS OF BULK AT MOST 1048576: true; the input reads as it did. -/
def predChecksUptoRow : OpenClaim := { program := "ytpamnknfccmgcaa", sum := "a6fc8fd53312afe988688be21471d2f37ad7b3c32f7f05c24ccf7e80fdb03d9e", func := "periscope/periscopelaw11.PredChecks", spec := "predChecks", unfollowed := true, recurses := true, apart := false, narrowed := true }
def PredChecksUptoSaid : Prop := predChecksUptoRow.holds Try.pinned (OpenSpec.upto predChecksSpec)

/-- 'periscopelaw11.PredMatches', WHERE WHAT IT READS IS OF BULK AT MOST 1048576: true; the input reads as it did. -/
def predMatchesUptoRow : OpenClaim := { program := "ytpamnknfccmgcaa", sum := "a6fc8fd53312afe988688be21471d2f37ad7b3c32f7f05c24ccf7e80fdb03d9e", func := "periscope/periscopelaw11.PredMatches", spec := "predMatches", unfollowed := true, recurses := true, apart := false, narrowed := true }
def PredMatchesUptoSaid : Prop := predMatchesUptoRow.holds Try.pinned (OpenSpec.upto predMatchesSpec)

/-- 'periscopelaw11.PredMore', WHERE WHAT IT READS IS OF BULK AT MOST 1048576: true; the input reads as it did. -/
def predMoreUptoRow : OpenClaim := { program := "ytpamnknfccmgcaa", sum := "a6fc8fd53312afe988688be21471d2f37ad7b3c32f7f05c24ccf7e80fdb03d9e", func := "periscope/periscopelaw11.PredMore", spec := "predMore", unfollowed := true, recurses := true, apart := false, narrowed := true }
def PredMoreUptoSaid : Prop := predMoreUptoRow.holds Try.pinned (OpenSpec.upto predMoreSpec)

/-- 'periscopelaw12.RuleChecks', WHERE WHAT IT READS IS OF BULK AT MOST 1048576: true; the input reads as it did. -/
def ruleChecksUptoRow : OpenClaim := { program := "ytpamnknfccmgcaa", sum := "a6fc8fd53312afe988688be21471d2f37ad7b3c32f7f05c24ccf7e80fdb03d9e", func := "periscope/periscopelaw12.RuleChecks", spec := "ruleChecks", unfollowed := true, recurses := true, apart := false, narrowed := true }
def RuleChecksUptoSaid : Prop := ruleChecksUptoRow.holds Try.pinned (OpenSpec.upto ruleChecksSpec)

/-- 'periscopelaw12.RuleFinds', WHERE WHAT IT READS IS OF BULK AT MOST 1048576: true; the input reads as it did. -/
def ruleFindsUptoRow : OpenClaim := { program := "ytpamnknfccmgcaa", sum := "a6fc8fd53312afe988688be21471d2f37ad7b3c32f7f05c24ccf7e80fdb03d9e", func := "periscope/periscopelaw12.RuleFinds", spec := "ruleFinds", unfollowed := true, recurses := true, apart := false, narrowed := true }
def RuleFindsUptoSaid : Prop := ruleFindsUptoRow.holds Try.pinned (OpenSpec.upto ruleFindsSpec)

/-- 'periscopelaw12.RuleOrders', WHERE WHAT IT READS IS OF BULK AT MOST 1048576: true; the input reads as it did. -/
def ruleOrdersUptoRow : OpenClaim := { program := "ytpamnknfccmgcaa", sum := "a6fc8fd53312afe988688be21471d2f37ad7b3c32f7f05c24ccf7e80fdb03d9e", func := "periscope/periscopelaw12.RuleOrders", spec := "ruleOrders", unfollowed := true, recurses := true, apart := false, narrowed := true }
def RuleOrdersUptoSaid : Prop := ruleOrdersUptoRow.holds Try.pinned (OpenSpec.upto ruleOrdersSpec)

/-- 'periscopelaw14.TableCompiles', WHERE WHAT IT READS IS OF BULK AT MOST 1048576: true; the input reads as it did. -/
def tableCompilesUptoRow : OpenClaim := { program := "ytpamnknfccmgcaa", sum := "a6fc8fd53312afe988688be21471d2f37ad7b3c32f7f05c24ccf7e80fdb03d9e", func := "periscope/periscopelaw14.TableCompiles", spec := "tableCompiles", unfollowed := true, recurses := true, apart := false, narrowed := true }
def TableCompilesUptoSaid : Prop := tableCompilesUptoRow.holds Try.pinned (OpenSpec.upto tableCompilesSpec)

/-- 'periscopelaw14.TableLooks', WHERE WHAT IT READS IS OF BULK AT MOST 1048576: true; the input reads as it did. -/
def tableLooksUptoRow : OpenClaim := { program := "ytpamnknfccmgcaa", sum := "a6fc8fd53312afe988688be21471d2f37ad7b3c32f7f05c24ccf7e80fdb03d9e", func := "periscope/periscopelaw14.TableLooks", spec := "tableLooks", unfollowed := true, recurses := true, apart := false, narrowed := true }
def TableLooksUptoSaid : Prop := tableLooksUptoRow.holds Try.pinned (OpenSpec.upto tableLooksSpec)

/-- 'periscopelaw14.TableFirst', WHERE WHAT IT READS IS OF BULK AT MOST 1048576: true; the input reads as it did. -/
def tableFirstUptoRow : OpenClaim := { program := "ytpamnknfccmgcaa", sum := "a6fc8fd53312afe988688be21471d2f37ad7b3c32f7f05c24ccf7e80fdb03d9e", func := "periscope/periscopelaw14.TableFirst", spec := "tableFirst", unfollowed := true, recurses := true, apart := false, narrowed := true }
def TableFirstUptoSaid : Prop := tableFirstUptoRow.holds Try.pinned (OpenSpec.upto tableFirstSpec)

/-- 'periscopelaw16.DecideSays', WHERE WHAT IT READS IS OF BULK AT MOST 1048576: true; the input reads as it did. -/
def decideSaysUptoRow : OpenClaim := { program := "ytpamnknfccmgcaa", sum := "a6fc8fd53312afe988688be21471d2f37ad7b3c32f7f05c24ccf7e80fdb03d9e", func := "periscope/periscopelaw16.DecideSays", spec := "decideSays", unfollowed := true, recurses := true, apart := false, narrowed := true }
def DecideSaysUptoSaid : Prop := decideSaysUptoRow.holds Try.pinned (OpenSpec.upto decideSaysSpec)

/-- 'periscopelaw16.DecideOnce', WHERE WHAT IT READS IS OF BULK AT MOST 1048576: true; the input reads as it did. -/
def decideOnceUptoRow : OpenClaim := { program := "ytpamnknfccmgcaa", sum := "a6fc8fd53312afe988688be21471d2f37ad7b3c32f7f05c24ccf7e80fdb03d9e", func := "periscope/periscopelaw16.DecideOnce", spec := "decideOnce", unfollowed := true, recurses := true, apart := false, narrowed := true }
def DecideOnceUptoSaid : Prop := decideOnceUptoRow.holds Try.pinned (OpenSpec.upto decideOnceSpec)

/-- 'periscopelaw16.DecideLeft', WHERE WHAT IT READS IS OF BULK AT MOST 1048576: true; the input reads as it did. -/
def decideLeftUptoRow : OpenClaim := { program := "ytpamnknfccmgcaa", sum := "a6fc8fd53312afe988688be21471d2f37ad7b3c32f7f05c24ccf7e80fdb03d9e", func := "periscope/periscopelaw16.DecideLeft", spec := "decideLeft", unfollowed := true, recurses := true, apart := false, narrowed := true }
def DecideLeftUptoSaid : Prop := decideLeftUptoRow.holds Try.pinned (OpenSpec.upto decideLeftSpec)

/-- 'periscopelaw35.GraphChecks', WHERE WHAT IT READS IS OF BULK AT MOST 1048576: true; the input reads as it did. -/
def graphChecksUptoRow : OpenClaim := { program := "ytpamnknfccmgcaa", sum := "a6fc8fd53312afe988688be21471d2f37ad7b3c32f7f05c24ccf7e80fdb03d9e", func := "periscope/periscopelaw35.GraphChecks", spec := "graphChecks", unfollowed := true, recurses := true, apart := false, narrowed := true }
def GraphChecksUptoSaid : Prop := graphChecksUptoRow.holds Try.pinned (OpenSpec.upto graphChecksSpec)

/-- 'periscopelaw35.GraphFinds', WHERE WHAT IT READS IS OF BULK AT MOST 1048576: true; the input reads as it did. -/
def graphFindsUptoRow : OpenClaim := { program := "ytpamnknfccmgcaa", sum := "a6fc8fd53312afe988688be21471d2f37ad7b3c32f7f05c24ccf7e80fdb03d9e", func := "periscope/periscopelaw35.GraphFinds", spec := "graphFinds", unfollowed := true, recurses := true, apart := false, narrowed := true }
def GraphFindsUptoSaid : Prop := graphFindsUptoRow.holds Try.pinned (OpenSpec.upto graphFindsSpec)

/-- 'periscopelaw35.GraphMore', WHERE WHAT IT READS IS OF BULK AT MOST 1048576: true; the input reads as it did. -/
def graphMoreUptoRow : OpenClaim := { program := "ytpamnknfccmgcaa", sum := "a6fc8fd53312afe988688be21471d2f37ad7b3c32f7f05c24ccf7e80fdb03d9e", func := "periscope/periscopelaw35.GraphMore", spec := "graphMore", unfollowed := true, recurses := true, apart := false, narrowed := true }
def GraphMoreUptoSaid : Prop := graphMoreUptoRow.holds Try.pinned (OpenSpec.upto graphMoreSpec)

/-- 'periscopelaw17.SnapPlays', WHERE WHAT IT READS IS OF BULK AT MOST 1048576: true; the input reads as it did. -/
def snapPlaysUptoRow : OpenClaim := { program := "ytpamnknfccmgcaa", sum := "a6fc8fd53312afe988688be21471d2f37ad7b3c32f7f05c24ccf7e80fdb03d9e", func := "periscope/periscopelaw17.SnapPlays", spec := "snapPlays", inPlace := ["sync/atomic.LoadInt64", "sync/atomic.AddInt64", "sync/atomic.StoreInt64"], unfollowed := true, recurses := true, apart := false, narrowed := true }
def SnapPlaysUptoSaid : Prop := snapPlaysUptoRow.holds Try.pinned (OpenSpec.upto snapPlaysSpec)

/-- 'periscopelaw17.SnapRises', WHERE WHAT IT READS IS OF BULK AT MOST 1048576: true; the input reads as it did. -/
def snapRisesUptoRow : OpenClaim := { program := "ytpamnknfccmgcaa", sum := "a6fc8fd53312afe988688be21471d2f37ad7b3c32f7f05c24ccf7e80fdb03d9e", func := "periscope/periscopelaw17.SnapRises", spec := "snapRises", inPlace := ["sync/atomic.LoadInt64", "sync/atomic.AddInt64", "sync/atomic.StoreInt64"], unfollowed := true, recurses := true, apart := false, narrowed := true }
def SnapRisesUptoSaid : Prop := snapRisesUptoRow.holds Try.pinned (OpenSpec.upto snapRisesSpec)

/-- 'periscopelaw17.SnapAlone', WHERE WHAT IT READS IS OF BULK AT MOST 1048576: true; the input reads as it did. -/
def snapAloneUptoRow : OpenClaim := { program := "ytpamnknfccmgcaa", sum := "a6fc8fd53312afe988688be21471d2f37ad7b3c32f7f05c24ccf7e80fdb03d9e", func := "periscope/periscopelaw17.SnapAlone", spec := "snapAlone", inPlace := ["sync/atomic.LoadInt64", "sync/atomic.AddInt64", "sync/atomic.StoreInt64"], unfollowed := true, recurses := true, apart := false, narrowed := true }
def SnapAloneUptoSaid : Prop := snapAloneUptoRow.holds Try.pinned (OpenSpec.upto snapAloneSpec)

end Rows
end Go.Proofs.Ytpamnknfccmgcaa
