/-
  No cell of these rows narrows 'for every input' (looked for: loops, veiled, ifaces, maps, wideKeys, modest, calm, conditions, laid).
  DERIVED. THE GIVEN ROWS OF THIS SEAT. 14 by the template 'for every input the law returns true; each argument reads behind the call as it read before'; 0 by the template 'total and deterministic' (their statements: YtmmmaldpalhjeaaTotals.lean).
  GIVEN WITH THE SEED: the statements are not yours to turn. If you find one false, say at which input.
  Laid BY PROGRAM, IN A SANDBOX (cutbox-rows.mjs): the forced cells as the released guide's own fill.sh prints them over the translation 163cc573e8cf54d0… (all of the seat's roots in one cut). By AI agents, Wed Nov 11 2026. No macro, syntax, notation, axiom, sorry.
-/
import Derived.Test.YtmmmaldpalhjeaaChecked
import GoSem.Claim
import GoSem.ClaimJoined
import GoSem.ClaimMapViews
import Derived.JoinedTies
import Derived.KernelRfl
namespace Go.Proofs.Ytmmmaldpalhjeaa
/- THE CELL 'sum', in the pinned program and in every row, IS THE sha256 OF THE DUMP (.gsa) THAT YtmmmaldpalhjeaaProg.lean LOADS. Nothing in Lean hashes anything: it is a label: what it is worth is what the hold of that sum in a sandbox is worth. -/
noncomputable def Try.pinned : Pinned := { name := "ytmmmaldpalhjeaa", sum := "163cc573e8cf54d0966a65c7938cabe795f5743de9e46df8f65bea5d8bfb4520", checked := Try.checked }
namespace Rows
def none {H : Type} : Left H := { results := [], args := [] }

/-- 'periscopelaw35.GraphChecks': WHATEVER THE INPUT: true; the input reads as it did. -/
def graphChecksSpec : ChangeSpec := { name := "graphChecks", fn := fun _ => fun
  | [d] => { results := [.lit (.bool true)], args := [d] }
  | _ => none }
def graphChecksRow : OpenClaim := { program := "ytmmmaldpalhjeaa", sum := "163cc573e8cf54d0966a65c7938cabe795f5743de9e46df8f65bea5d8bfb4520", func := "periscope/periscopelaw35.GraphChecks", spec := "graphChecks", unfollowed := true, recurses := true, apart := false }
def GraphChecksSaid : Prop := graphChecksRow.holds Try.pinned (OpenSpec.ofChange graphChecksSpec)

/-- ITS FALSE NEIGHBOUR: 'it returns false'. Refute it at one input. -/
def graphChecksWrong : ChangeSpec := { name := "graphChecks", fn := fun _ => fun
  | [d] => { results := [.lit (.bool false)], args := [d] }
  | _ => none }
def GraphChecksWrongFalsely : Prop := graphChecksRow.holds Try.pinned (OpenSpec.ofChange graphChecksWrong)

/-- 'periscopelaw35.GraphFinds': WHATEVER THE INPUT: true; the input reads as it did. -/
def graphFindsSpec : ChangeSpec := { name := "graphFinds", fn := fun _ => fun
  | [d1, d2, d3, d4] => { results := [.lit (.bool true)], args := [d1, d2, d3, d4] }
  | _ => none }
def graphFindsRow : OpenClaim := { program := "ytmmmaldpalhjeaa", sum := "163cc573e8cf54d0966a65c7938cabe795f5743de9e46df8f65bea5d8bfb4520", func := "periscope/periscopelaw35.GraphFinds", spec := "graphFinds", unfollowed := true, recurses := true, apart := false }
def GraphFindsSaid : Prop := graphFindsRow.holds Try.pinned (OpenSpec.ofChange graphFindsSpec)

/-- ITS FALSE NEIGHBOUR: 'it returns false'. Refute it at one input. -/
def graphFindsWrong : ChangeSpec := { name := "graphFinds", fn := fun _ => fun
  | [d1, d2, d3, d4] => { results := [.lit (.bool false)], args := [d1, d2, d3, d4] }
  | _ => none }
def GraphFindsWrongFalsely : Prop := graphFindsRow.holds Try.pinned (OpenSpec.ofChange graphFindsWrong)

/-- 'periscopelaw35.GraphMore': WHATEVER THE INPUT: true; the input reads as it did. -/
def graphMoreSpec : ChangeSpec := { name := "graphMore", fn := fun _ => fun
  | [d1, d2, d3] => { results := [.lit (.bool true)], args := [d1, d2, d3] }
  | _ => none }
def graphMoreRow : OpenClaim := { program := "ytmmmaldpalhjeaa", sum := "163cc573e8cf54d0966a65c7938cabe795f5743de9e46df8f65bea5d8bfb4520", func := "periscope/periscopelaw35.GraphMore", spec := "graphMore", unfollowed := true, recurses := true, apart := false }
def GraphMoreSaid : Prop := graphMoreRow.holds Try.pinned (OpenSpec.ofChange graphMoreSpec)

/-- ITS FALSE NEIGHBOUR: 'it returns false'. Refute it at one input. -/
def graphMoreWrong : ChangeSpec := { name := "graphMore", fn := fun _ => fun
  | [d1, d2, d3] => { results := [.lit (.bool false)], args := [d1, d2, d3] }
  | _ => none }
def GraphMoreWrongFalsely : Prop := graphMoreRow.holds Try.pinned (OpenSpec.ofChange graphMoreWrong)

/-- 'periscopelaw17.SnapPlays': WHATEVER THE INPUT: true; the input reads as it did. -/
def snapPlaysSpec : ChangeSpec := { name := "snapPlays", fn := fun _ => fun
  | [d1, d2] => { results := [.lit (.bool true)], args := [d1, d2] }
  | _ => none }
def snapPlaysRow : OpenClaim := { program := "ytmmmaldpalhjeaa", sum := "163cc573e8cf54d0966a65c7938cabe795f5743de9e46df8f65bea5d8bfb4520", func := "periscope/periscopelaw17.SnapPlays", spec := "snapPlays", inPlace := ["sync/atomic.LoadInt64", "sync/atomic.AddInt64", "sync/atomic.StoreInt64"], unfollowed := true, recurses := true, apart := false }
def SnapPlaysSaid : Prop := snapPlaysRow.holds Try.pinned (OpenSpec.ofChange snapPlaysSpec)

/-- ITS FALSE NEIGHBOUR: 'it returns false'. Refute it at one input. -/
def snapPlaysWrong : ChangeSpec := { name := "snapPlays", fn := fun _ => fun
  | [d1, d2] => { results := [.lit (.bool false)], args := [d1, d2] }
  | _ => none }
def SnapPlaysWrongFalsely : Prop := snapPlaysRow.holds Try.pinned (OpenSpec.ofChange snapPlaysWrong)

/-- 'periscopelaw17.SnapRises': WHATEVER THE INPUT: true; the input reads as it did. -/
def snapRisesSpec : ChangeSpec := { name := "snapRises", fn := fun _ => fun
  | [d1, d2] => { results := [.lit (.bool true)], args := [d1, d2] }
  | _ => none }
def snapRisesRow : OpenClaim := { program := "ytmmmaldpalhjeaa", sum := "163cc573e8cf54d0966a65c7938cabe795f5743de9e46df8f65bea5d8bfb4520", func := "periscope/periscopelaw17.SnapRises", spec := "snapRises", inPlace := ["sync/atomic.LoadInt64", "sync/atomic.AddInt64", "sync/atomic.StoreInt64"], unfollowed := true, recurses := true, apart := false }
def SnapRisesSaid : Prop := snapRisesRow.holds Try.pinned (OpenSpec.ofChange snapRisesSpec)

/-- ITS FALSE NEIGHBOUR: 'it returns false'. Refute it at one input. -/
def snapRisesWrong : ChangeSpec := { name := "snapRises", fn := fun _ => fun
  | [d1, d2] => { results := [.lit (.bool false)], args := [d1, d2] }
  | _ => none }
def SnapRisesWrongFalsely : Prop := snapRisesRow.holds Try.pinned (OpenSpec.ofChange snapRisesWrong)

/-- 'periscopelaw17.SnapAlone': WHATEVER THE INPUT: true; the input reads as it did. -/
def snapAloneSpec : ChangeSpec := { name := "snapAlone", fn := fun _ => fun
  | [d1, d2] => { results := [.lit (.bool true)], args := [d1, d2] }
  | _ => none }
def snapAloneRow : OpenClaim := { program := "ytmmmaldpalhjeaa", sum := "163cc573e8cf54d0966a65c7938cabe795f5743de9e46df8f65bea5d8bfb4520", func := "periscope/periscopelaw17.SnapAlone", spec := "snapAlone", inPlace := ["sync/atomic.LoadInt64", "sync/atomic.AddInt64", "sync/atomic.StoreInt64"], unfollowed := true, recurses := true, apart := false }
def SnapAloneSaid : Prop := snapAloneRow.holds Try.pinned (OpenSpec.ofChange snapAloneSpec)

/-- ITS FALSE NEIGHBOUR: 'it returns false'. Refute it at one input. -/
def snapAloneWrong : ChangeSpec := { name := "snapAlone", fn := fun _ => fun
  | [d1, d2] => { results := [.lit (.bool false)], args := [d1, d2] }
  | _ => none }
def SnapAloneWrongFalsely : Prop := snapAloneRow.holds Try.pinned (OpenSpec.ofChange snapAloneWrong)

/-- 'periscopelaw12.RuleChecks': WHATEVER THE INPUT: true; the input reads as it did. -/
def ruleChecksSpec : ChangeSpec := { name := "ruleChecks", fn := fun _ => fun
  | [d1, d2] => { results := [.lit (.bool true)], args := [d1, d2] }
  | _ => none }
def ruleChecksRow : OpenClaim := { program := "ytmmmaldpalhjeaa", sum := "163cc573e8cf54d0966a65c7938cabe795f5743de9e46df8f65bea5d8bfb4520", func := "periscope/periscopelaw12.RuleChecks", spec := "ruleChecks", unfollowed := true, recurses := true, apart := false }
def RuleChecksSaid : Prop := ruleChecksRow.holds Try.pinned (OpenSpec.ofChange ruleChecksSpec)

/-- ITS FALSE NEIGHBOUR: 'it returns false'. Refute it at one input. -/
def ruleChecksWrong : ChangeSpec := { name := "ruleChecks", fn := fun _ => fun
  | [d1, d2] => { results := [.lit (.bool false)], args := [d1, d2] }
  | _ => none }
def RuleChecksWrongFalsely : Prop := ruleChecksRow.holds Try.pinned (OpenSpec.ofChange ruleChecksWrong)

/-- 'periscopelaw12.RuleFinds': WHATEVER THE INPUT: true; the input reads as it did. -/
def ruleFindsSpec : ChangeSpec := { name := "ruleFinds", fn := fun _ => fun
  | [d1, d2] => { results := [.lit (.bool true)], args := [d1, d2] }
  | _ => none }
def ruleFindsRow : OpenClaim := { program := "ytmmmaldpalhjeaa", sum := "163cc573e8cf54d0966a65c7938cabe795f5743de9e46df8f65bea5d8bfb4520", func := "periscope/periscopelaw12.RuleFinds", spec := "ruleFinds", unfollowed := true, recurses := true, apart := false }
def RuleFindsSaid : Prop := ruleFindsRow.holds Try.pinned (OpenSpec.ofChange ruleFindsSpec)

/-- ITS FALSE NEIGHBOUR: 'it returns false'. Refute it at one input. -/
def ruleFindsWrong : ChangeSpec := { name := "ruleFinds", fn := fun _ => fun
  | [d1, d2] => { results := [.lit (.bool false)], args := [d1, d2] }
  | _ => none }
def RuleFindsWrongFalsely : Prop := ruleFindsRow.holds Try.pinned (OpenSpec.ofChange ruleFindsWrong)

/-- 'periscopelaw12.RuleOrders': WHATEVER THE INPUT: true; the input reads as it did. -/
def ruleOrdersSpec : ChangeSpec := { name := "ruleOrders", fn := fun _ => fun
  | [d1, d2] => { results := [.lit (.bool true)], args := [d1, d2] }
  | _ => none }
def ruleOrdersRow : OpenClaim := { program := "ytmmmaldpalhjeaa", sum := "163cc573e8cf54d0966a65c7938cabe795f5743de9e46df8f65bea5d8bfb4520", func := "periscope/periscopelaw12.RuleOrders", spec := "ruleOrders", unfollowed := true, recurses := true, apart := false }
def RuleOrdersSaid : Prop := ruleOrdersRow.holds Try.pinned (OpenSpec.ofChange ruleOrdersSpec)

/-- ITS FALSE NEIGHBOUR: 'it returns false'. Refute it at one input. -/
def ruleOrdersWrong : ChangeSpec := { name := "ruleOrders", fn := fun _ => fun
  | [d1, d2] => { results := [.lit (.bool false)], args := [d1, d2] }
  | _ => none }
def RuleOrdersWrongFalsely : Prop := ruleOrdersRow.holds Try.pinned (OpenSpec.ofChange ruleOrdersWrong)

/-- 'periscopelaw27.ExportKeeps': WHATEVER THE INPUT: true; the input reads as it did. -/
def exportKeepsSpec : ChangeSpec := { name := "exportKeeps", fn := fun _ => fun
  | [d1, d2] => { results := [.lit (.bool true)], args := [d1, d2] }
  | _ => none }
def exportKeepsRow : OpenClaim := { program := "ytmmmaldpalhjeaa", sum := "163cc573e8cf54d0966a65c7938cabe795f5743de9e46df8f65bea5d8bfb4520", func := "periscope/periscopelaw27.ExportKeeps", spec := "exportKeeps", inPlace := ["sync/atomic.LoadInt64", "sync/atomic.StoreInt64", "sync/atomic.AddInt64"], unfollowed := true, recurses := true, apart := false }
def ExportKeepsSaid : Prop := exportKeepsRow.holds Try.pinned (OpenSpec.ofChange exportKeepsSpec)

/-- ITS FALSE NEIGHBOUR: 'it returns false'. Refute it at one input. -/
def exportKeepsWrong : ChangeSpec := { name := "exportKeeps", fn := fun _ => fun
  | [d1, d2] => { results := [.lit (.bool false)], args := [d1, d2] }
  | _ => none }
def ExportKeepsWrongFalsely : Prop := exportKeepsRow.holds Try.pinned (OpenSpec.ofChange exportKeepsWrong)

/-- 'periscopelaw27.ExportQuiet': WHATEVER THE INPUT: true; the input reads as it did. -/
def exportQuietSpec : ChangeSpec := { name := "exportQuiet", fn := fun _ => fun
  | [d1, d2, d3] => { results := [.lit (.bool true)], args := [d1, d2, d3] }
  | _ => none }
def exportQuietRow : OpenClaim := { program := "ytmmmaldpalhjeaa", sum := "163cc573e8cf54d0966a65c7938cabe795f5743de9e46df8f65bea5d8bfb4520", func := "periscope/periscopelaw27.ExportQuiet", spec := "exportQuiet", inPlace := ["sync/atomic.LoadInt64", "sync/atomic.StoreInt64", "sync/atomic.AddInt64"], unfollowed := true, recurses := true, apart := false }
def ExportQuietSaid : Prop := exportQuietRow.holds Try.pinned (OpenSpec.ofChange exportQuietSpec)

/-- ITS FALSE NEIGHBOUR: 'it returns false'. Refute it at one input. -/
def exportQuietWrong : ChangeSpec := { name := "exportQuiet", fn := fun _ => fun
  | [d1, d2, d3] => { results := [.lit (.bool false)], args := [d1, d2, d3] }
  | _ => none }
def ExportQuietWrongFalsely : Prop := exportQuietRow.holds Try.pinned (OpenSpec.ofChange exportQuietWrong)

/-- 'periscopelaw14.TableCompiles': WHATEVER THE INPUT: true; the input reads as it did. -/
def tableCompilesSpec : ChangeSpec := { name := "tableCompiles", fn := fun _ => fun
  | [d1, d2, d3] => { results := [.lit (.bool true)], args := [d1, d2, d3] }
  | _ => none }
def tableCompilesRow : OpenClaim := { program := "ytmmmaldpalhjeaa", sum := "163cc573e8cf54d0966a65c7938cabe795f5743de9e46df8f65bea5d8bfb4520", func := "periscope/periscopelaw14.TableCompiles", spec := "tableCompiles", unfollowed := true, recurses := true, apart := false }
def TableCompilesSaid : Prop := tableCompilesRow.holds Try.pinned (OpenSpec.ofChange tableCompilesSpec)

/-- ITS FALSE NEIGHBOUR: 'it returns false'. Refute it at one input. -/
def tableCompilesWrong : ChangeSpec := { name := "tableCompiles", fn := fun _ => fun
  | [d1, d2, d3] => { results := [.lit (.bool false)], args := [d1, d2, d3] }
  | _ => none }
def TableCompilesWrongFalsely : Prop := tableCompilesRow.holds Try.pinned (OpenSpec.ofChange tableCompilesWrong)

/-- 'periscopelaw14.TableLooks': WHATEVER THE INPUT: true; the input reads as it did. -/
def tableLooksSpec : ChangeSpec := { name := "tableLooks", fn := fun _ => fun
  | [d1, d2, d3] => { results := [.lit (.bool true)], args := [d1, d2, d3] }
  | _ => none }
def tableLooksRow : OpenClaim := { program := "ytmmmaldpalhjeaa", sum := "163cc573e8cf54d0966a65c7938cabe795f5743de9e46df8f65bea5d8bfb4520", func := "periscope/periscopelaw14.TableLooks", spec := "tableLooks", unfollowed := true, recurses := true, apart := false }
def TableLooksSaid : Prop := tableLooksRow.holds Try.pinned (OpenSpec.ofChange tableLooksSpec)

/-- ITS FALSE NEIGHBOUR: 'it returns false'. Refute it at one input. -/
def tableLooksWrong : ChangeSpec := { name := "tableLooks", fn := fun _ => fun
  | [d1, d2, d3] => { results := [.lit (.bool false)], args := [d1, d2, d3] }
  | _ => none }
def TableLooksWrongFalsely : Prop := tableLooksRow.holds Try.pinned (OpenSpec.ofChange tableLooksWrong)

/-- 'periscopelaw14.TableFirst': WHATEVER THE INPUT: true; the input reads as it did. -/
def tableFirstSpec : ChangeSpec := { name := "tableFirst", fn := fun _ => fun
  | [d1, d2, d3] => { results := [.lit (.bool true)], args := [d1, d2, d3] }
  | _ => none }
def tableFirstRow : OpenClaim := { program := "ytmmmaldpalhjeaa", sum := "163cc573e8cf54d0966a65c7938cabe795f5743de9e46df8f65bea5d8bfb4520", func := "periscope/periscopelaw14.TableFirst", spec := "tableFirst", unfollowed := true, recurses := true, apart := false }
def TableFirstSaid : Prop := tableFirstRow.holds Try.pinned (OpenSpec.ofChange tableFirstSpec)

/-- ITS FALSE NEIGHBOUR: 'it returns false'. Refute it at one input. -/
def tableFirstWrong : ChangeSpec := { name := "tableFirst", fn := fun _ => fun
  | [d1, d2, d3] => { results := [.lit (.bool false)], args := [d1, d2, d3] }
  | _ => none }
def TableFirstWrongFalsely : Prop := tableFirstRow.holds Try.pinned (OpenSpec.ofChange tableFirstWrong)

/- THE SECOND FORM. 'bulk': how many values and letters a reading holds, each counted each time it is reached (what is shared counts as often as it is met; a slice's spare places count too). A statement '..UptoSaid' is the law's where the arguments, and the package variables that the reading takes, are together of bulk at most 1048576: NARROWER than '..Said'. Prove '..Said' where nothing that the law and all that it calls make is longer than what came in: it says more and counts as full. Else prove '..UptoSaid'. A law counts once. -/
mutual
def uptoBulk {H : Type} : DataW H → Nat
  | .lit (.string bytes) => bytes.length + 1
  | .lit _ => 1
  | .nil => 1
  | .ptr d => uptoBulk d + 1
  | .slice elems spare => uptoBulkAll elems + uptoBulkAll spare + 1
  | .agg parts => uptoBulkAll parts + 1
  | .iface _ d => uptoBulk d + 1
  | .map entries => uptoBulkEntries entries + 1
  | .held _ => 1
def uptoBulkAll {H : Type} : List (DataW H) → Nat
  | [] => 0
  | d :: r => uptoBulk d + uptoBulkAll r
def uptoBulkEntries {H : Type} : List (Lit × DataW H) → Nat
  | [] => 0
  | x :: r => uptoBulkEntry x + uptoBulkEntries r
def uptoBulkEntry {H : Type} : Lit × DataW H → Nat
  | (.string bytes, d) => bytes.length + uptoBulk d + 1
  | (_, d) => uptoBulk d + 1
 end
def uptoSmall : (H : Type) → List (DataW H) → Bool := fun _ ds => decide (uptoBulkAll ds ≤ 1048576)
def OpenSpec.upto (s : _root_.Go.ChangeSpec) : _root_.Go.OpenSpec := { _root_.Go.OpenSpec.ofChange s with cond := some uptoSmall }

/-- 'periscopelaw35.GraphChecks', WHERE WHAT IT READS IS OF BULK AT MOST 1048576: true; the input reads as it did. -/
def graphChecksUptoRow : OpenClaim := { program := "ytmmmaldpalhjeaa", sum := "163cc573e8cf54d0966a65c7938cabe795f5743de9e46df8f65bea5d8bfb4520", func := "periscope/periscopelaw35.GraphChecks", spec := "graphChecks", unfollowed := true, recurses := true, apart := false, narrowed := true }
def GraphChecksUptoSaid : Prop := graphChecksUptoRow.holds Try.pinned (OpenSpec.upto graphChecksSpec)

/-- 'periscopelaw35.GraphFinds', WHERE WHAT IT READS IS OF BULK AT MOST 1048576: true; the input reads as it did. -/
def graphFindsUptoRow : OpenClaim := { program := "ytmmmaldpalhjeaa", sum := "163cc573e8cf54d0966a65c7938cabe795f5743de9e46df8f65bea5d8bfb4520", func := "periscope/periscopelaw35.GraphFinds", spec := "graphFinds", unfollowed := true, recurses := true, apart := false, narrowed := true }
def GraphFindsUptoSaid : Prop := graphFindsUptoRow.holds Try.pinned (OpenSpec.upto graphFindsSpec)

/-- 'periscopelaw35.GraphMore', WHERE WHAT IT READS IS OF BULK AT MOST 1048576: true; the input reads as it did. -/
def graphMoreUptoRow : OpenClaim := { program := "ytmmmaldpalhjeaa", sum := "163cc573e8cf54d0966a65c7938cabe795f5743de9e46df8f65bea5d8bfb4520", func := "periscope/periscopelaw35.GraphMore", spec := "graphMore", unfollowed := true, recurses := true, apart := false, narrowed := true }
def GraphMoreUptoSaid : Prop := graphMoreUptoRow.holds Try.pinned (OpenSpec.upto graphMoreSpec)

/-- 'periscopelaw17.SnapPlays', WHERE WHAT IT READS IS OF BULK AT MOST 1048576: true; the input reads as it did. -/
def snapPlaysUptoRow : OpenClaim := { program := "ytmmmaldpalhjeaa", sum := "163cc573e8cf54d0966a65c7938cabe795f5743de9e46df8f65bea5d8bfb4520", func := "periscope/periscopelaw17.SnapPlays", spec := "snapPlays", inPlace := ["sync/atomic.LoadInt64", "sync/atomic.AddInt64", "sync/atomic.StoreInt64"], unfollowed := true, recurses := true, apart := false, narrowed := true }
def SnapPlaysUptoSaid : Prop := snapPlaysUptoRow.holds Try.pinned (OpenSpec.upto snapPlaysSpec)

/-- 'periscopelaw17.SnapRises', WHERE WHAT IT READS IS OF BULK AT MOST 1048576: true; the input reads as it did. -/
def snapRisesUptoRow : OpenClaim := { program := "ytmmmaldpalhjeaa", sum := "163cc573e8cf54d0966a65c7938cabe795f5743de9e46df8f65bea5d8bfb4520", func := "periscope/periscopelaw17.SnapRises", spec := "snapRises", inPlace := ["sync/atomic.LoadInt64", "sync/atomic.AddInt64", "sync/atomic.StoreInt64"], unfollowed := true, recurses := true, apart := false, narrowed := true }
def SnapRisesUptoSaid : Prop := snapRisesUptoRow.holds Try.pinned (OpenSpec.upto snapRisesSpec)

/-- 'periscopelaw17.SnapAlone', WHERE WHAT IT READS IS OF BULK AT MOST 1048576: true; the input reads as it did. -/
def snapAloneUptoRow : OpenClaim := { program := "ytmmmaldpalhjeaa", sum := "163cc573e8cf54d0966a65c7938cabe795f5743de9e46df8f65bea5d8bfb4520", func := "periscope/periscopelaw17.SnapAlone", spec := "snapAlone", inPlace := ["sync/atomic.LoadInt64", "sync/atomic.AddInt64", "sync/atomic.StoreInt64"], unfollowed := true, recurses := true, apart := false, narrowed := true }
def SnapAloneUptoSaid : Prop := snapAloneUptoRow.holds Try.pinned (OpenSpec.upto snapAloneSpec)

/-- 'periscopelaw12.RuleChecks', WHERE WHAT IT READS IS OF BULK AT MOST 1048576: true; the input reads as it did. -/
def ruleChecksUptoRow : OpenClaim := { program := "ytmmmaldpalhjeaa", sum := "163cc573e8cf54d0966a65c7938cabe795f5743de9e46df8f65bea5d8bfb4520", func := "periscope/periscopelaw12.RuleChecks", spec := "ruleChecks", unfollowed := true, recurses := true, apart := false, narrowed := true }
def RuleChecksUptoSaid : Prop := ruleChecksUptoRow.holds Try.pinned (OpenSpec.upto ruleChecksSpec)

/-- 'periscopelaw12.RuleFinds', WHERE WHAT IT READS IS OF BULK AT MOST 1048576: true; the input reads as it did. -/
def ruleFindsUptoRow : OpenClaim := { program := "ytmmmaldpalhjeaa", sum := "163cc573e8cf54d0966a65c7938cabe795f5743de9e46df8f65bea5d8bfb4520", func := "periscope/periscopelaw12.RuleFinds", spec := "ruleFinds", unfollowed := true, recurses := true, apart := false, narrowed := true }
def RuleFindsUptoSaid : Prop := ruleFindsUptoRow.holds Try.pinned (OpenSpec.upto ruleFindsSpec)

/-- 'periscopelaw12.RuleOrders', WHERE WHAT IT READS IS OF BULK AT MOST 1048576: true; the input reads as it did. -/
def ruleOrdersUptoRow : OpenClaim := { program := "ytmmmaldpalhjeaa", sum := "163cc573e8cf54d0966a65c7938cabe795f5743de9e46df8f65bea5d8bfb4520", func := "periscope/periscopelaw12.RuleOrders", spec := "ruleOrders", unfollowed := true, recurses := true, apart := false, narrowed := true }
def RuleOrdersUptoSaid : Prop := ruleOrdersUptoRow.holds Try.pinned (OpenSpec.upto ruleOrdersSpec)

/-- 'periscopelaw27.ExportKeeps', WHERE WHAT IT READS IS OF BULK AT MOST 1048576: true; the input reads as it did. -/
def exportKeepsUptoRow : OpenClaim := { program := "ytmmmaldpalhjeaa", sum := "163cc573e8cf54d0966a65c7938cabe795f5743de9e46df8f65bea5d8bfb4520", func := "periscope/periscopelaw27.ExportKeeps", spec := "exportKeeps", inPlace := ["sync/atomic.LoadInt64", "sync/atomic.StoreInt64", "sync/atomic.AddInt64"], unfollowed := true, recurses := true, apart := false, narrowed := true }
def ExportKeepsUptoSaid : Prop := exportKeepsUptoRow.holds Try.pinned (OpenSpec.upto exportKeepsSpec)

/-- 'periscopelaw27.ExportQuiet', WHERE WHAT IT READS IS OF BULK AT MOST 1048576: true; the input reads as it did. -/
def exportQuietUptoRow : OpenClaim := { program := "ytmmmaldpalhjeaa", sum := "163cc573e8cf54d0966a65c7938cabe795f5743de9e46df8f65bea5d8bfb4520", func := "periscope/periscopelaw27.ExportQuiet", spec := "exportQuiet", inPlace := ["sync/atomic.LoadInt64", "sync/atomic.StoreInt64", "sync/atomic.AddInt64"], unfollowed := true, recurses := true, apart := false, narrowed := true }
def ExportQuietUptoSaid : Prop := exportQuietUptoRow.holds Try.pinned (OpenSpec.upto exportQuietSpec)

/-- 'periscopelaw14.TableCompiles', WHERE WHAT IT READS IS OF BULK AT MOST 1048576: true; the input reads as it did. -/
def tableCompilesUptoRow : OpenClaim := { program := "ytmmmaldpalhjeaa", sum := "163cc573e8cf54d0966a65c7938cabe795f5743de9e46df8f65bea5d8bfb4520", func := "periscope/periscopelaw14.TableCompiles", spec := "tableCompiles", unfollowed := true, recurses := true, apart := false, narrowed := true }
def TableCompilesUptoSaid : Prop := tableCompilesUptoRow.holds Try.pinned (OpenSpec.upto tableCompilesSpec)

/-- 'periscopelaw14.TableLooks', WHERE WHAT IT READS IS OF BULK AT MOST 1048576: true; the input reads as it did. -/
def tableLooksUptoRow : OpenClaim := { program := "ytmmmaldpalhjeaa", sum := "163cc573e8cf54d0966a65c7938cabe795f5743de9e46df8f65bea5d8bfb4520", func := "periscope/periscopelaw14.TableLooks", spec := "tableLooks", unfollowed := true, recurses := true, apart := false, narrowed := true }
def TableLooksUptoSaid : Prop := tableLooksUptoRow.holds Try.pinned (OpenSpec.upto tableLooksSpec)

/-- 'periscopelaw14.TableFirst', WHERE WHAT IT READS IS OF BULK AT MOST 1048576: true; the input reads as it did. -/
def tableFirstUptoRow : OpenClaim := { program := "ytmmmaldpalhjeaa", sum := "163cc573e8cf54d0966a65c7938cabe795f5743de9e46df8f65bea5d8bfb4520", func := "periscope/periscopelaw14.TableFirst", spec := "tableFirst", unfollowed := true, recurses := true, apart := false, narrowed := true }
def TableFirstUptoSaid : Prop := tableFirstUptoRow.holds Try.pinned (OpenSpec.upto tableFirstSpec)

end Rows
end Go.Proofs.Ytmmmaldpalhjeaa
