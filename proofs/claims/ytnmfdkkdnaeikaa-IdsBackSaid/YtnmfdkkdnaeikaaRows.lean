/-
  No cell of these rows narrows 'for every input' (looked for: loops, veiled, ifaces, maps, wideKeys, modest, calm, conditions, laid).
  DERIVED. THE GIVEN ROWS OF THIS SEAT. 14 by the template 'for every input the law returns true; each argument reads behind the call as it read before'; 0 by the template 'total and deterministic' (their statements: YtnmfdkkdnaeikaaTotals.lean).
  GIVEN WITH THE SEED: the statements are not yours to turn. If you find one false, say at which input.
  Laid BY PROGRAM, IN A SANDBOX (cutbox-rows.mjs): the forced cells as the released guide's own fill.sh prints them over the translation 83bde6eccbbf1dd4… (all of the seat's roots in one cut). By AI agents, Wed Nov 11 2026. No macro, syntax, notation, axiom, sorry.
-/
import Derived.Test.YtnmfdkkdnaeikaaChecked
import GoSem.Claim
import GoSem.ClaimJoined
import GoSem.ClaimMapViews
import Derived.JoinedTies
import Derived.KernelRfl
namespace Go.Proofs.Ytnmfdkkdnaeikaa
/- THE CELL 'sum', in the pinned program and in every row, IS THE sha256 OF THE DUMP (.gsa) THAT YtnmfdkkdnaeikaaProg.lean LOADS. Nothing in Lean hashes anything: it is a label: what it is worth is what the hold of that sum in a sandbox is worth. -/
noncomputable def Try.pinned : Pinned := { name := "ytnmfdkkdnaeikaa", sum := "83bde6eccbbf1dd423dd966bcb425ca7f1cb0fa6e7766ebd0cc351114c8a9512", checked := Try.checked }
namespace Rows
def none {H : Type} : Left H := { results := [], args := [] }

/-- 'periscopelaw01.OctetPuts': WHATEVER THE INPUT: true; the input reads as it did. -/
def octetPutsSpec : ChangeSpec := { name := "octetPuts", fn := fun _ => fun
  | [d1, d2] => { results := [.lit (.bool true)], args := [d1, d2] }
  | _ => none }
def octetPutsRow : OpenClaim := { program := "ytnmfdkkdnaeikaa", sum := "83bde6eccbbf1dd423dd966bcb425ca7f1cb0fa6e7766ebd0cc351114c8a9512", func := "periscope/periscopelaw01.OctetPuts", spec := "octetPuts", apart := false }
def OctetPutsSaid : Prop := octetPutsRow.holds Try.pinned (OpenSpec.ofChange octetPutsSpec)

/-- ITS FALSE NEIGHBOUR: 'it returns false'. Refute it at one input. -/
def octetPutsWrong : ChangeSpec := { name := "octetPuts", fn := fun _ => fun
  | [d1, d2] => { results := [.lit (.bool false)], args := [d1, d2] }
  | _ => none }
def OctetPutsWrongFalsely : Prop := octetPutsRow.holds Try.pinned (OpenSpec.ofChange octetPutsWrong)

/-- 'periscopelaw01.OctetGets': WHATEVER THE INPUT: true; the input reads as it did. -/
def octetGetsSpec : ChangeSpec := { name := "octetGets", fn := fun _ => fun
  | [d1, d2, d3] => { results := [.lit (.bool true)], args := [d1, d2, d3] }
  | _ => none }
def octetGetsRow : OpenClaim := { program := "ytnmfdkkdnaeikaa", sum := "83bde6eccbbf1dd423dd966bcb425ca7f1cb0fa6e7766ebd0cc351114c8a9512", func := "periscope/periscopelaw01.OctetGets", spec := "octetGets", apart := false }
def OctetGetsSaid : Prop := octetGetsRow.holds Try.pinned (OpenSpec.ofChange octetGetsSpec)

/-- ITS FALSE NEIGHBOUR: 'it returns false'. Refute it at one input. -/
def octetGetsWrong : ChangeSpec := { name := "octetGets", fn := fun _ => fun
  | [d1, d2, d3] => { results := [.lit (.bool false)], args := [d1, d2, d3] }
  | _ => none }
def OctetGetsWrongFalsely : Prop := octetGetsRow.holds Try.pinned (OpenSpec.ofChange octetGetsWrong)

/-- 'periscopelaw01.OctetDigits': WHATEVER THE INPUT: true; the input reads as it did. -/
def octetDigitsSpec : ChangeSpec := { name := "octetDigits", fn := fun _ => fun
  | [d1, d2, d3] => { results := [.lit (.bool true)], args := [d1, d2, d3] }
  | _ => none }
def octetDigitsRow : OpenClaim := { program := "ytnmfdkkdnaeikaa", sum := "83bde6eccbbf1dd423dd966bcb425ca7f1cb0fa6e7766ebd0cc351114c8a9512", func := "periscope/periscopelaw01.OctetDigits", spec := "octetDigits", apart := false }
def OctetDigitsSaid : Prop := octetDigitsRow.holds Try.pinned (OpenSpec.ofChange octetDigitsSpec)

/-- ITS FALSE NEIGHBOUR: 'it returns false'. Refute it at one input. -/
def octetDigitsWrong : ChangeSpec := { name := "octetDigits", fn := fun _ => fun
  | [d1, d2, d3] => { results := [.lit (.bool false)], args := [d1, d2, d3] }
  | _ => none }
def OctetDigitsWrongFalsely : Prop := octetDigitsRow.holds Try.pinned (OpenSpec.ofChange octetDigitsWrong)

/-- 'periscopelaw01.OctetBack': WHATEVER THE INPUT: true; the input reads as it did. -/
def octetBackSpec : ChangeSpec := { name := "octetBack", fn := fun _ => fun
  | [d1, d2, d3, d4] => { results := [.lit (.bool true)], args := [d1, d2, d3, d4] }
  | _ => none }
def octetBackRow : OpenClaim := { program := "ytnmfdkkdnaeikaa", sum := "83bde6eccbbf1dd423dd966bcb425ca7f1cb0fa6e7766ebd0cc351114c8a9512", func := "periscope/periscopelaw01.OctetBack", spec := "octetBack", apart := false }
def OctetBackSaid : Prop := octetBackRow.holds Try.pinned (OpenSpec.ofChange octetBackSpec)

/-- ITS FALSE NEIGHBOUR: 'it returns false'. Refute it at one input. -/
def octetBackWrong : ChangeSpec := { name := "octetBack", fn := fun _ => fun
  | [d1, d2, d3, d4] => { results := [.lit (.bool false)], args := [d1, d2, d3, d4] }
  | _ => none }
def OctetBackWrongFalsely : Prop := octetBackRow.holds Try.pinned (OpenSpec.ofChange octetBackWrong)

/-- 'periscopelaw28.NetPlays': WHATEVER THE INPUT: true; the input reads as it did. -/
def netPlaysSpec : ChangeSpec := { name := "netPlays", fn := fun _ => fun
  | [d] => { results := [.lit (.bool true)], args := [d] }
  | _ => none }
def netPlaysRow : OpenClaim := { program := "ytnmfdkkdnaeikaa", sum := "83bde6eccbbf1dd423dd966bcb425ca7f1cb0fa6e7766ebd0cc351114c8a9512", func := "periscope/periscopelaw28.NetPlays", spec := "netPlays", inPlace := ["sync/atomic.LoadInt64", "sync/atomic.StoreInt64"], unfollowed := true, recurses := true, apart := false }
def NetPlaysSaid : Prop := netPlaysRow.holds Try.pinned (OpenSpec.ofChange netPlaysSpec)

/-- ITS FALSE NEIGHBOUR: 'it returns false'. Refute it at one input. -/
def netPlaysWrong : ChangeSpec := { name := "netPlays", fn := fun _ => fun
  | [d] => { results := [.lit (.bool false)], args := [d] }
  | _ => none }
def NetPlaysWrongFalsely : Prop := netPlaysRow.holds Try.pinned (OpenSpec.ofChange netPlaysWrong)

/-- 'periscopelaw28.NetNumbers': WHATEVER THE INPUT: true; the input reads as it did. -/
def netNumbersSpec : ChangeSpec := { name := "netNumbers", fn := fun _ => fun
  | [d] => { results := [.lit (.bool true)], args := [d] }
  | _ => none }
def netNumbersRow : OpenClaim := { program := "ytnmfdkkdnaeikaa", sum := "83bde6eccbbf1dd423dd966bcb425ca7f1cb0fa6e7766ebd0cc351114c8a9512", func := "periscope/periscopelaw28.NetNumbers", spec := "netNumbers", inPlace := ["sync/atomic.LoadInt64", "sync/atomic.StoreInt64"], unfollowed := true, recurses := true, apart := false }
def NetNumbersSaid : Prop := netNumbersRow.holds Try.pinned (OpenSpec.ofChange netNumbersSpec)

/-- ITS FALSE NEIGHBOUR: 'it returns false'. Refute it at one input. -/
def netNumbersWrong : ChangeSpec := { name := "netNumbers", fn := fun _ => fun
  | [d] => { results := [.lit (.bool false)], args := [d] }
  | _ => none }
def NetNumbersWrongFalsely : Prop := netNumbersRow.holds Try.pinned (OpenSpec.ofChange netNumbersWrong)

/-- 'periscopelaw28.NetCounts': WHATEVER THE INPUT: true; the input reads as it did. -/
def netCountsSpec : ChangeSpec := { name := "netCounts", fn := fun _ => fun
  | [d] => { results := [.lit (.bool true)], args := [d] }
  | _ => none }
def netCountsRow : OpenClaim := { program := "ytnmfdkkdnaeikaa", sum := "83bde6eccbbf1dd423dd966bcb425ca7f1cb0fa6e7766ebd0cc351114c8a9512", func := "periscope/periscopelaw28.NetCounts", spec := "netCounts", inPlace := ["sync/atomic.LoadInt64", "sync/atomic.StoreInt64"], unfollowed := true, recurses := true, apart := false }
def NetCountsSaid : Prop := netCountsRow.holds Try.pinned (OpenSpec.ofChange netCountsSpec)

/-- ITS FALSE NEIGHBOUR: 'it returns false'. Refute it at one input. -/
def netCountsWrong : ChangeSpec := { name := "netCounts", fn := fun _ => fun
  | [d] => { results := [.lit (.bool false)], args := [d] }
  | _ => none }
def NetCountsWrongFalsely : Prop := netCountsRow.holds Try.pinned (OpenSpec.ofChange netCountsWrong)

/-- 'periscopelaw30.StoreSays': WHATEVER THE INPUT: true; the input reads as it did. -/
def storeSaysSpec : ChangeSpec := { name := "storeSays", fn := fun _ => fun
  | [d1, d2, d3, d4] => { results := [.lit (.bool true)], args := [d1, d2, d3, d4] }
  | _ => none }
def storeSaysRow : OpenClaim := { program := "ytnmfdkkdnaeikaa", sum := "83bde6eccbbf1dd423dd966bcb425ca7f1cb0fa6e7766ebd0cc351114c8a9512", func := "periscope/periscopelaw30.StoreSays", spec := "storeSays", unfollowed := true, recurses := true, apart := false }
def StoreSaysSaid : Prop := storeSaysRow.holds Try.pinned (OpenSpec.ofChange storeSaysSpec)

/-- ITS FALSE NEIGHBOUR: 'it returns false'. Refute it at one input. -/
def storeSaysWrong : ChangeSpec := { name := "storeSays", fn := fun _ => fun
  | [d1, d2, d3, d4] => { results := [.lit (.bool false)], args := [d1, d2, d3, d4] }
  | _ => none }
def StoreSaysWrongFalsely : Prop := storeSaysRow.holds Try.pinned (OpenSpec.ofChange storeSaysWrong)

/-- 'periscopelaw30.StoreBounds': WHATEVER THE INPUT: true; the input reads as it did. -/
def storeBoundsSpec : ChangeSpec := { name := "storeBounds", fn := fun _ => fun
  | [d1, d2] => { results := [.lit (.bool true)], args := [d1, d2] }
  | _ => none }
def storeBoundsRow : OpenClaim := { program := "ytnmfdkkdnaeikaa", sum := "83bde6eccbbf1dd423dd966bcb425ca7f1cb0fa6e7766ebd0cc351114c8a9512", func := "periscope/periscopelaw30.StoreBounds", spec := "storeBounds", unfollowed := true, recurses := true, apart := false }
def StoreBoundsSaid : Prop := storeBoundsRow.holds Try.pinned (OpenSpec.ofChange storeBoundsSpec)

/-- ITS FALSE NEIGHBOUR: 'it returns false'. Refute it at one input. -/
def storeBoundsWrong : ChangeSpec := { name := "storeBounds", fn := fun _ => fun
  | [d1, d2] => { results := [.lit (.bool false)], args := [d1, d2] }
  | _ => none }
def StoreBoundsWrongFalsely : Prop := storeBoundsRow.holds Try.pinned (OpenSpec.ofChange storeBoundsWrong)

/-- 'periscopelaw30.StoreApart': WHATEVER THE INPUT: true; the input reads as it did. -/
def storeApartSpec : ChangeSpec := { name := "storeApart", fn := fun _ => fun
  | [d1, d2] => { results := [.lit (.bool true)], args := [d1, d2] }
  | _ => none }
def storeApartRow : OpenClaim := { program := "ytnmfdkkdnaeikaa", sum := "83bde6eccbbf1dd423dd966bcb425ca7f1cb0fa6e7766ebd0cc351114c8a9512", func := "periscope/periscopelaw30.StoreApart", spec := "storeApart", unfollowed := true, recurses := true, apart := false }
def StoreApartSaid : Prop := storeApartRow.holds Try.pinned (OpenSpec.ofChange storeApartSpec)

/-- ITS FALSE NEIGHBOUR: 'it returns false'. Refute it at one input. -/
def storeApartWrong : ChangeSpec := { name := "storeApart", fn := fun _ => fun
  | [d1, d2] => { results := [.lit (.bool false)], args := [d1, d2] }
  | _ => none }
def StoreApartWrongFalsely : Prop := storeApartRow.holds Try.pinned (OpenSpec.ofChange storeApartWrong)

/-- 'periscopelaw26.FlightAcks': WHATEVER THE INPUT: true; the input reads as it did. -/
def flightAcksSpec : ChangeSpec := { name := "flightAcks", fn := fun _ => fun
  | [d1, d2, d3] => { results := [.lit (.bool true)], args := [d1, d2, d3] }
  | _ => none }
def flightAcksRow : OpenClaim := { program := "ytnmfdkkdnaeikaa", sum := "83bde6eccbbf1dd423dd966bcb425ca7f1cb0fa6e7766ebd0cc351114c8a9512", func := "periscope/periscopelaw26.FlightAcks", spec := "flightAcks", unfollowed := true, recurses := true, apart := false }
def FlightAcksSaid : Prop := flightAcksRow.holds Try.pinned (OpenSpec.ofChange flightAcksSpec)

/-- ITS FALSE NEIGHBOUR: 'it returns false'. Refute it at one input. -/
def flightAcksWrong : ChangeSpec := { name := "flightAcks", fn := fun _ => fun
  | [d1, d2, d3] => { results := [.lit (.bool false)], args := [d1, d2, d3] }
  | _ => none }
def FlightAcksWrongFalsely : Prop := flightAcksRow.holds Try.pinned (OpenSpec.ofChange flightAcksWrong)

/-- 'periscopelaw06.IdsTexts': WHATEVER THE INPUT: true; the input reads as it did. -/
def idsTextsSpec : ChangeSpec := { name := "idsTexts", fn := fun _ => fun
  | [d1, d2] => { results := [.lit (.bool true)], args := [d1, d2] }
  | _ => none }
def idsTextsRow : OpenClaim := { program := "ytnmfdkkdnaeikaa", sum := "83bde6eccbbf1dd423dd966bcb425ca7f1cb0fa6e7766ebd0cc351114c8a9512", func := "periscope/periscopelaw06.IdsTexts", spec := "idsTexts", apart := false }
def IdsTextsSaid : Prop := idsTextsRow.holds Try.pinned (OpenSpec.ofChange idsTextsSpec)

/-- ITS FALSE NEIGHBOUR: 'it returns false'. Refute it at one input. -/
def idsTextsWrong : ChangeSpec := { name := "idsTexts", fn := fun _ => fun
  | [d1, d2] => { results := [.lit (.bool false)], args := [d1, d2] }
  | _ => none }
def IdsTextsWrongFalsely : Prop := idsTextsRow.holds Try.pinned (OpenSpec.ofChange idsTextsWrong)

/-- 'periscopelaw06.IdsDrawn': WHATEVER THE INPUT: true; the input reads as it did. -/
def idsDrawnSpec : ChangeSpec := { name := "idsDrawn", fn := fun _ => fun
  | [d1, d2] => { results := [.lit (.bool true)], args := [d1, d2] }
  | _ => none }
def idsDrawnRow : OpenClaim := { program := "ytnmfdkkdnaeikaa", sum := "83bde6eccbbf1dd423dd966bcb425ca7f1cb0fa6e7766ebd0cc351114c8a9512", func := "periscope/periscopelaw06.IdsDrawn", spec := "idsDrawn", apart := false }
def IdsDrawnSaid : Prop := idsDrawnRow.holds Try.pinned (OpenSpec.ofChange idsDrawnSpec)

/-- ITS FALSE NEIGHBOUR: 'it returns false'. Refute it at one input. -/
def idsDrawnWrong : ChangeSpec := { name := "idsDrawn", fn := fun _ => fun
  | [d1, d2] => { results := [.lit (.bool false)], args := [d1, d2] }
  | _ => none }
def IdsDrawnWrongFalsely : Prop := idsDrawnRow.holds Try.pinned (OpenSpec.ofChange idsDrawnWrong)

/-- 'periscopelaw06.IdsBack': WHATEVER THE INPUT: true; the input reads as it did. -/
def idsBackSpec : ChangeSpec := { name := "idsBack", fn := fun _ => fun
  | [d1, d2, d3, d4] => { results := [.lit (.bool true)], args := [d1, d2, d3, d4] }
  | _ => none }
def idsBackRow : OpenClaim := { program := "ytnmfdkkdnaeikaa", sum := "83bde6eccbbf1dd423dd966bcb425ca7f1cb0fa6e7766ebd0cc351114c8a9512", func := "periscope/periscopelaw06.IdsBack", spec := "idsBack", apart := false }
def IdsBackSaid : Prop := idsBackRow.holds Try.pinned (OpenSpec.ofChange idsBackSpec)

/-- ITS FALSE NEIGHBOUR: 'it returns false'. Refute it at one input. -/
def idsBackWrong : ChangeSpec := { name := "idsBack", fn := fun _ => fun
  | [d1, d2, d3, d4] => { results := [.lit (.bool false)], args := [d1, d2, d3, d4] }
  | _ => none }
def IdsBackWrongFalsely : Prop := idsBackRow.holds Try.pinned (OpenSpec.ofChange idsBackWrong)

/- THE SECOND FORM. 'bulk': how many values and letters a reading holds, each counted each time it is reached (what is shared counts as often as it is met; a slice's spare places count too). A statement '..UptoSaid' is the law's where the arguments, and the package variables that the reading takes, are together of bulk at most 1048576: NARROWER than '..Said'. Prove '..Said' where nothing that the law and all that it calls make is longer than what came in: it says more and counts as full. Else prove '..UptoSaid'. A law counts once. -/
mutual
def uptoBulk {H : Type} : DataW H → Nat
  | .lit (.string bytes) => bytes.length + 1
  | .lit _ => 1
  | .nil => 1
  | .ptr d => uptoBulk d + 1
  | .slice elems spare => uptoBulkAll elems + uptoBulkAll spare + 1
  | .agg parts => uptoBulkAll parts + 1
  | .iface _ d => uptoBulk d + 1
  | .map entries => uptoBulkEntries entries + 1
  | .held _ => 1
def uptoBulkAll {H : Type} : List (DataW H) → Nat
  | [] => 0
  | d :: r => uptoBulk d + uptoBulkAll r
def uptoBulkEntries {H : Type} : List (Lit × DataW H) → Nat
  | [] => 0
  | x :: r => uptoBulkEntry x + uptoBulkEntries r
def uptoBulkEntry {H : Type} : Lit × DataW H → Nat
  | (.string bytes, d) => bytes.length + uptoBulk d + 1
  | (_, d) => uptoBulk d + 1
 end
def uptoSmall : (H : Type) → List (DataW H) → Bool := fun _ ds => decide (uptoBulkAll ds ≤ 1048576)
def OpenSpec.upto (s : _root_.Go.ChangeSpec) : _root_.Go.OpenSpec := { _root_.Go.OpenSpec.ofChange s with cond := some uptoSmall }

/-- 'periscopelaw01.OctetPuts', WHERE WHAT IT READS IS OF BULK AT MOST 1048576: true; the input reads as it did. -/
def octetPutsUptoRow : OpenClaim := { program := "ytnmfdkkdnaeikaa", sum := "83bde6eccbbf1dd423dd966bcb425ca7f1cb0fa6e7766ebd0cc351114c8a9512", func := "periscope/periscopelaw01.OctetPuts", spec := "octetPuts", apart := false, narrowed := true }
def OctetPutsUptoSaid : Prop := octetPutsUptoRow.holds Try.pinned (OpenSpec.upto octetPutsSpec)

/-- 'periscopelaw01.OctetGets', WHERE WHAT IT READS IS OF BULK AT MOST 1048576: true; the input reads as it did. -/
def octetGetsUptoRow : OpenClaim := { program := "ytnmfdkkdnaeikaa", sum := "83bde6eccbbf1dd423dd966bcb425ca7f1cb0fa6e7766ebd0cc351114c8a9512", func := "periscope/periscopelaw01.OctetGets", spec := "octetGets", apart := false, narrowed := true }
def OctetGetsUptoSaid : Prop := octetGetsUptoRow.holds Try.pinned (OpenSpec.upto octetGetsSpec)

/-- 'periscopelaw01.OctetDigits', WHERE WHAT IT READS IS OF BULK AT MOST 1048576: true; the input reads as it did. -/
def octetDigitsUptoRow : OpenClaim := { program := "ytnmfdkkdnaeikaa", sum := "83bde6eccbbf1dd423dd966bcb425ca7f1cb0fa6e7766ebd0cc351114c8a9512", func := "periscope/periscopelaw01.OctetDigits", spec := "octetDigits", apart := false, narrowed := true }
def OctetDigitsUptoSaid : Prop := octetDigitsUptoRow.holds Try.pinned (OpenSpec.upto octetDigitsSpec)

/-- 'periscopelaw01.OctetBack', WHERE WHAT IT READS IS OF BULK AT MOST 1048576: true; the input reads as it did. -/
def octetBackUptoRow : OpenClaim := { program := "ytnmfdkkdnaeikaa", sum := "83bde6eccbbf1dd423dd966bcb425ca7f1cb0fa6e7766ebd0cc351114c8a9512", func := "periscope/periscopelaw01.OctetBack", spec := "octetBack", apart := false, narrowed := true }
def OctetBackUptoSaid : Prop := octetBackUptoRow.holds Try.pinned (OpenSpec.upto octetBackSpec)

/-- 'periscopelaw28.NetPlays', WHERE WHAT IT READS IS OF BULK AT MOST 1048576: true; the input reads as it did. -/
def netPlaysUptoRow : OpenClaim := { program := "ytnmfdkkdnaeikaa", sum := "83bde6eccbbf1dd423dd966bcb425ca7f1cb0fa6e7766ebd0cc351114c8a9512", func := "periscope/periscopelaw28.NetPlays", spec := "netPlays", inPlace := ["sync/atomic.LoadInt64", "sync/atomic.StoreInt64"], unfollowed := true, recurses := true, apart := false, narrowed := true }
def NetPlaysUptoSaid : Prop := netPlaysUptoRow.holds Try.pinned (OpenSpec.upto netPlaysSpec)

/-- 'periscopelaw28.NetNumbers', WHERE WHAT IT READS IS OF BULK AT MOST 1048576: true; the input reads as it did. -/
def netNumbersUptoRow : OpenClaim := { program := "ytnmfdkkdnaeikaa", sum := "83bde6eccbbf1dd423dd966bcb425ca7f1cb0fa6e7766ebd0cc351114c8a9512", func := "periscope/periscopelaw28.NetNumbers", spec := "netNumbers", inPlace := ["sync/atomic.LoadInt64", "sync/atomic.StoreInt64"], unfollowed := true, recurses := true, apart := false, narrowed := true }
def NetNumbersUptoSaid : Prop := netNumbersUptoRow.holds Try.pinned (OpenSpec.upto netNumbersSpec)

/-- 'periscopelaw28.NetCounts', WHERE WHAT IT READS IS OF BULK AT MOST 1048576: true; the input reads as it did. -/
def netCountsUptoRow : OpenClaim := { program := "ytnmfdkkdnaeikaa", sum := "83bde6eccbbf1dd423dd966bcb425ca7f1cb0fa6e7766ebd0cc351114c8a9512", func := "periscope/periscopelaw28.NetCounts", spec := "netCounts", inPlace := ["sync/atomic.LoadInt64", "sync/atomic.StoreInt64"], unfollowed := true, recurses := true, apart := false, narrowed := true }
def NetCountsUptoSaid : Prop := netCountsUptoRow.holds Try.pinned (OpenSpec.upto netCountsSpec)

/-- 'periscopelaw30.StoreSays', WHERE WHAT IT READS IS OF BULK AT MOST 1048576: true; the input reads as it did. -/
def storeSaysUptoRow : OpenClaim := { program := "ytnmfdkkdnaeikaa", sum := "83bde6eccbbf1dd423dd966bcb425ca7f1cb0fa6e7766ebd0cc351114c8a9512", func := "periscope/periscopelaw30.StoreSays", spec := "storeSays", unfollowed := true, recurses := true, apart := false, narrowed := true }
def StoreSaysUptoSaid : Prop := storeSaysUptoRow.holds Try.pinned (OpenSpec.upto storeSaysSpec)

/-- 'periscopelaw30.StoreBounds', WHERE WHAT IT READS IS OF BULK AT MOST 1048576: true; the input reads as it did. -/
def storeBoundsUptoRow : OpenClaim := { program := "ytnmfdkkdnaeikaa", sum := "83bde6eccbbf1dd423dd966bcb425ca7f1cb0fa6e7766ebd0cc351114c8a9512", func := "periscope/periscopelaw30.StoreBounds", spec := "storeBounds", unfollowed := true, recurses := true, apart := false, narrowed := true }
def StoreBoundsUptoSaid : Prop := storeBoundsUptoRow.holds Try.pinned (OpenSpec.upto storeBoundsSpec)

/-- 'periscopelaw30.StoreApart', WHERE WHAT IT READS IS OF BULK AT MOST 1048576: true; the input reads as it did. -/
def storeApartUptoRow : OpenClaim := { program := "ytnmfdkkdnaeikaa", sum := "83bde6eccbbf1dd423dd966bcb425ca7f1cb0fa6e7766ebd0cc351114c8a9512", func := "periscope/periscopelaw30.StoreApart", spec := "storeApart", unfollowed := true, recurses := true, apart := false, narrowed := true }
def StoreApartUptoSaid : Prop := storeApartUptoRow.holds Try.pinned (OpenSpec.upto storeApartSpec)

/-- 'periscopelaw26.FlightAcks', WHERE WHAT IT READS IS OF BULK AT MOST 1048576: true; the input reads as it did. -/
def flightAcksUptoRow : OpenClaim := { program := "ytnmfdkkdnaeikaa", sum := "83bde6eccbbf1dd423dd966bcb425ca7f1cb0fa6e7766ebd0cc351114c8a9512", func := "periscope/periscopelaw26.FlightAcks", spec := "flightAcks", unfollowed := true, recurses := true, apart := false, narrowed := true }
def FlightAcksUptoSaid : Prop := flightAcksUptoRow.holds Try.pinned (OpenSpec.upto flightAcksSpec)

/-- 'periscopelaw06.IdsTexts', WHERE WHAT IT READS IS OF BULK AT MOST 1048576: true; the input reads as it did. -/
def idsTextsUptoRow : OpenClaim := { program := "ytnmfdkkdnaeikaa", sum := "83bde6eccbbf1dd423dd966bcb425ca7f1cb0fa6e7766ebd0cc351114c8a9512", func := "periscope/periscopelaw06.IdsTexts", spec := "idsTexts", apart := false, narrowed := true }
def IdsTextsUptoSaid : Prop := idsTextsUptoRow.holds Try.pinned (OpenSpec.upto idsTextsSpec)

/-- 'periscopelaw06.IdsDrawn', WHERE WHAT IT READS IS OF BULK AT MOST 1048576: true; the input reads as it did. -/
def idsDrawnUptoRow : OpenClaim := { program := "ytnmfdkkdnaeikaa", sum := "83bde6eccbbf1dd423dd966bcb425ca7f1cb0fa6e7766ebd0cc351114c8a9512", func := "periscope/periscopelaw06.IdsDrawn", spec := "idsDrawn", apart := false, narrowed := true }
def IdsDrawnUptoSaid : Prop := idsDrawnUptoRow.holds Try.pinned (OpenSpec.upto idsDrawnSpec)

/-- 'periscopelaw06.IdsBack', WHERE WHAT IT READS IS OF BULK AT MOST 1048576: true; the input reads as it did. -/
def idsBackUptoRow : OpenClaim := { program := "ytnmfdkkdnaeikaa", sum := "83bde6eccbbf1dd423dd966bcb425ca7f1cb0fa6e7766ebd0cc351114c8a9512", func := "periscope/periscopelaw06.IdsBack", spec := "idsBack", apart := false, narrowed := true }
def IdsBackUptoSaid : Prop := idsBackUptoRow.holds Try.pinned (OpenSpec.upto idsBackSpec)

end Rows
end Go.Proofs.Ytnmfdkkdnaeikaa
