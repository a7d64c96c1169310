/-
  No cell of these rows narrows 'for every input' (looked for: loops, veiled, ifaces, maps, wideKeys, modest, calm, conditions, laid).
  DERIVED. THE GIVEN ROWS OF THIS SEAT. 15 by the template 'for every input the law returns true; each argument reads behind the call as it read before'; 0 by the template 'total and deterministic' (their statements: YtefaegoajjcfjaaTotals.lean).
  GIVEN WITH THE SEED: the statements are not yours to turn. If you find one false, say at which input.
  Laid BY PROGRAM, IN A SANDBOX (cutbox-rows.mjs): the forced cells as the released guide's own fill.sh prints them over the translation 645a2a940641c5bb… (all of the seat's roots in one cut). By AI agents, Wed Nov 11 2026. No macro, syntax, notation, axiom, sorry.
-/
import Derived.Test.YtefaegoajjcfjaaChecked
import GoSem.Claim
import GoSem.ClaimJoined
import GoSem.ClaimMapViews
import Derived.JoinedTies
import Derived.KernelRfl
namespace Go.Proofs.Ytefaegoajjcfjaa
/- THE CELL 'sum', in the pinned program and in every row, IS THE sha256 OF THE DUMP (.gsa) THAT YtefaegoajjcfjaaProg.lean LOADS. Nothing in Lean hashes anything: it is a label: what it is worth is what the hold of that sum in a sandbox is worth. -/
noncomputable def Try.pinned : Pinned := { name := "ytefaegoajjcfjaa", sum := "645a2a940641c5bbf3579dfefe7c9c457a789333bb92122385882091e2839a5c", checked := Try.checked }
namespace Rows
def none {H : Type} : Left H := { results := [], args := [] }

/-- 'periscopelaw15.ChanceSays': WHATEVER THE INPUT: true; the input reads as it did. -/
def chanceSaysSpec : ChangeSpec := { name := "chanceSays", fn := fun _ => fun
  | [d1, d2, d3, d4] => { results := [.lit (.bool true)], args := [d1, d2, d3, d4] }
  | _ => none }
def chanceSaysRow : OpenClaim := { program := "ytefaegoajjcfjaa", sum := "645a2a940641c5bbf3579dfefe7c9c457a789333bb92122385882091e2839a5c", func := "periscope/periscopelaw15.ChanceSays", spec := "chanceSays", apart := false }
def ChanceSaysSaid : Prop := chanceSaysRow.holds Try.pinned (OpenSpec.ofChange chanceSaysSpec)

/-- ITS FALSE NEIGHBOUR: 'it returns false'. Refute it at one input. -/
def chanceSaysWrong : ChangeSpec := { name := "chanceSays", fn := fun _ => fun
  | [d1, d2, d3, d4] => { results := [.lit (.bool false)], args := [d1, d2, d3, d4] }
  | _ => none }
def ChanceSaysWrongFalsely : Prop := chanceSaysRow.holds Try.pinned (OpenSpec.ofChange chanceSaysWrong)

/-- 'periscopelaw15.ChanceParts': WHATEVER THE INPUT: true; the input reads as it did. -/
def chancePartsSpec : ChangeSpec := { name := "chanceParts", fn := fun _ => fun
  | [d1, d2, d3] => { results := [.lit (.bool true)], args := [d1, d2, d3] }
  | _ => none }
def chancePartsRow : OpenClaim := { program := "ytefaegoajjcfjaa", sum := "645a2a940641c5bbf3579dfefe7c9c457a789333bb92122385882091e2839a5c", func := "periscope/periscopelaw15.ChanceParts", spec := "chanceParts", apart := false }
def ChancePartsSaid : Prop := chancePartsRow.holds Try.pinned (OpenSpec.ofChange chancePartsSpec)

/-- ITS FALSE NEIGHBOUR: 'it returns false'. Refute it at one input. -/
def chancePartsWrong : ChangeSpec := { name := "chanceParts", fn := fun _ => fun
  | [d1, d2, d3] => { results := [.lit (.bool false)], args := [d1, d2, d3] }
  | _ => none }
def ChancePartsWrongFalsely : Prop := chancePartsRow.holds Try.pinned (OpenSpec.ofChange chancePartsWrong)

/-- 'periscopelaw15.ChanceDraws': WHATEVER THE INPUT: true; the input reads as it did. -/
def chanceDrawsSpec : ChangeSpec := { name := "chanceDraws", fn := fun _ => fun
  | [d1, d2, d3] => { results := [.lit (.bool true)], args := [d1, d2, d3] }
  | _ => none }
def chanceDrawsRow : OpenClaim := { program := "ytefaegoajjcfjaa", sum := "645a2a940641c5bbf3579dfefe7c9c457a789333bb92122385882091e2839a5c", func := "periscope/periscopelaw15.ChanceDraws", spec := "chanceDraws", apart := false }
def ChanceDrawsSaid : Prop := chanceDrawsRow.holds Try.pinned (OpenSpec.ofChange chanceDrawsSpec)

/-- ITS FALSE NEIGHBOUR: 'it returns false'. Refute it at one input. -/
def chanceDrawsWrong : ChangeSpec := { name := "chanceDraws", fn := fun _ => fun
  | [d1, d2, d3] => { results := [.lit (.bool false)], args := [d1, d2, d3] }
  | _ => none }
def ChanceDrawsWrongFalsely : Prop := chanceDrawsRow.holds Try.pinned (OpenSpec.ofChange chanceDrawsWrong)

/-- 'periscopelaw21.RingPlays': WHATEVER THE INPUT: true; the input reads as it did. -/
def ringPlaysSpec : ChangeSpec := { name := "ringPlays", fn := fun _ => fun
  | [d1, d2] => { results := [.lit (.bool true)], args := [d1, d2] }
  | _ => none }
def ringPlaysRow : OpenClaim := { program := "ytefaegoajjcfjaa", sum := "645a2a940641c5bbf3579dfefe7c9c457a789333bb92122385882091e2839a5c", func := "periscope/periscopelaw21.RingPlays", spec := "ringPlays", inPlace := ["sync/atomic.LoadInt64", "sync/atomic.StoreInt64"], apart := false }
def RingPlaysSaid : Prop := ringPlaysRow.holds Try.pinned (OpenSpec.ofChange ringPlaysSpec)

/-- ITS FALSE NEIGHBOUR: 'it returns false'. Refute it at one input. -/
def ringPlaysWrong : ChangeSpec := { name := "ringPlays", fn := fun _ => fun
  | [d1, d2] => { results := [.lit (.bool false)], args := [d1, d2] }
  | _ => none }
def RingPlaysWrongFalsely : Prop := ringPlaysRow.holds Try.pinned (OpenSpec.ofChange ringPlaysWrong)

/-- 'periscopelaw21.RingKeeps': WHATEVER THE INPUT: true; the input reads as it did. -/
def ringKeepsSpec : ChangeSpec := { name := "ringKeeps", fn := fun _ => fun
  | [d1, d2] => { results := [.lit (.bool true)], args := [d1, d2] }
  | _ => none }
def ringKeepsRow : OpenClaim := { program := "ytefaegoajjcfjaa", sum := "645a2a940641c5bbf3579dfefe7c9c457a789333bb92122385882091e2839a5c", func := "periscope/periscopelaw21.RingKeeps", spec := "ringKeeps", inPlace := ["sync/atomic.LoadInt64", "sync/atomic.StoreInt64"], apart := false }
def RingKeepsSaid : Prop := ringKeepsRow.holds Try.pinned (OpenSpec.ofChange ringKeepsSpec)

/-- ITS FALSE NEIGHBOUR: 'it returns false'. Refute it at one input. -/
def ringKeepsWrong : ChangeSpec := { name := "ringKeeps", fn := fun _ => fun
  | [d1, d2] => { results := [.lit (.bool false)], args := [d1, d2] }
  | _ => none }
def RingKeepsWrongFalsely : Prop := ringKeepsRow.holds Try.pinned (OpenSpec.ofChange ringKeepsWrong)

/-- 'periscopelaw21.RingPieces': WHATEVER THE INPUT: true; the input reads as it did. -/
def ringPiecesSpec : ChangeSpec := { name := "ringPieces", fn := fun _ => fun
  | [d1, d2, d3] => { results := [.lit (.bool true)], args := [d1, d2, d3] }
  | _ => none }
def ringPiecesRow : OpenClaim := { program := "ytefaegoajjcfjaa", sum := "645a2a940641c5bbf3579dfefe7c9c457a789333bb92122385882091e2839a5c", func := "periscope/periscopelaw21.RingPieces", spec := "ringPieces", inPlace := ["sync/atomic.LoadInt64", "sync/atomic.StoreInt64"], apart := false }
def RingPiecesSaid : Prop := ringPiecesRow.holds Try.pinned (OpenSpec.ofChange ringPiecesSpec)

/-- ITS FALSE NEIGHBOUR: 'it returns false'. Refute it at one input. -/
def ringPiecesWrong : ChangeSpec := { name := "ringPieces", fn := fun _ => fun
  | [d1, d2, d3] => { results := [.lit (.bool false)], args := [d1, d2, d3] }
  | _ => none }
def RingPiecesWrongFalsely : Prop := ringPiecesRow.holds Try.pinned (OpenSpec.ofChange ringPiecesWrong)

/-- 'periscopelaw22.WheelPlays': WHATEVER THE INPUT: true; the input reads as it did. -/
def wheelPlaysSpec : ChangeSpec := { name := "wheelPlays", fn := fun _ => fun
  | [d] => { results := [.lit (.bool true)], args := [d] }
  | _ => none }
def wheelPlaysRow : OpenClaim := { program := "ytefaegoajjcfjaa", sum := "645a2a940641c5bbf3579dfefe7c9c457a789333bb92122385882091e2839a5c", func := "periscope/periscopelaw22.WheelPlays", spec := "wheelPlays", apart := false }
def WheelPlaysSaid : Prop := wheelPlaysRow.holds Try.pinned (OpenSpec.ofChange wheelPlaysSpec)

/-- ITS FALSE NEIGHBOUR: 'it returns false'. Refute it at one input. -/
def wheelPlaysWrong : ChangeSpec := { name := "wheelPlays", fn := fun _ => fun
  | [d] => { results := [.lit (.bool false)], args := [d] }
  | _ => none }
def WheelPlaysWrongFalsely : Prop := wheelPlaysRow.holds Try.pinned (OpenSpec.ofChange wheelPlaysWrong)

/-- 'periscopelaw22.WheelExact': WHATEVER THE INPUT: true; the input reads as it did. -/
def wheelExactSpec : ChangeSpec := { name := "wheelExact", fn := fun _ => fun
  | [d1, d2, d3] => { results := [.lit (.bool true)], args := [d1, d2, d3] }
  | _ => none }
def wheelExactRow : OpenClaim := { program := "ytefaegoajjcfjaa", sum := "645a2a940641c5bbf3579dfefe7c9c457a789333bb92122385882091e2839a5c", func := "periscope/periscopelaw22.WheelExact", spec := "wheelExact", apart := false }
def WheelExactSaid : Prop := wheelExactRow.holds Try.pinned (OpenSpec.ofChange wheelExactSpec)

/-- ITS FALSE NEIGHBOUR: 'it returns false'. Refute it at one input. -/
def wheelExactWrong : ChangeSpec := { name := "wheelExact", fn := fun _ => fun
  | [d1, d2, d3] => { results := [.lit (.bool false)], args := [d1, d2, d3] }
  | _ => none }
def WheelExactWrongFalsely : Prop := wheelExactRow.holds Try.pinned (OpenSpec.ofChange wheelExactWrong)

/-- 'periscopelaw22.WheelTurns': WHATEVER THE INPUT: true; the input reads as it did. -/
def wheelTurnsSpec : ChangeSpec := { name := "wheelTurns", fn := fun _ => fun
  | [d1, d2] => { results := [.lit (.bool true)], args := [d1, d2] }
  | _ => none }
def wheelTurnsRow : OpenClaim := { program := "ytefaegoajjcfjaa", sum := "645a2a940641c5bbf3579dfefe7c9c457a789333bb92122385882091e2839a5c", func := "periscope/periscopelaw22.WheelTurns", spec := "wheelTurns", apart := false }
def WheelTurnsSaid : Prop := wheelTurnsRow.holds Try.pinned (OpenSpec.ofChange wheelTurnsSpec)

/-- ITS FALSE NEIGHBOUR: 'it returns false'. Refute it at one input. -/
def wheelTurnsWrong : ChangeSpec := { name := "wheelTurns", fn := fun _ => fun
  | [d1, d2] => { results := [.lit (.bool false)], args := [d1, d2] }
  | _ => none }
def WheelTurnsWrongFalsely : Prop := wheelTurnsRow.holds Try.pinned (OpenSpec.ofChange wheelTurnsWrong)

/-- 'periscopelaw25.BufferPlays': WHATEVER THE INPUT: true; the input reads as it did. -/
def bufferPlaysSpec : ChangeSpec := { name := "bufferPlays", fn := fun _ => fun
  | [d1, d2] => { results := [.lit (.bool true)], args := [d1, d2] }
  | _ => none }
def bufferPlaysRow : OpenClaim := { program := "ytefaegoajjcfjaa", sum := "645a2a940641c5bbf3579dfefe7c9c457a789333bb92122385882091e2839a5c", func := "periscope/periscopelaw25.BufferPlays", spec := "bufferPlays", inPlace := ["sync/atomic.LoadInt64", "sync/atomic.StoreInt64"], apart := false }
def BufferPlaysSaid : Prop := bufferPlaysRow.holds Try.pinned (OpenSpec.ofChange bufferPlaysSpec)

/-- ITS FALSE NEIGHBOUR: 'it returns false'. Refute it at one input. -/
def bufferPlaysWrong : ChangeSpec := { name := "bufferPlays", fn := fun _ => fun
  | [d1, d2] => { results := [.lit (.bool false)], args := [d1, d2] }
  | _ => none }
def BufferPlaysWrongFalsely : Prop := bufferPlaysRow.holds Try.pinned (OpenSpec.ofChange bufferPlaysWrong)

/-- 'periscopelaw25.BufferOnce': WHATEVER THE INPUT: true; the input reads as it did. -/
def bufferOnceSpec : ChangeSpec := { name := "bufferOnce", fn := fun _ => fun
  | [d1, d2] => { results := [.lit (.bool true)], args := [d1, d2] }
  | _ => none }
def bufferOnceRow : OpenClaim := { program := "ytefaegoajjcfjaa", sum := "645a2a940641c5bbf3579dfefe7c9c457a789333bb92122385882091e2839a5c", func := "periscope/periscopelaw25.BufferOnce", spec := "bufferOnce", inPlace := ["sync/atomic.LoadInt64", "sync/atomic.StoreInt64"], apart := false }
def BufferOnceSaid : Prop := bufferOnceRow.holds Try.pinned (OpenSpec.ofChange bufferOnceSpec)

/-- ITS FALSE NEIGHBOUR: 'it returns false'. Refute it at one input. -/
def bufferOnceWrong : ChangeSpec := { name := "bufferOnce", fn := fun _ => fun
  | [d1, d2] => { results := [.lit (.bool false)], args := [d1, d2] }
  | _ => none }
def BufferOnceWrongFalsely : Prop := bufferOnceRow.holds Try.pinned (OpenSpec.ofChange bufferOnceWrong)

/-- 'periscopelaw25.BufferPieces': WHATEVER THE INPUT: true; the input reads as it did. -/
def bufferPiecesSpec : ChangeSpec := { name := "bufferPieces", fn := fun _ => fun
  | [d1, d2, d3] => { results := [.lit (.bool true)], args := [d1, d2, d3] }
  | _ => none }
def bufferPiecesRow : OpenClaim := { program := "ytefaegoajjcfjaa", sum := "645a2a940641c5bbf3579dfefe7c9c457a789333bb92122385882091e2839a5c", func := "periscope/periscopelaw25.BufferPieces", spec := "bufferPieces", inPlace := ["sync/atomic.LoadInt64", "sync/atomic.StoreInt64"], apart := false }
def BufferPiecesSaid : Prop := bufferPiecesRow.holds Try.pinned (OpenSpec.ofChange bufferPiecesSpec)

/-- ITS FALSE NEIGHBOUR: 'it returns false'. Refute it at one input. -/
def bufferPiecesWrong : ChangeSpec := { name := "bufferPieces", fn := fun _ => fun
  | [d1, d2, d3] => { results := [.lit (.bool false)], args := [d1, d2, d3] }
  | _ => none }
def BufferPiecesWrongFalsely : Prop := bufferPiecesRow.holds Try.pinned (OpenSpec.ofChange bufferPiecesWrong)

/-- 'periscopelaw24.OpensSays': WHATEVER THE INPUT: true; the input reads as it did. -/
def opensSaysSpec : ChangeSpec := { name := "opensSays", fn := fun _ => fun
  | [d1, d2, d3, d4] => { results := [.lit (.bool true)], args := [d1, d2, d3, d4] }
  | _ => none }
def opensSaysRow : OpenClaim := { program := "ytefaegoajjcfjaa", sum := "645a2a940641c5bbf3579dfefe7c9c457a789333bb92122385882091e2839a5c", func := "periscope/periscopelaw24.OpensSays", spec := "opensSays", unfollowed := true, recurses := true, apart := false }
def OpensSaysSaid : Prop := opensSaysRow.holds Try.pinned (OpenSpec.ofChange opensSaysSpec)

/-- ITS FALSE NEIGHBOUR: 'it returns false'. Refute it at one input. -/
def opensSaysWrong : ChangeSpec := { name := "opensSays", fn := fun _ => fun
  | [d1, d2, d3, d4] => { results := [.lit (.bool false)], args := [d1, d2, d3, d4] }
  | _ => none }
def OpensSaysWrongFalsely : Prop := opensSaysRow.holds Try.pinned (OpenSpec.ofChange opensSaysWrong)

/-- 'periscopelaw24.OpensBack': WHATEVER THE INPUT: true; the input reads as it did. -/
def opensBackSpec : ChangeSpec := { name := "opensBack", fn := fun _ => fun
  | [d1, d2, d3] => { results := [.lit (.bool true)], args := [d1, d2, d3] }
  | _ => none }
def opensBackRow : OpenClaim := { program := "ytefaegoajjcfjaa", sum := "645a2a940641c5bbf3579dfefe7c9c457a789333bb92122385882091e2839a5c", func := "periscope/periscopelaw24.OpensBack", spec := "opensBack", unfollowed := true, recurses := true, apart := false }
def OpensBackSaid : Prop := opensBackRow.holds Try.pinned (OpenSpec.ofChange opensBackSpec)

/-- ITS FALSE NEIGHBOUR: 'it returns false'. Refute it at one input. -/
def opensBackWrong : ChangeSpec := { name := "opensBack", fn := fun _ => fun
  | [d1, d2, d3] => { results := [.lit (.bool false)], args := [d1, d2, d3] }
  | _ => none }
def OpensBackWrongFalsely : Prop := opensBackRow.holds Try.pinned (OpenSpec.ofChange opensBackWrong)

/-- 'periscopelaw24.OpensApart': WHATEVER THE INPUT: true; the input reads as it did. -/
def opensApartSpec : ChangeSpec := { name := "opensApart", fn := fun _ => fun
  | [d1, d2, d3] => { results := [.lit (.bool true)], args := [d1, d2, d3] }
  | _ => none }
def opensApartRow : OpenClaim := { program := "ytefaegoajjcfjaa", sum := "645a2a940641c5bbf3579dfefe7c9c457a789333bb92122385882091e2839a5c", func := "periscope/periscopelaw24.OpensApart", spec := "opensApart", unfollowed := true, recurses := true, apart := false }
def OpensApartSaid : Prop := opensApartRow.holds Try.pinned (OpenSpec.ofChange opensApartSpec)

/-- ITS FALSE NEIGHBOUR: 'it returns false'. Refute it at one input. -/
def opensApartWrong : ChangeSpec := { name := "opensApart", fn := fun _ => fun
  | [d1, d2, d3] => { results := [.lit (.bool false)], args := [d1, d2, d3] }
  | _ => none }
def OpensApartWrongFalsely : Prop := opensApartRow.holds Try.pinned (OpenSpec.ofChange opensApartWrong)

/- THE SECOND FORM. 'bulk': how many values and letters a reading holds, each counted each time it is reached (what is shared counts as often as it is met; a slice's spare places count too). A statement '..UptoSaid' is the law's where the arguments, and the package variables that the reading takes, are together of bulk at most 1048576: NARROWER than '..Said'. Prove '..Said' where nothing that the law and all that it calls make is longer than what came in: it says more and counts as full. Else prove '..UptoSaid'. A law counts once. -/
mutual
def uptoBulk {H : Type} : DataW H → Nat
  | .lit (.string bytes) => bytes.length + 1
  | .lit _ => 1
  | .nil => 1
  | .ptr d => uptoBulk d + 1
  | .slice elems spare => uptoBulkAll elems + uptoBulkAll spare + 1
  | .agg parts => uptoBulkAll parts + 1
  | .iface _ d => uptoBulk d + 1
  | .map entries => uptoBulkEntries entries + 1
  | .held _ => 1
def uptoBulkAll {H : Type} : List (DataW H) → Nat
  | [] => 0
  | d :: r => uptoBulk d + uptoBulkAll r
def uptoBulkEntries {H : Type} : List (Lit × DataW H) → Nat
  | [] => 0
  | x :: r => uptoBulkEntry x + uptoBulkEntries r
def uptoBulkEntry {H : Type} : Lit × DataW H → Nat
  | (.string bytes, d) => bytes.length + uptoBulk d + 1
  | (_, d) => uptoBulk d + 1
 end
def uptoSmall : (H : Type) → List (DataW H) → Bool := fun _ ds => decide (uptoBulkAll ds ≤ 1048576)
def OpenSpec.upto (s : _root_.Go.ChangeSpec) : _root_.Go.OpenSpec := { _root_.Go.OpenSpec.ofChange s with cond := some uptoSmall }

/-- 'periscopelaw15.ChanceSays', WHERE WHAT IT READS IS OF BULK AT MOST 1048576: true; the input reads as it did. -/
def chanceSaysUptoRow : OpenClaim := { program := "ytefaegoajjcfjaa", sum := "645a2a940641c5bbf3579dfefe7c9c457a789333bb92122385882091e2839a5c", func := "periscope/periscopelaw15.ChanceSays", spec := "chanceSays", apart := false, narrowed := true }
def ChanceSaysUptoSaid : Prop := chanceSaysUptoRow.holds Try.pinned (OpenSpec.upto chanceSaysSpec)

/-- 'periscopelaw15.ChanceParts', WHERE WHAT IT READS IS OF BULK AT MOST 1048576: true; the input reads as it did. -/
def chancePartsUptoRow : OpenClaim := { program := "ytefaegoajjcfjaa", sum := "645a2a940641c5bbf3579dfefe7c9c457a789333bb92122385882091e2839a5c", func := "periscope/periscopelaw15.ChanceParts", spec := "chanceParts", apart := false, narrowed := true }
def ChancePartsUptoSaid : Prop := chancePartsUptoRow.holds Try.pinned (OpenSpec.upto chancePartsSpec)

/-- 'periscopelaw15.ChanceDraws', WHERE WHAT IT READS IS OF BULK AT MOST 1048576: true; the input reads as it did. -/
def chanceDrawsUptoRow : OpenClaim := { program := "ytefaegoajjcfjaa", sum := "645a2a940641c5bbf3579dfefe7c9c457a789333bb92122385882091e2839a5c", func := "periscope/periscopelaw15.ChanceDraws", spec := "chanceDraws", apart := false, narrowed := true }
def ChanceDrawsUptoSaid : Prop := chanceDrawsUptoRow.holds Try.pinned (OpenSpec.upto chanceDrawsSpec)

/-- 'periscopelaw21.RingPlays', WHERE WHAT IT READS IS OF BULK AT MOST 1048576: true; the input reads as it did. -/
def ringPlaysUptoRow : OpenClaim := { program := "ytefaegoajjcfjaa", sum := "645a2a940641c5bbf3579dfefe7c9c457a789333bb92122385882091e2839a5c", func := "periscope/periscopelaw21.RingPlays", spec := "ringPlays", inPlace := ["sync/atomic.LoadInt64", "sync/atomic.StoreInt64"], apart := false, narrowed := true }
def RingPlaysUptoSaid : Prop := ringPlaysUptoRow.holds Try.pinned (OpenSpec.upto ringPlaysSpec)

/-- 'periscopelaw21.RingKeeps', WHERE WHAT IT READS IS OF BULK AT MOST 1048576: true; the input reads as it did. -/
def ringKeepsUptoRow : OpenClaim := { program := "ytefaegoajjcfjaa", sum := "645a2a940641c5bbf3579dfefe7c9c457a789333bb92122385882091e2839a5c", func := "periscope/periscopelaw21.RingKeeps", spec := "ringKeeps", inPlace := ["sync/atomic.LoadInt64", "sync/atomic.StoreInt64"], apart := false, narrowed := true }
def RingKeepsUptoSaid : Prop := ringKeepsUptoRow.holds Try.pinned (OpenSpec.upto ringKeepsSpec)

/-- 'periscopelaw21.RingPieces', WHERE WHAT IT READS IS OF BULK AT MOST 1048576: true; the input reads as it did. -/
def ringPiecesUptoRow : OpenClaim := { program := "ytefaegoajjcfjaa", sum := "645a2a940641c5bbf3579dfefe7c9c457a789333bb92122385882091e2839a5c", func := "periscope/periscopelaw21.RingPieces", spec := "ringPieces", inPlace := ["sync/atomic.LoadInt64", "sync/atomic.StoreInt64"], apart := false, narrowed := true }
def RingPiecesUptoSaid : Prop := ringPiecesUptoRow.holds Try.pinned (OpenSpec.upto ringPiecesSpec)

/-- 'periscopelaw22.WheelPlays', WHERE WHAT IT READS IS OF BULK AT MOST 1048576: true; the input reads as it did. -/
def wheelPlaysUptoRow : OpenClaim := { program := "ytefaegoajjcfjaa", sum := "645a2a940641c5bbf3579dfefe7c9c457a789333bb92122385882091e2839a5c", func := "periscope/periscopelaw22.WheelPlays", spec := "wheelPlays", apart := false, narrowed := true }
def WheelPlaysUptoSaid : Prop := wheelPlaysUptoRow.holds Try.pinned (OpenSpec.upto wheelPlaysSpec)

/-- 'periscopelaw22.WheelExact', WHERE WHAT IT READS IS OF BULK AT MOST 1048576: true; the input reads as it did. -/
def wheelExactUptoRow : OpenClaim := { program := "ytefaegoajjcfjaa", sum := "645a2a940641c5bbf3579dfefe7c9c457a789333bb92122385882091e2839a5c", func := "periscope/periscopelaw22.WheelExact", spec := "wheelExact", apart := false, narrowed := true }
def WheelExactUptoSaid : Prop := wheelExactUptoRow.holds Try.pinned (OpenSpec.upto wheelExactSpec)

/-- 'periscopelaw22.WheelTurns', WHERE WHAT IT READS IS OF BULK AT MOST 1048576: true; the input reads as it did. -/
def wheelTurnsUptoRow : OpenClaim := { program := "ytefaegoajjcfjaa", sum := "645a2a940641c5bbf3579dfefe7c9c457a789333bb92122385882091e2839a5c", func := "periscope/periscopelaw22.WheelTurns", spec := "wheelTurns", apart := false, narrowed := true }
def WheelTurnsUptoSaid : Prop := wheelTurnsUptoRow.holds Try.pinned (OpenSpec.upto wheelTurnsSpec)

/-- 'periscopelaw25.BufferPlays', WHERE WHAT IT READS IS OF BULK AT MOST 1048576: true; the input reads as it did. -/
def bufferPlaysUptoRow : OpenClaim := { program := "ytefaegoajjcfjaa", sum := "645a2a940641c5bbf3579dfefe7c9c457a789333bb92122385882091e2839a5c", func := "periscope/periscopelaw25.BufferPlays", spec := "bufferPlays", inPlace := ["sync/atomic.LoadInt64", "sync/atomic.StoreInt64"], apart := false, narrowed := true }
def BufferPlaysUptoSaid : Prop := bufferPlaysUptoRow.holds Try.pinned (OpenSpec.upto bufferPlaysSpec)

/-- 'periscopelaw25.BufferOnce', WHERE WHAT IT READS IS OF BULK AT MOST 1048576: true; the input reads as it did. -/
def bufferOnceUptoRow : OpenClaim := { program := "ytefaegoajjcfjaa", sum := "645a2a940641c5bbf3579dfefe7c9c457a789333bb92122385882091e2839a5c", func := "periscope/periscopelaw25.BufferOnce", spec := "bufferOnce", inPlace := ["sync/atomic.LoadInt64", "sync/atomic.StoreInt64"], apart := false, narrowed := true }
def BufferOnceUptoSaid : Prop := bufferOnceUptoRow.holds Try.pinned (OpenSpec.upto bufferOnceSpec)

/-- 'periscopelaw25.BufferPieces', WHERE WHAT IT READS IS OF BULK AT MOST 1048576: true; the input reads as it did. -/
def bufferPiecesUptoRow : OpenClaim := { program := "ytefaegoajjcfjaa", sum := "645a2a940641c5bbf3579dfefe7c9c457a789333bb92122385882091e2839a5c", func := "periscope/periscopelaw25.BufferPieces", spec := "bufferPieces", inPlace := ["sync/atomic.LoadInt64", "sync/atomic.StoreInt64"], apart := false, narrowed := true }
def BufferPiecesUptoSaid : Prop := bufferPiecesUptoRow.holds Try.pinned (OpenSpec.upto bufferPiecesSpec)

/-- 'periscopelaw24.OpensSays', WHERE WHAT IT READS IS OF BULK AT MOST 1048576: true; the input reads as it did. -/
def opensSaysUptoRow : OpenClaim := { program := "ytefaegoajjcfjaa", sum := "645a2a940641c5bbf3579dfefe7c9c457a789333bb92122385882091e2839a5c", func := "periscope/periscopelaw24.OpensSays", spec := "opensSays", unfollowed := true, recurses := true, apart := false, narrowed := true }
def OpensSaysUptoSaid : Prop := opensSaysUptoRow.holds Try.pinned (OpenSpec.upto opensSaysSpec)

/-- 'periscopelaw24.OpensBack', WHERE WHAT IT READS IS OF BULK AT MOST 1048576: true; the input reads as it did. -/
def opensBackUptoRow : OpenClaim := { program := "ytefaegoajjcfjaa", sum := "645a2a940641c5bbf3579dfefe7c9c457a789333bb92122385882091e2839a5c", func := "periscope/periscopelaw24.OpensBack", spec := "opensBack", unfollowed := true, recurses := true, apart := false, narrowed := true }
def OpensBackUptoSaid : Prop := opensBackUptoRow.holds Try.pinned (OpenSpec.upto opensBackSpec)

/-- 'periscopelaw24.OpensApart', WHERE WHAT IT READS IS OF BULK AT MOST 1048576: true; the input reads as it did. -/
def opensApartUptoRow : OpenClaim := { program := "ytefaegoajjcfjaa", sum := "645a2a940641c5bbf3579dfefe7c9c457a789333bb92122385882091e2839a5c", func := "periscope/periscopelaw24.OpensApart", spec := "opensApart", unfollowed := true, recurses := true, apart := false, narrowed := true }
def OpensApartUptoSaid : Prop := opensApartUptoRow.holds Try.pinned (OpenSpec.upto opensApartSpec)

end Rows
end Go.Proofs.Ytefaegoajjcfjaa
