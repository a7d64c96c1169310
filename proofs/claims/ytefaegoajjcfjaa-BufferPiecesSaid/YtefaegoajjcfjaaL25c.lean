/- The law BufferPieces returns true: for every input, no condition. -/
import Derived.Test.YtefaegoajjcfjaaK25
import Derived.Test.YtefaegoajjcfjaaA25
import Derived.Test.YtefaegoajjcfjaaRows
namespace Go.Proofs.Ytefaegoajjcfjaa
open Go.RowKit Go.Peri
theorem bufferPieces_walk (W : World) (args : Array Value) (h : Args W W.heap.size [.int .i64, .slice 96 Sp.ty, .cons (.int .i64) (.cons (.int .i64) .nil)] args.toList) : Calls Try.prog 14 args W fun e W' => e = .returned (.bool true) ∧ Below W.heap.size W W' := by
  obtain ⟨v0, v1, v2, rfl, h0, h1, h2⟩ := args_three h
  obtain ⟨room, rfl, _⟩ := int64_of_arg h0
  obtain ⟨l, hl, hn⟩ := spans_of_arg h1
  obtain ⟨m, n, rfl, _⟩ := i64s_two h2
  by_cases hg : l.length ≤ 200 ∧ 0 ≤ m ∧ m ≤ 1000 ∧ 0 ≤ n ∧ n ≤ 1000
  · exact C25.pieces_good room v1 l m n W hl hg.1 hg.2.1 hg.2.2.1 hg.2.2.2.1 hg.2.2.2.2
  · exact C25.pieces_bad room v1 l m n W hl hg

set_option maxRecDepth 100000 in
theorem bufferPieces_lifted (os : Os) (started : os.Started) (H : Type) (enc : TypeId × Value → H) :
    ReturnsInHanded {} Try.checked os 14 .any (Rows.bufferPiecesSpec.pre6 enc Try.prog Try.f14 Rows.bufferPiecesRow.domain false) (Rows.bufferPiecesSpec.post enc Try.prog Try.f14 false true false false) :=
  law_lift (C := Try.checked) (tb := 4) [.int .i64, .slice 96 Sp.ty, .cons (.int .i64) (.cons (.int .i64) .nil)] (by kernel_rfl) started (by kernel_rfl) Try.func14 (by kernel_rfl) rfl (by kernel_rfl) rfl Try.underlying4
    (fun ds h => by match ds, h with | [_, _, _], _ => rfl)
    (ChangeSpec.witness6 (enc := enc) (C := Try.checked) false ⟨#[], #[.int .i64 0, .slice none 0 0, .agg #[.int .i64 0, .int .i64 0]], []⟩ 8 (by kernel_rfl) (by kernel_rfl) (by kernel_rfl) (by kernel_rfl))
    bufferPieces_walk
theorem bufferPieces_holds : Rows.BufferPiecesSaid :=
  OpenClaim.holds_of_wide 14 Try.f14 rfl rfl rfl rfl rfl rfl rfl ⟨rfl, rfl, rfl, rfl, rfl⟩ rfl rfl rfl rfl rfl (by kernel_rfl) Try.func14 (by kernel_rfl)
    (of_decide_eq_true (by kernel_rfl)) (by unfold Func.isWrapper; first | (rw [if_pos (by decide +kernel)]; kernel_rfl) | (rw [if_neg (by decide +kernel)]; exact ⟨rfl, rfl⟩))
    (fun os started H enc _ => bufferPieces_lifted os started H enc)
#print axioms bufferPieces_holds
end Go.Proofs.Ytefaegoajjcfjaa
