/- The law RingPieces returns true: for every input, no condition. -/
import Derived.Test.YtefaegoajjcfjaaM21
import Derived.Test.YtefaegoajjcfjaaA21
import Derived.Test.YtefaegoajjcfjaaRows
namespace Go.Proofs.Ytefaegoajjcfjaa
open Go.RowKit Go.Peri
theorem ringPieces_walk (W : World) (args : Array Value) (h : Args W W.heap.size [.int .i64, .slice 16 .str, .int .i64] args.toList) : Calls Try.prog 8 args W fun e W' => e = .returned (.bool true) ∧ Below W.heap.size W W' := by
  obtain ⟨v0, v1, v2, rfl, h0, h1, h2⟩ := args_three h
  obtain ⟨a0, rfl, _⟩ := int_of_arg h0
  obtain ⟨ss, hs, _⟩ := strs_of_arg h1
  obtain ⟨a2, rfl, _⟩ := int_of_arg h2
  exact C21.pieces_walk a0 a2 v1 ss W hs

set_option maxRecDepth 100000 in
theorem ringPieces_lifted (os : Os) (started : os.Started) (H : Type) (enc : TypeId × Value → H) :
    ReturnsInHanded {} Try.checked os 8 .any (Rows.ringPiecesSpec.pre6 enc Try.prog Try.f8 Rows.ringPiecesRow.domain false) (Rows.ringPiecesSpec.post enc Try.prog Try.f8 false true false false) :=
  law_lift (C := Try.checked) (tb := 4) [.int .i64, .slice 16 .str, .int .i64] (by kernel_rfl) started (by kernel_rfl) Try.func8 (by kernel_rfl) rfl (by kernel_rfl) rfl Try.underlying4
    (fun ds h => by match ds, h with | [_, _, _], _ => rfl)
    (ChangeSpec.witness6 (enc := enc) (C := Try.checked) false ⟨#[], #[.int .i64 0, .slice none 0 0, .int .i64 0], []⟩ 8 (by kernel_rfl) (by kernel_rfl) (by kernel_rfl) (by kernel_rfl))
    ringPieces_walk
theorem ringPieces_holds : Rows.RingPiecesSaid :=
  OpenClaim.holds_of_wide 8 Try.f8 rfl rfl rfl rfl rfl rfl rfl ⟨rfl, rfl, rfl, rfl, rfl⟩ rfl rfl rfl rfl rfl (by kernel_rfl) Try.func8 (by kernel_rfl)
    (of_decide_eq_true (by kernel_rfl)) (by unfold Func.isWrapper; first | (rw [if_pos (by decide +kernel)]; kernel_rfl) | (rw [if_neg (by decide +kernel)]; exact ⟨rfl, rfl⟩))
    (fun os started H enc _ => ringPieces_lifted os started H enc)
#print axioms ringPieces_holds
end Go.Proofs.Ytefaegoajjcfjaa
