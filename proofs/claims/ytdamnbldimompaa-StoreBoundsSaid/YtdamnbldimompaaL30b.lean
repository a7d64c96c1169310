/- The law StoreBounds returns true: for every input, no condition. -/
import Derived.Test.YtdamnbldimompaaS30
import Derived.Test.YtdamnbldimompaaA30
import Derived.Test.YtdamnbldimompaaU30
import Derived.Test.YtdamnbldimompaaRows
namespace Go.Proofs.Ytdamnbldimompaa
open Go.RowKit Go.Peri
theorem storeBounds_walk (W : World) (args : Array Value) (h : Args W W.heap.size [.int .i64, .slice 96 Sp.ty] args.toList) : Calls Try.prog 4 args W fun e W' => e = .returned (.bool true) ∧ Below W.heap.size W W' := by
  obtain ⟨v0, v1, rfl, h0, h1⟩ := args_two h
  obtain ⟨room, rfl, _⟩ := int64_of_arg h0
  obtain ⟨l, hl, hll⟩ := spans_of_arg' h1
  exact C30.bounds_walk C30.known_any room v1 l W hl hll

set_option maxRecDepth 100000 in
theorem storeBounds_lifted (os : Os) (started : os.Started) (H : Type) (enc : TypeId × Value → H) :
    ReturnsInHanded {} Try.checked os 4 .any (Rows.storeBoundsSpec.pre6 enc Try.prog Try.f4 Rows.storeBoundsRow.domain false) (Rows.storeBoundsSpec.post enc Try.prog Try.f4 false true false false) :=
  law_lift (C := Try.checked) (tb := 4) [.int .i64, .slice 96 Sp.ty] (by kernel_rfl) started (by kernel_rfl) Try.func4 (by kernel_rfl) rfl (by kernel_rfl) rfl Try.underlying4
    (fun ds h => by match ds, h with | [_, _], _ => rfl)
    (ChangeSpec.witness6 (enc := enc) (C := Try.checked) false ⟨#[], #[.int .i64 0, .slice none 0 0], []⟩ 8 (by kernel_rfl) (by kernel_rfl) (by kernel_rfl) (by kernel_rfl))
    storeBounds_walk
theorem storeBounds_holds : Rows.StoreBoundsSaid :=
  OpenClaim.holds_of_wide 4 Try.f4 rfl rfl rfl rfl rfl rfl rfl ⟨rfl, rfl, rfl, rfl, rfl⟩ rfl rfl rfl rfl rfl (by kernel_rfl) Try.func4 (by kernel_rfl)
    (of_decide_eq_true (by kernel_rfl)) (by unfold Func.isWrapper; first | (rw [if_pos (by decide +kernel)]; kernel_rfl) | (rw [if_neg (by decide +kernel)]; exact ⟨rfl, rfl⟩))
    (fun os started H enc _ => storeBounds_lifted os started H enc)
#print axioms storeBounds_holds
end Go.Proofs.Ytdamnbldimompaa
