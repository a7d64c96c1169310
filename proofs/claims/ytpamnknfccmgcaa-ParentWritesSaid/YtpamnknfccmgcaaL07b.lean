/- The law ParentWrites returns true: for every input, no condition. -/
import Derived.Test.YtpamnknfccmgcaaK07
import Derived.Test.YtpamnknfccmgcaaA07
import Derived.Test.YtpamnknfccmgcaaRows
import Derived.Test.YtpamnknfccmgcaaIo
namespace Go.Proofs.Ytpamnknfccmgcaa
open Go.RowKit Go.Peri
theorem parentWrites_walk (W : World) (args : Array Value) (h : Args W W.heap.size [Prt.ty, .int .u64] args.toList) : Calls Try.prog 7 args W fun e W' => e = .returned (.bool true) ∧ Below W.heap.size W W' := by
  obtain ⟨v0, v1, rfl, h0, h1⟩ := args_two h
  obtain ⟨hi, lo, sp, f, rfl, g1, g2, g3, _⟩ := prt_of_arg h0
  obtain ⟨n, rfl, hn⟩ := uint64_of_arg h1
  exact C07.writes_walk hi lo sp n f W g1 g2 g3

set_option maxRecDepth 100000 in
theorem parentWrites_lifted (os : Os) (started : os.Started) (H : Type) (enc : TypeId × Value → H) :
    ReturnsInHanded {} Try.checked os 7 .any (Rows.parentWritesSpec.pre6 enc Try.prog Try.f7 Rows.parentWritesRow.domain false) (Rows.parentWritesSpec.post enc Try.prog Try.f7 false true false false) :=
  law_lift (C := Try.checked) (tb := 4) [Prt.ty, .int .u64] (by kernel_rfl) started (by kernel_rfl) Try.func7 (by kernel_rfl) rfl (by kernel_rfl) rfl Try.underlying4
    (fun ds h => by match ds, h with | [_, _], _ => rfl)
    (ChangeSpec.witness6 (enc := enc) (C := Try.checked) false ⟨#[], #[.agg #[.int .u64 0, .int .u64 0, .int .u64 0, .int .i64 0], .int .u64 0], []⟩ 8 (by kernel_rfl) (by kernel_rfl) (by kernel_rfl) (by kernel_rfl))
    parentWrites_walk
theorem parentWrites_closed : joinedFacts Try.pinned.checked.prog 7 Try.f7 Rows.parentWritesSpec Rows.parentWritesRow = true := by
  unfold joinedFacts
  rw [io_enter, io_final, io_make]
  kernel_rfl
theorem parentWrites_holds : Rows.ParentWritesSaid :=
  OpenClaim.holds_of_wide 7 Try.f7 rfl rfl rfl rfl rfl rfl rfl ⟨rfl, rfl, rfl, rfl, rfl⟩ rfl rfl rfl rfl rfl (by kernel_rfl) Try.func7 parentWrites_closed
    (of_decide_eq_true (by kernel_rfl)) (by unfold Func.isWrapper; first | (rw [if_pos (by decide +kernel)]; kernel_rfl) | (rw [if_neg (by decide +kernel)]; exact ⟨rfl, rfl⟩))
    (fun os started H enc _ => parentWrites_lifted os started H enc)
#print axioms parentWrites_holds
end Go.Proofs.Ytpamnknfccmgcaa
