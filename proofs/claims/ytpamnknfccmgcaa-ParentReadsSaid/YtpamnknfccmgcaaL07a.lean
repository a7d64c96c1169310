/- The law ParentReads returns true: for every input, no condition. -/
import Derived.Test.YtpamnknfccmgcaaJ07
import Derived.Test.YtpamnknfccmgcaaA07
import Derived.Test.YtpamnknfccmgcaaRows
import Derived.Test.YtpamnknfccmgcaaIo
namespace Go.Proofs.Ytpamnknfccmgcaa
open Go.RowKit Go.Peri
theorem parentReads_walk (W : World) (args : Array Value) (h : Args W W.heap.size [.str] args.toList) : Calls Try.prog 6 args W fun e W' => e = .returned (.bool true) ∧ Below W.heap.size W W' := by
  obtain ⟨v0, rfl, h0⟩ := args_one h
  obtain ⟨s, rfl, hs⟩ := str_of_arg h0
  exact C07.reads_walk s W (by omega)

set_option maxRecDepth 100000 in
theorem parentReads_lifted (os : Os) (started : os.Started) (H : Type) (enc : TypeId × Value → H) :
    ReturnsInHanded {} Try.checked os 6 .any (Rows.parentReadsSpec.pre6 enc Try.prog Try.f6 Rows.parentReadsRow.domain false) (Rows.parentReadsSpec.post enc Try.prog Try.f6 false true false false) :=
  law_lift (C := Try.checked) (tb := 4) [.str] (by kernel_rfl) started (by kernel_rfl) Try.func6 (by kernel_rfl) rfl (by kernel_rfl) rfl Try.underlying4
    (fun ds h => by match ds, h with | [_], _ => rfl)
    (ChangeSpec.witness6 (enc := enc) (C := Try.checked) false ⟨#[], #[.string ⟨#[]⟩], []⟩ 8 (by kernel_rfl) (by kernel_rfl) (by kernel_rfl) (by kernel_rfl))
    parentReads_walk
theorem parentReads_closed : joinedFacts Try.pinned.checked.prog 6 Try.f6 Rows.parentReadsSpec Rows.parentReadsRow = true := by
  unfold joinedFacts
  rw [io_enter, io_final, io_make]
  kernel_rfl
theorem parentReads_holds : Rows.ParentReadsSaid :=
  OpenClaim.holds_of_wide 6 Try.f6 rfl rfl rfl rfl rfl rfl rfl ⟨rfl, rfl, rfl, rfl, rfl⟩ rfl rfl rfl rfl rfl (by kernel_rfl) Try.func6 parentReads_closed
    (of_decide_eq_true (by kernel_rfl)) (by unfold Func.isWrapper; first | (rw [if_pos (by decide +kernel)]; kernel_rfl) | (rw [if_neg (by decide +kernel)]; exact ⟨rfl, rfl⟩))
    (fun os started H enc _ => parentReads_lifted os started H enc)
#print axioms parentReads_holds
end Go.Proofs.Ytpamnknfccmgcaa
