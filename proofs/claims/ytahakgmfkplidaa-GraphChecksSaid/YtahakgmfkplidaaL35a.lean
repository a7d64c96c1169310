/- The law GraphChecks returns true: for every input, no condition. -/
import Derived.Test.YtahakgmfkplidaaX35
import Derived.Test.YtahakgmfkplidaaRows
import Derived.Test.YtahakgmfkplidaaIo
namespace Go.Proofs.Ytahakgmfkplidaa
open Go.RowKit Go.Peri
theorem graphChecks_walk (W : World) (args : Array Value) (h : Args W W.heap.size [.slice 40 Sv.ty] args.toList) : Calls Try.prog 3 args W fun e W' => e = .returned (.bool true) ∧ Below W.heap.size W W' := by
  obtain ⟨v0, rfl, h0⟩ := args_one h
  obtain ⟨l, hv, hl, hw⟩ := services_of_arg h0
  exact C35.checks_walk v0 l W hv hl hw

set_option maxRecDepth 100000 in
theorem graphChecks_lifted (os : Os) (started : os.Started) (H : Type) (enc : TypeId × Value → H) :
    ReturnsInHanded {} Try.checked os 3 .any (Rows.graphChecksSpec.pre6 enc Try.prog Try.f3 Rows.graphChecksRow.domain false) (Rows.graphChecksSpec.post enc Try.prog Try.f3 false true false false) :=
  law_lift (C := Try.checked) (tb := 4) [.slice 40 Sv.ty] (by kernel_rfl) started (by kernel_rfl) Try.func3 (by kernel_rfl) rfl (by kernel_rfl) rfl Try.underlying4
    (fun ds h => by match ds, h with | [_], _ => rfl)
    (ChangeSpec.witness6 (enc := enc) (C := Try.checked) false ⟨#[], #[.slice none 0 0], []⟩ 8 (by kernel_rfl) (by kernel_rfl) (by kernel_rfl) (by kernel_rfl))
    graphChecks_walk
theorem graphChecks_closed : joinedFacts Try.pinned.checked.prog 3 Try.f3 Rows.graphChecksSpec Rows.graphChecksRow = true := by
  unfold joinedFacts
  rw [io_enter, io_final, io_make]
  kernel_rfl
theorem graphChecks_holds : Rows.GraphChecksSaid :=
  OpenClaim.holds_of_wide 3 Try.f3 rfl rfl rfl rfl rfl rfl rfl ⟨rfl, rfl, rfl, rfl, rfl⟩ rfl rfl rfl rfl rfl (by kernel_rfl) Try.func3 graphChecks_closed
    (of_decide_eq_true (by kernel_rfl)) (by unfold Func.isWrapper; first | (rw [if_pos (by decide +kernel)]; kernel_rfl) | (rw [if_neg (by decide +kernel)]; exact ⟨rfl, rfl⟩))
    (fun os started H enc _ => graphChecks_lifted os started H enc)
#print axioms graphChecks_holds
end Go.Proofs.Ytahakgmfkplidaa
