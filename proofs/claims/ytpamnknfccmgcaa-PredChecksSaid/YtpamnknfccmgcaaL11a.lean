/- The law PredChecks returns true: for every input, no condition. -/
import Derived.Test.YtpamnknfccmgcaaZ11
import Derived.Test.YtpamnknfccmgcaaRows
import Derived.Test.YtpamnknfccmgcaaIo
namespace Go.Proofs.Ytpamnknfccmgcaa
open Go.RowKit Go.Peri
theorem predChecks_walk (W : World) (args : Array Value) (h : Args W W.heap.size [Prd.ty] args.toList) : Calls Try.prog 9 args W fun e W' => e = .returned (.bool true) ∧ Below W.heap.size W W' := by
  obtain ⟨v0, rfl, h0⟩ := args_one h
  obtain ⟨x, rfl, hx⟩ := pred_of_arg h0
  exact C11.checks_walk C11.known_any x.kind x.name x.value W hx.name hx.value

set_option maxRecDepth 100000 in
theorem predChecks_lifted (os : Os) (started : os.Started) (H : Type) (enc : TypeId × Value → H) :
    ReturnsInHanded {} Try.checked os 9 .any (Rows.predChecksSpec.pre6 enc Try.prog Try.f9 Rows.predChecksRow.domain false) (Rows.predChecksSpec.post enc Try.prog Try.f9 false true false false) :=
  law_lift (C := Try.checked) (tb := 4) [Prd.ty] (by kernel_rfl) started (by kernel_rfl) Try.func9 (by kernel_rfl) rfl (by kernel_rfl) rfl Try.underlying4
    (fun ds h => by match ds, h with | [_], _ => rfl)
    (ChangeSpec.witness6 (enc := enc) (C := Try.checked) false ⟨#[], #[.agg #[.int .i64 0, .string ⟨#[]⟩, .string ⟨#[]⟩]], []⟩ 8 (by kernel_rfl) (by kernel_rfl) (by kernel_rfl) (by kernel_rfl))
    predChecks_walk
theorem predChecks_closed : joinedFacts Try.pinned.checked.prog 9 Try.f9 Rows.predChecksSpec Rows.predChecksRow = true := by
  unfold joinedFacts
  rw [io_enter, io_final, io_make]
  kernel_rfl
theorem predChecks_holds : Rows.PredChecksSaid :=
  OpenClaim.holds_of_wide 9 Try.f9 rfl rfl rfl rfl rfl rfl rfl ⟨rfl, rfl, rfl, rfl, rfl⟩ rfl rfl rfl rfl rfl (by kernel_rfl) Try.func9 predChecks_closed
    (of_decide_eq_true (by kernel_rfl)) (by unfold Func.isWrapper; first | (rw [if_pos (by decide +kernel)]; kernel_rfl) | (rw [if_neg (by decide +kernel)]; exact ⟨rfl, rfl⟩))
    (fun os started H enc _ => predChecks_lifted os started H enc)
#print axioms predChecks_holds
end Go.Proofs.Ytpamnknfccmgcaa
