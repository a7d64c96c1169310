/- The law ParentBack returns true: for every input, no condition. -/
import Derived.Test.YtpamnknfccmgcaaM07
import Derived.Test.YtpamnknfccmgcaaA07
import Derived.Test.YtpamnknfccmgcaaRows
import Derived.Test.YtpamnknfccmgcaaIo
namespace Go.Proofs.Ytpamnknfccmgcaa
open Go.RowKit Go.Peri
theorem parentBack_walk (W : World) (args : Array Value) (h : Args W W.heap.size [Prt.ty, .str] args.toList) : Calls Try.prog 8 args W fun e W' => e = .returned (.bool true) ∧ Below W.heap.size W W' := by
  obtain ⟨v0, v1, rfl, h0, h1⟩ := args_two h
  obtain ⟨hi, lo, sp, f, rfl, g1, g2, g3, _⟩ := prt_of_arg h0
  obtain ⟨s, rfl, hs⟩ := str_of_arg h1
  exact C07.back_walk hi lo sp f s W g1 g2 g3 (by omega)

set_option maxRecDepth 100000 in
theorem parentBack_lifted (os : Os) (started : os.Started) (H : Type) (enc : TypeId × Value → H) :
    ReturnsInHanded {} Try.checked os 8 .any (Rows.parentBackSpec.pre6 enc Try.prog Try.f8 Rows.parentBackRow.domain false) (Rows.parentBackSpec.post enc Try.prog Try.f8 false true false false) :=
  law_lift (C := Try.checked) (tb := 4) [Prt.ty, .str] (by kernel_rfl) started (by kernel_rfl) Try.func8 (by kernel_rfl) rfl (by kernel_rfl) rfl Try.underlying4
    (fun ds h => by match ds, h with | [_, _], _ => rfl)
    (ChangeSpec.witness6 (enc := enc) (C := Try.checked) false ⟨#[], #[.agg #[.int .u64 0, .int .u64 0, .int .u64 0, .int .i64 0], .string ⟨#[]⟩], []⟩ 8 (by kernel_rfl) (by kernel_rfl) (by kernel_rfl) (by kernel_rfl))
    parentBack_walk
theorem parentBack_closed : joinedFacts Try.pinned.checked.prog 8 Try.f8 Rows.parentBackSpec Rows.parentBackRow = true := by
  unfold joinedFacts
  rw [io_enter, io_final, io_make]
  kernel_rfl
theorem parentBack_holds : Rows.ParentBackSaid :=
  OpenClaim.holds_of_wide 8 Try.f8 rfl rfl rfl rfl rfl rfl rfl ⟨rfl, rfl, rfl, rfl, rfl⟩ rfl rfl rfl rfl rfl (by kernel_rfl) Try.func8 parentBack_closed
    (of_decide_eq_true (by kernel_rfl)) (by unfold Func.isWrapper; first | (rw [if_pos (by decide +kernel)]; kernel_rfl) | (rw [if_neg (by decide +kernel)]; exact ⟨rfl, rfl⟩))
    (fun os started H enc _ => parentBack_lifted os started H enc)
#print axioms parentBack_holds
end Go.Proofs.Ytpamnknfccmgcaa
