/- The law OpensBack returns true: for every input, no condition. -/
import Derived.Test.YtefaegoajjcfjaaM24
import Derived.Test.YtefaegoajjcfjaaA24
import Derived.Test.YtefaegoajjcfjaaRows
namespace Go.Proofs.Ytefaegoajjcfjaa
open Go.RowKit Go.Peri
theorem opensBack_walk (W : World) (args : Array Value) (h : Args W W.heap.size [.slice 104 Opn.ty, .int .i64, Sp.ty] args.toList) : Calls Try.prog 16 args W fun e W' => e = .returned (.bool true) ∧ Below W.heap.size W W' := by
  obtain ⟨v0, v1, v2, rfl, h0, h1, h2⟩ := args_three h
  obtain ⟨l, hl, hn⟩ := opens_of_arg h0
  obtain ⟨no, rfl, _⟩ := int64_of_arg h1
  obtain ⟨s, rfl, _⟩ := span_of_arg h2
  exact C24.back_walk v0 l no s W hl (by omega)

set_option maxRecDepth 100000 in
theorem opensBack_lifted (os : Os) (started : os.Started) (H : Type) (enc : TypeId × Value → H) :
    ReturnsInHanded {} Try.checked os 16 .any (Rows.opensBackSpec.pre6 enc Try.prog Try.f16 Rows.opensBackRow.domain false) (Rows.opensBackSpec.post enc Try.prog Try.f16 false true false false) :=
  law_lift (C := Try.checked) (tb := 4) [.slice 104 Opn.ty, .int .i64, Sp.ty] (by kernel_rfl) started (by kernel_rfl) Try.func16 (by kernel_rfl) rfl (by kernel_rfl) rfl Try.underlying4
    (fun ds h => by match ds, h with | [_, _, _], _ => rfl)
    (ChangeSpec.witness6 (enc := enc) (C := Try.checked) false ⟨#[], #[.slice none 0 0, .int .i64 0, .agg #[.int .u64 0, .int .u64 0, .int .u64 0, .int .u64 0, .string ⟨#[]⟩, .int .i64 0, .int .i64 0, .int .i64 0, .bool false, .int .i64 0, .int .i64 0]], []⟩ 8 (by kernel_rfl) (by kernel_rfl) (by kernel_rfl) (by kernel_rfl))
    opensBack_walk
theorem opensBack_holds : Rows.OpensBackSaid :=
  OpenClaim.holds_of_wide 16 Try.f16 rfl rfl rfl rfl rfl rfl rfl ⟨rfl, rfl, rfl, rfl, rfl⟩ rfl rfl rfl rfl rfl (by kernel_rfl) Try.func16 (by kernel_rfl)
    (of_decide_eq_true (by kernel_rfl)) (by unfold Func.isWrapper; first | (rw [if_pos (by decide +kernel)]; kernel_rfl) | (rw [if_neg (by decide +kernel)]; exact ⟨rfl, rfl⟩))
    (fun os started H enc _ => opensBack_lifted os started H enc)
#print axioms opensBack_holds
end Go.Proofs.Ytefaegoajjcfjaa
