/- The law OpensSays returns true: for every input, no condition. -/
import Derived.Test.YtefaegoajjcfjaaK24
import Derived.Test.YtefaegoajjcfjaaA24
import Derived.Test.YtefaegoajjcfjaaRows
namespace Go.Proofs.Ytefaegoajjcfjaa
open Go.RowKit Go.Peri
theorem opensSays_walk (W : World) (args : Array Value) (h : Args W W.heap.size [.slice 104 Opn.ty, .int .i64, Sp.ty, .cons (.int .i64) (.cons (.int .i64) (.cons (.int .i64) .nil))] args.toList) : Calls Try.prog 15 args W fun e W' => e = .returned (.bool true) ∧ Below W.heap.size W W' := by
  obtain ⟨v0, v1, v2, v3, rfl, h0, h1, h2, h3⟩ := args_four h
  obtain ⟨l, hl, hn⟩ := opens_of_arg h0
  obtain ⟨no, rfl, _⟩ := int64_of_arg h1
  obtain ⟨s, rfl, _⟩ := span_of_arg h2
  obtain ⟨x, y, z, rfl, _⟩ := i64s_three h3
  exact C24.says_walk v0 l no s x y z W hl (by omega)

set_option maxRecDepth 100000 in
theorem opensSays_lifted (os : Os) (started : os.Started) (H : Type) (enc : TypeId × Value → H) :
    ReturnsInHanded {} Try.checked os 15 .any (Rows.opensSaysSpec.pre6 enc Try.prog Try.f15 Rows.opensSaysRow.domain false) (Rows.opensSaysSpec.post enc Try.prog Try.f15 false true false false) :=
  law_lift (C := Try.checked) (tb := 4) [.slice 104 Opn.ty, .int .i64, Sp.ty, .cons (.int .i64) (.cons (.int .i64) (.cons (.int .i64) .nil))] (by kernel_rfl) started (by kernel_rfl) Try.func15 (by kernel_rfl) rfl (by kernel_rfl) rfl Try.underlying4
    (fun ds h => by match ds, h with | [_, _, _, _], _ => rfl)
    (ChangeSpec.witness6 (enc := enc) (C := Try.checked) false ⟨#[], #[.slice none 0 0, .int .i64 0, .agg #[.int .u64 0, .int .u64 0, .int .u64 0, .int .u64 0, .string ⟨#[]⟩, .int .i64 0, .int .i64 0, .int .i64 0, .bool false, .int .i64 0, .int .i64 0], .agg #[.int .i64 0, .int .i64 0, .int .i64 0]], []⟩ 8 (by kernel_rfl) (by kernel_rfl) (by kernel_rfl) (by kernel_rfl))
    opensSays_walk
theorem opensSays_holds : Rows.OpensSaysSaid :=
  OpenClaim.holds_of_wide 15 Try.f15 rfl rfl rfl rfl rfl rfl rfl ⟨rfl, rfl, rfl, rfl, rfl⟩ rfl rfl rfl rfl rfl (by kernel_rfl) Try.func15 (by kernel_rfl)
    (of_decide_eq_true (by kernel_rfl)) (by unfold Func.isWrapper; first | (rw [if_pos (by decide +kernel)]; kernel_rfl) | (rw [if_neg (by decide +kernel)]; exact ⟨rfl, rfl⟩))
    (fun os started H enc _ => opensSays_lifted os started H enc)
#print axioms opensSays_holds
end Go.Proofs.Ytefaegoajjcfjaa
