/- The law ChanceSays returns true: for every input, no condition. -/
import Derived.Test.YtefaegoajjcfjaaK15
import Derived.Test.YtefaegoajjcfjaaRows
namespace Go.Proofs.Ytefaegoajjcfjaa
open Go.RowKit Go.Peri
theorem chanceSays_walk (W : World) (args : Array Value) (h : Args W W.heap.size [.int .i64, .int .i64, .slice 8 (.int .i64), .int .i64] args.toList) : Calls Try.prog 3 args W fun e W' => e = .returned (.bool true) ∧ Below W.heap.size W W' := by
  obtain ⟨v0, v1, v2, v3, rfl, h0, h1, h2, h3⟩ := args_four h
  obtain ⟨a0, rfl, _⟩ := int_of_arg h0
  obtain ⟨a1, rfl, _⟩ := int_of_arg h1
  obtain ⟨zs, hz, hl, _⟩ := ints_of_arg h2
  obtain ⟨a3, rfl, _⟩ := int_of_arg h3
  exact C15.says_walk a0 a1 a3 v2 zs W hz (by omega)

set_option maxRecDepth 100000 in
theorem chanceSays_lifted (os : Os) (started : os.Started) (H : Type) (enc : TypeId × Value → H) :
    ReturnsInHanded {} Try.checked os 3 .any (Rows.chanceSaysSpec.pre6 enc Try.prog Try.f3 Rows.chanceSaysRow.domain false) (Rows.chanceSaysSpec.post enc Try.prog Try.f3 false true false false) :=
  law_lift (C := Try.checked) (tb := 4) [.int .i64, .int .i64, .slice 8 (.int .i64), .int .i64] (by kernel_rfl) started (by kernel_rfl) Try.func3 (by kernel_rfl) rfl (by kernel_rfl) rfl Try.underlying4
    (fun ds h => by match ds, h with | [_, _, _, _], _ => rfl)
    (ChangeSpec.witness6 (enc := enc) (C := Try.checked) false ⟨#[], #[.int .i64 0, .int .i64 0, .slice none 0 0, .int .i64 0], []⟩ 8 (by kernel_rfl) (by kernel_rfl) (by kernel_rfl) (by kernel_rfl))
    chanceSays_walk
theorem chanceSays_holds : Rows.ChanceSaysSaid :=
  OpenClaim.holds_of_wide 3 Try.f3 rfl rfl rfl rfl rfl rfl rfl ⟨rfl, rfl, rfl, rfl, rfl⟩ rfl rfl rfl rfl rfl (by kernel_rfl) Try.func3 (by kernel_rfl)
    (of_decide_eq_true (by kernel_rfl)) (by unfold Func.isWrapper; first | (rw [if_pos (by decide +kernel)]; kernel_rfl) | (rw [if_neg (by decide +kernel)]; exact ⟨rfl, rfl⟩))
    (fun os started H enc _ => chanceSays_lifted os started H enc)
#print axioms chanceSays_holds
end Go.Proofs.Ytefaegoajjcfjaa
