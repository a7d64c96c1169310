/- The law ChanceDraws returns true: for every input, no condition. -/
import Derived.Test.YtefaegoajjcfjaaK15
import Derived.Test.YtefaegoajjcfjaaRows
namespace Go.Proofs.Ytefaegoajjcfjaa
open Go.RowKit Go.Peri
theorem chanceDraws_walk (W : World) (args : Array Value) (h : Args W W.heap.size [.slice 8 (.int .i64), .int .i64, .int .i64] args.toList) : Calls Try.prog 5 args W fun e W' => e = .returned (.bool true) ∧ Below W.heap.size W W' := by
  obtain ⟨v0, v1, v2, rfl, h0, h1, h2⟩ := args_three h
  obtain ⟨zs, hz, hl, _⟩ := ints_of_arg h0
  obtain ⟨a1, rfl, _⟩ := int_of_arg h1
  obtain ⟨a2, rfl, _⟩ := int_of_arg h2
  exact C15.cdraws_walk a1 a2 v0 zs W hz (by omega)

set_option maxRecDepth 100000 in
theorem chanceDraws_lifted (os : Os) (started : os.Started) (H : Type) (enc : TypeId × Value → H) :
    ReturnsInHanded {} Try.checked os 5 .any (Rows.chanceDrawsSpec.pre6 enc Try.prog Try.f5 Rows.chanceDrawsRow.domain false) (Rows.chanceDrawsSpec.post enc Try.prog Try.f5 false true false false) :=
  law_lift (C := Try.checked) (tb := 4) [.slice 8 (.int .i64), .int .i64, .int .i64] (by kernel_rfl) started (by kernel_rfl) Try.func5 (by kernel_rfl) rfl (by kernel_rfl) rfl Try.underlying4
    (fun ds h => by match ds, h with | [_, _, _], _ => rfl)
    (ChangeSpec.witness6 (enc := enc) (C := Try.checked) false ⟨#[], #[.slice none 0 0, .int .i64 0, .int .i64 0], []⟩ 8 (by kernel_rfl) (by kernel_rfl) (by kernel_rfl) (by kernel_rfl))
    chanceDraws_walk
theorem chanceDraws_holds : Rows.ChanceDrawsSaid :=
  OpenClaim.holds_of_wide 5 Try.f5 rfl rfl rfl rfl rfl rfl rfl ⟨rfl, rfl, rfl, rfl, rfl⟩ rfl rfl rfl rfl rfl (by kernel_rfl) Try.func5 (by kernel_rfl)
    (of_decide_eq_true (by kernel_rfl)) (by unfold Func.isWrapper; first | (rw [if_pos (by decide +kernel)]; kernel_rfl) | (rw [if_neg (by decide +kernel)]; exact ⟨rfl, rfl⟩))
    (fun os started H enc _ => chanceDraws_lifted os started H enc)
#print axioms chanceDraws_holds
end Go.Proofs.Ytefaegoajjcfjaa
