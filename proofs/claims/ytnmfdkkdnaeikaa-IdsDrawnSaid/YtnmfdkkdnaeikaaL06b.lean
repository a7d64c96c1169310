/- The law IdsDrawn returns true: for every input, no condition. -/
import Derived.Test.YtnmfdkkdnaeikaaM06
import Derived.Test.YtnmfdkkdnaeikaaA01
import Derived.Test.YtnmfdkkdnaeikaaRows
namespace Go.Proofs.Ytnmfdkkdnaeikaa
open Go.RowKit Go.Peri
theorem idsDrawn_walk (W : World) (args : Array Value) (h : Args W W.heap.size [.slice 8 (.int .u64), .int .i64] args.toList) : Calls Try.prog 15 args W fun e W' => e = .returned (.bool true) ∧ Below W.heap.size W W' := by
  obtain ⟨v0, v1, rfl, h0, h1⟩ := args_two h
  obtain ⟨zs, hz, _, hw⟩ := nats_of_arg h0
  obtain ⟨a, rfl, ha⟩ := i64_of_arg h1
  exact C06.drawn_walk v0 zs a W hz hw ha

set_option maxRecDepth 100000 in
theorem idsDrawn_lifted (os : Os) (started : os.Started) (H : Type) (enc : TypeId × Value → H) :
    ReturnsInHanded {} Try.checked os 15 .any (Rows.idsDrawnSpec.pre6 enc Try.prog Try.f15 Rows.idsDrawnRow.domain false) (Rows.idsDrawnSpec.post enc Try.prog Try.f15 false true false false) :=
  law_lift (C := Try.checked) (tb := 4) [.slice 8 (.int .u64), .int .i64] (by kernel_rfl) started (by kernel_rfl) Try.func15 (by kernel_rfl) rfl (by kernel_rfl) rfl Try.underlying4
    (fun ds h => by match ds, h with | [_, _], _ => rfl)
    (ChangeSpec.witness6 (enc := enc) (C := Try.checked) false ⟨#[], #[.slice none 0 0, .int .i64 0], []⟩ 8 (by kernel_rfl) (by kernel_rfl) (by kernel_rfl) (by kernel_rfl))
    idsDrawn_walk
theorem idsDrawn_holds : Rows.IdsDrawnSaid :=
  OpenClaim.holds_of_wide 15 Try.f15 rfl rfl rfl rfl rfl rfl rfl ⟨rfl, rfl, rfl, rfl, rfl⟩ rfl rfl rfl rfl rfl (by kernel_rfl) Try.func15 (by kernel_rfl)
    (of_decide_eq_true (by kernel_rfl)) (by unfold Func.isWrapper; first | (rw [if_pos (by decide +kernel)]; kernel_rfl) | (rw [if_neg (by decide +kernel)]; exact ⟨rfl, rfl⟩))
    (fun os started H enc _ => idsDrawn_lifted os started H enc)
#print axioms idsDrawn_holds
end Go.Proofs.Ytnmfdkkdnaeikaa
