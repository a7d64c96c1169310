/- The law WheelExact returns true: for every input, no condition. -/
import Derived.Test.YthmopkaecbebpaaI22
import Derived.Test.YthmopkaecbebpaaRows
import Derived.Test.YthmopkaecbebpaaIo
namespace Go.Proofs.Ythmopkaecbebpaa
open Go.RowKit Go.Peri
theorem wheelExact_walk (W : World) (args : Array Value) (h : Args W W.heap.size [.slice 16 Wm.ty, .int .i64, .int .i64] args.toList) : Calls Try.prog 4 args W fun e W' => e = .returned (.bool true) ∧ Below W.heap.size W W' := by
  obtain ⟨v0, v1, v2, rfl, h0, h1, h2⟩ := args_three h
  obtain ⟨l, hl, _⟩ := wmoves_of_arg h0
  obtain ⟨t, rfl, _⟩ := int_of_arg h1
  obtain ⟨s, rfl, _⟩ := int_of_arg h2
  exact C22.exact_walk v0 l t s W hl

set_option maxRecDepth 100000 in
theorem wheelExact_lifted (os : Os) (started : os.Started) (H : Type) (enc : TypeId × Value → H) :
    ReturnsInHanded {} Try.checked os 4 .any (Rows.wheelExactSpec.pre6 enc Try.prog Try.f4 Rows.wheelExactRow.domain false) (Rows.wheelExactSpec.post enc Try.prog Try.f4 false true false false) :=
  law_lift (C := Try.checked) (tb := 4) [.slice 16 Wm.ty, .int .i64, .int .i64] (by kernel_rfl) started (by kernel_rfl) Try.func4 (by kernel_rfl) rfl (by kernel_rfl) rfl Try.underlying4
    (fun ds h => by match ds, h with | [_, _, _], _ => rfl)
    (ChangeSpec.witness6 (enc := enc) (C := Try.checked) false ⟨#[], #[.slice none 0 0, .int .i64 0, .int .i64 0], []⟩ 8 (by kernel_rfl) (by kernel_rfl) (by kernel_rfl) (by kernel_rfl))
    wheelExact_walk
theorem wheelExact_closed : joinedFacts Try.pinned.checked.prog 4 Try.f4 Rows.wheelExactSpec Rows.wheelExactRow = true := by
  unfold joinedFacts
  rw [io_enter, io_final, io_make]
  kernel_rfl
theorem wheelExact_holds : Rows.WheelExactSaid :=
  OpenClaim.holds_of_wide 4 Try.f4 rfl rfl rfl rfl rfl rfl rfl ⟨rfl, rfl, rfl, rfl, rfl⟩ rfl rfl rfl rfl rfl (by kernel_rfl) Try.func4 wheelExact_closed
    (of_decide_eq_true (by kernel_rfl)) (by unfold Func.isWrapper; first | (rw [if_pos (by decide +kernel)]; kernel_rfl) | (rw [if_neg (by decide +kernel)]; exact ⟨rfl, rfl⟩))
    (fun os started H enc _ => wheelExact_lifted os started H enc)
#print axioms wheelExact_holds
end Go.Proofs.Ythmopkaecbebpaa
