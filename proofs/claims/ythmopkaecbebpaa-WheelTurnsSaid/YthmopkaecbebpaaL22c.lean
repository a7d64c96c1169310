/- The law WheelTurns returns true: for every input, no condition. -/
import Derived.Test.YthmopkaecbebpaaJ22
import Derived.Test.YthmopkaecbebpaaRows
import Derived.Test.YthmopkaecbebpaaIo
namespace Go.Proofs.Ythmopkaecbebpaa
open Go.RowKit Go.Peri
theorem wheelTurns_walk (W : World) (args : Array Value) (h : Args W W.heap.size [.int .i64, .slice 16 Wm.ty] args.toList) : Calls Try.prog 5 args W fun e W' => e = .returned (.bool true) ∧ Below W.heap.size W W' := by
  obtain ⟨v0, v1, rfl, h0, h1⟩ := args_two h
  obtain ⟨s, rfl, _⟩ := int_of_arg h0
  obtain ⟨l, hl, _⟩ := wmoves_of_arg h1
  exact C22.turns_walk v1 l s W hl

set_option maxRecDepth 100000 in
theorem wheelTurns_lifted (os : Os) (started : os.Started) (H : Type) (enc : TypeId × Value → H) :
    ReturnsInHanded {} Try.checked os 5 .any (Rows.wheelTurnsSpec.pre6 enc Try.prog Try.f5 Rows.wheelTurnsRow.domain false) (Rows.wheelTurnsSpec.post enc Try.prog Try.f5 false true false false) :=
  law_lift (C := Try.checked) (tb := 4) [.int .i64, .slice 16 Wm.ty] (by kernel_rfl) started (by kernel_rfl) Try.func5 (by kernel_rfl) rfl (by kernel_rfl) rfl Try.underlying4
    (fun ds h => by match ds, h with | [_, _], _ => rfl)
    (ChangeSpec.witness6 (enc := enc) (C := Try.checked) false ⟨#[], #[.int .i64 0, .slice none 0 0], []⟩ 8 (by kernel_rfl) (by kernel_rfl) (by kernel_rfl) (by kernel_rfl))
    wheelTurns_walk
theorem wheelTurns_closed : joinedFacts Try.pinned.checked.prog 5 Try.f5 Rows.wheelTurnsSpec Rows.wheelTurnsRow = true := by
  unfold joinedFacts
  rw [io_enter, io_final, io_make]
  kernel_rfl
theorem wheelTurns_holds : Rows.WheelTurnsSaid :=
  OpenClaim.holds_of_wide 5 Try.f5 rfl rfl rfl rfl rfl rfl rfl ⟨rfl, rfl, rfl, rfl, rfl⟩ rfl rfl rfl rfl rfl (by kernel_rfl) Try.func5 wheelTurns_closed
    (of_decide_eq_true (by kernel_rfl)) (by unfold Func.isWrapper; first | (rw [if_pos (by decide +kernel)]; kernel_rfl) | (rw [if_neg (by decide +kernel)]; exact ⟨rfl, rfl⟩))
    (fun os started H enc _ => wheelTurns_lifted os started H enc)
#print axioms wheelTurns_holds
end Go.Proofs.Ythmopkaecbebpaa
