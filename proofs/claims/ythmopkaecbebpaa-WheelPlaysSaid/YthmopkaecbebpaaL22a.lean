/- The law WheelPlays returns true: for every input, no condition. -/
import Derived.Test.YthmopkaecbebpaaT22
import Derived.Test.YthmopkaecbebpaaRows
import Derived.Test.YthmopkaecbebpaaIo
namespace Go.Proofs.Ythmopkaecbebpaa
open Go.RowKit Go.Peri
theorem wheelPlays_walk (W : World) (args : Array Value) (h : Args W W.heap.size [.slice 16 Wm.ty] args.toList) : Calls Try.prog 3 args W fun e W' => e = .returned (.bool true) ∧ Below W.heap.size W W' := by
  obtain ⟨v0, rfl, h0⟩ := args_one h
  obtain ⟨l, hl, _⟩ := wmoves_of_arg h0
  by_cases h3 : l.length ≤ 300
  · exact C22.plays_good v0 l W hl h3
  · exact C22.plays_bad v0 l W hl (by omega)

set_option maxRecDepth 100000 in
theorem wheelPlays_lifted (os : Os) (started : os.Started) (H : Type) (enc : TypeId × Value → H) :
    ReturnsInHanded {} Try.checked os 3 .any (Rows.wheelPlaysSpec.pre6 enc Try.prog Try.f3 Rows.wheelPlaysRow.domain false) (Rows.wheelPlaysSpec.post enc Try.prog Try.f3 false true false false) :=
  law_lift (C := Try.checked) (tb := 4) [.slice 16 Wm.ty] (by kernel_rfl) started (by kernel_rfl) Try.func3 (by kernel_rfl) rfl (by kernel_rfl) rfl Try.underlying4
    (fun ds h => by match ds, h with | [_], _ => rfl)
    (ChangeSpec.witness6 (enc := enc) (C := Try.checked) false ⟨#[], #[.slice none 0 0], []⟩ 8 (by kernel_rfl) (by kernel_rfl) (by kernel_rfl) (by kernel_rfl))
    wheelPlays_walk
theorem wheelPlays_closed : joinedFacts Try.pinned.checked.prog 3 Try.f3 Rows.wheelPlaysSpec Rows.wheelPlaysRow = true := by
  unfold joinedFacts
  rw [io_enter, io_final, io_make]
  kernel_rfl
theorem wheelPlays_holds : Rows.WheelPlaysSaid :=
  OpenClaim.holds_of_wide 3 Try.f3 rfl rfl rfl rfl rfl rfl rfl ⟨rfl, rfl, rfl, rfl, rfl⟩ rfl rfl rfl rfl rfl (by kernel_rfl) Try.func3 wheelPlays_closed
    (of_decide_eq_true (by kernel_rfl)) (by unfold Func.isWrapper; first | (rw [if_pos (by decide +kernel)]; kernel_rfl) | (rw [if_neg (by decide +kernel)]; exact ⟨rfl, rfl⟩))
    (fun os started H enc _ => wheelPlays_lifted os started H enc)
#print axioms wheelPlays_holds
end Go.Proofs.Ythmopkaecbebpaa
