/- The law NetNumbers returns true: for every input, no condition. -/
import Derived.Test.YthmopkaecbebpaaK28
import Derived.Test.YthmopkaecbebpaaRows
import Derived.Test.YthmopkaecbebpaaIo
namespace Go.Proofs.Ythmopkaecbebpaa
open Go.RowKit Go.Peri
theorem netNumbers_walk (W : World) (args : Array Value) (h : Args W W.heap.size [.slice 48 Nm.ty] args.toList) : Calls Try.prog 7 args W fun e W' => e = .returned (.bool true) ∧ Below W.heap.size W W' := by
  obtain ⟨v0, rfl, h0⟩ := args_one h
  obtain ⟨l, hl, hw⟩ := nmoves_of_arg h0
  by_cases h3 : l.length ≤ 800
  · exact C28.numbers_good v0 l W hl hw h3
  · exact C28.numbers_bad v0 l W hl (by omega)

set_option maxRecDepth 100000 in
theorem netNumbers_lifted (os : Os) (started : os.Started) (H : Type) (enc : TypeId × Value → H) :
    ReturnsInHanded {} Try.checked os 7 .any (Rows.netNumbersSpec.pre6 enc Try.prog Try.f7 Rows.netNumbersRow.domain false) (Rows.netNumbersSpec.post enc Try.prog Try.f7 false true false false) :=
  law_lift (C := Try.checked) (tb := 4) [.slice 48 Nm.ty] (by kernel_rfl) started (by kernel_rfl) Try.func7 (by kernel_rfl) rfl (by kernel_rfl) rfl Try.underlying4
    (fun ds h => by match ds, h with | [_], _ => rfl)
    (ChangeSpec.witness6 (enc := enc) (C := Try.checked) false ⟨#[], #[.slice none 0 0], []⟩ 8 (by kernel_rfl) (by kernel_rfl) (by kernel_rfl) (by kernel_rfl))
    netNumbers_walk
theorem netNumbers_closed : joinedFacts Try.pinned.checked.prog 7 Try.f7 Rows.netNumbersSpec Rows.netNumbersRow = true := by
  unfold joinedFacts
  rw [io_enter, io_final, io_make]
  kernel_rfl
theorem netNumbers_holds : Rows.NetNumbersSaid :=
  OpenClaim.holds_of_wide 7 Try.f7 rfl rfl rfl rfl rfl rfl rfl ⟨rfl, rfl, rfl, rfl, rfl⟩ rfl rfl rfl rfl rfl (by kernel_rfl) Try.func7 netNumbers_closed
    (of_decide_eq_true (by kernel_rfl)) (by unfold Func.isWrapper; first | (rw [if_pos (by decide +kernel)]; kernel_rfl) | (rw [if_neg (by decide +kernel)]; exact ⟨rfl, rfl⟩))
    (fun os started H enc _ => netNumbers_lifted os started H enc)
#print axioms netNumbers_holds
end Go.Proofs.Ythmopkaecbebpaa
