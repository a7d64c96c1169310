/- The law CrcSums returns true: for every input, no condition. -/
import Derived.Test.YthmopkaecbebpaaK03
import Derived.Test.YthmopkaecbebpaaA24
import Derived.Test.YthmopkaecbebpaaRows
import Derived.Test.YthmopkaecbebpaaIo
namespace Go.Proofs.Ythmopkaecbebpaa
open Go.RowKit Go.Peri
theorem crcSums_walk (W : World) (args : Array Value) (h : Args W W.heap.size [.str] args.toList) : Calls Try.prog 13 args W fun e W' => e = .returned (.bool true) ∧ Below W.heap.size W W' := by
  obtain ⟨v0, rfl, h0⟩ := args_one h
  obtain ⟨s, rfl, hs⟩ := str_of_arg h0
  exact C03.sums_walk s W

set_option maxRecDepth 100000 in
theorem crcSums_lifted (os : Os) (started : os.Started) (H : Type) (enc : TypeId × Value → H) :
    ReturnsInHanded {} Try.checked os 13 .any (Rows.crcSumsSpec.pre6 enc Try.prog Try.f13 Rows.crcSumsRow.domain false) (Rows.crcSumsSpec.post enc Try.prog Try.f13 false true false false) :=
  law_lift (C := Try.checked) (tb := 4) [.str] (by kernel_rfl) started (by kernel_rfl) Try.func13 (by kernel_rfl) rfl (by kernel_rfl) rfl Try.underlying4
    (fun ds h => by match ds, h with | [_], _ => rfl)
    (ChangeSpec.witness6 (enc := enc) (C := Try.checked) false ⟨#[], #[.string ⟨#[]⟩], []⟩ 8 (by kernel_rfl) (by kernel_rfl) (by kernel_rfl) (by kernel_rfl))
    crcSums_walk
theorem crcSums_closed : joinedFacts Try.pinned.checked.prog 13 Try.f13 Rows.crcSumsSpec Rows.crcSumsRow = true := by
  unfold joinedFacts
  rw [io_enter, io_final, io_make]
  kernel_rfl
theorem crcSums_holds : Rows.CrcSumsSaid :=
  OpenClaim.holds_of_wide 13 Try.f13 rfl rfl rfl rfl rfl rfl rfl ⟨rfl, rfl, rfl, rfl, rfl⟩ rfl rfl rfl rfl rfl (by kernel_rfl) Try.func13 crcSums_closed
    (of_decide_eq_true (by kernel_rfl)) (by unfold Func.isWrapper; first | (rw [if_pos (by decide +kernel)]; kernel_rfl) | (rw [if_neg (by decide +kernel)]; exact ⟨rfl, rfl⟩))
    (fun os started H enc _ => crcSums_lifted os started H enc)
#print axioms crcSums_holds
end Go.Proofs.Ythmopkaecbebpaa
