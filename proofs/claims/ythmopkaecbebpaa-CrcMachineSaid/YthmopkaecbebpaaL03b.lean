/- The law CrcMachine returns true: for every input, no condition. -/
import Derived.Test.YthmopkaecbebpaaM03
import Derived.Test.YthmopkaecbebpaaA24
import Derived.Test.YthmopkaecbebpaaRows
import Derived.Test.YthmopkaecbebpaaIo
namespace Go.Proofs.Ythmopkaecbebpaa
open Go.RowKit Go.Peri
theorem crcMachine_walk (W : World) (args : Array Value) (h : Args W W.heap.size [.slice 24 (.slice 16 .str)] args.toList) : Calls Try.prog 14 args W fun e W' => e = .returned (.bool true) ∧ Below W.heap.size W W' := by
  obtain ⟨v0, rfl, h0⟩ := args_one h
  obtain ⟨l, hl, hw⟩ := strss_of_arg h0
  exact C03.machine_walk v0 l W hl hw

set_option maxRecDepth 100000 in
theorem crcMachine_lifted (os : Os) (started : os.Started) (H : Type) (enc : TypeId × Value → H) :
    ReturnsInHanded {} Try.checked os 14 .any (Rows.crcMachineSpec.pre6 enc Try.prog Try.f14 Rows.crcMachineRow.domain false) (Rows.crcMachineSpec.post enc Try.prog Try.f14 false true false false) :=
  law_lift (C := Try.checked) (tb := 4) [.slice 24 (.slice 16 .str)] (by kernel_rfl) started (by kernel_rfl) Try.func14 (by kernel_rfl) rfl (by kernel_rfl) rfl Try.underlying4
    (fun ds h => by match ds, h with | [_], _ => rfl)
    (ChangeSpec.witness6 (enc := enc) (C := Try.checked) false ⟨#[], #[.slice none 0 0], []⟩ 8 (by kernel_rfl) (by kernel_rfl) (by kernel_rfl) (by kernel_rfl))
    crcMachine_walk
theorem crcMachine_closed : joinedFacts Try.pinned.checked.prog 14 Try.f14 Rows.crcMachineSpec Rows.crcMachineRow = true := by
  unfold joinedFacts
  rw [io_enter, io_final, io_make]
  kernel_rfl
theorem crcMachine_holds : Rows.CrcMachineSaid :=
  OpenClaim.holds_of_wide 14 Try.f14 rfl rfl rfl rfl rfl rfl rfl ⟨rfl, rfl, rfl, rfl, rfl⟩ rfl rfl rfl rfl rfl (by kernel_rfl) Try.func14 crcMachine_closed
    (of_decide_eq_true (by kernel_rfl)) (by unfold Func.isWrapper; first | (rw [if_pos (by decide +kernel)]; kernel_rfl) | (rw [if_neg (by decide +kernel)]; exact ⟨rfl, rfl⟩))
    (fun os started H enc _ => crcMachine_lifted os started H enc)
#print axioms crcMachine_holds
end Go.Proofs.Ythmopkaecbebpaa
