/- The law CrcTells returns true: for every input, no condition. -/
import Derived.Test.YthmopkaecbebpaaN03
import Derived.Test.YthmopkaecbebpaaA24
import Derived.Test.YthmopkaecbebpaaRows
import Derived.Test.YthmopkaecbebpaaIo
namespace Go.Proofs.Ythmopkaecbebpaa
open Go.RowKit Go.Peri
theorem crcTells_walk (W : World) (args : Array Value) (h : Args W W.heap.size [.str, .int .i64, .int .u8] args.toList) : Calls Try.prog 15 args W fun e W' => e = .returned (.bool true) ∧ Below W.heap.size W W' := by
  obtain ⟨v0, v1, v2, rfl, h0, h1, h2⟩ := args_three h
  obtain ⟨s, rfl, hs⟩ := str_of_arg h0
  obtain ⟨at_, rfl, ha⟩ := int64_of_arg h1
  obtain ⟨b, rfl, hb⟩ := int_of_arg h2
  have hb' : IntKind.u8.min ≤ b ∧ b ≤ IntKind.u8.max := by simpa [Lit.wf] using hb
  exact C03.tells_walk s at_ b W ha hb'

set_option maxRecDepth 100000 in
theorem crcTells_lifted (os : Os) (started : os.Started) (H : Type) (enc : TypeId × Value → H) :
    ReturnsInHanded {} Try.checked os 15 .any (Rows.crcTellsSpec.pre6 enc Try.prog Try.f15 Rows.crcTellsRow.domain false) (Rows.crcTellsSpec.post enc Try.prog Try.f15 false true false false) :=
  law_lift (C := Try.checked) (tb := 4) [.str, .int .i64, .int .u8] (by kernel_rfl) started (by kernel_rfl) Try.func15 (by kernel_rfl) rfl (by kernel_rfl) rfl Try.underlying4
    (fun ds h => by match ds, h with | [_, _, _], _ => rfl)
    (ChangeSpec.witness6 (enc := enc) (C := Try.checked) false ⟨#[], #[.string ⟨#[]⟩, .int .i64 0, .int .u8 0], []⟩ 8 (by kernel_rfl) (by kernel_rfl) (by kernel_rfl) (by kernel_rfl))
    crcTells_walk
theorem crcTells_closed : joinedFacts Try.pinned.checked.prog 15 Try.f15 Rows.crcTellsSpec Rows.crcTellsRow = true := by
  unfold joinedFacts
  rw [io_enter, io_final, io_make]
  kernel_rfl
theorem crcTells_holds : Rows.CrcTellsSaid :=
  OpenClaim.holds_of_wide 15 Try.f15 rfl rfl rfl rfl rfl rfl rfl ⟨rfl, rfl, rfl, rfl, rfl⟩ rfl rfl rfl rfl rfl (by kernel_rfl) Try.func15 crcTells_closed
    (of_decide_eq_true (by kernel_rfl)) (by unfold Func.isWrapper; first | (rw [if_pos (by decide +kernel)]; kernel_rfl) | (rw [if_neg (by decide +kernel)]; exact ⟨rfl, rfl⟩))
    (fun os started H enc _ => crcTells_lifted os started H enc)
#print axioms crcTells_holds
end Go.Proofs.Ythmopkaecbebpaa
