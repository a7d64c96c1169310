/- The law HeadMay returns true: for every input, no condition. -/
import Derived.Test.YtpamnknfccmgcaaV04
import Derived.Test.YtpamnknfccmgcaaU04
import Derived.Test.YtpamnknfccmgcaaRows
import Derived.Test.YtpamnknfccmgcaaIo
namespace Go.Proofs.Ytpamnknfccmgcaa
open Go.RowKit Go.Peri
theorem headMay_walk (W : World) (args : Array Value) (h : Args W W.heap.size [.slice 32 Hd.ty, .str] args.toList) : Calls Try.prog 3 args W fun e W' => e = .returned (.bool true) ∧ Below W.heap.size W W' := by
  obtain ⟨v0, v1, rfl, h0, h1⟩ := args_two h
  obtain ⟨l, hl, hn, hw⟩ := heads_of_arg h0
  obtain ⟨s, rfl, hs⟩ := str_of_arg h1
  exact C04.may_walk C04.known_any v0 l s W hl hw (by omega) hs

set_option maxRecDepth 100000 in
theorem headMay_lifted (os : Os) (started : os.Started) (H : Type) (enc : TypeId × Value → H) :
    ReturnsInHanded {} Try.checked os 3 .any (Rows.headMaySpec.pre6 enc Try.prog Try.f3 Rows.headMayRow.domain false) (Rows.headMaySpec.post enc Try.prog Try.f3 false true false false) :=
  law_lift (C := Try.checked) (tb := 4) [.slice 32 Hd.ty, .str] (by kernel_rfl) started (by kernel_rfl) Try.func3 (by kernel_rfl) rfl (by kernel_rfl) rfl Try.underlying4
    (fun ds h => by match ds, h with | [_, _], _ => rfl)
    (ChangeSpec.witness6 (enc := enc) (C := Try.checked) false ⟨#[], #[.slice none 0 0, .string ⟨#[]⟩], []⟩ 8 (by kernel_rfl) (by kernel_rfl) (by kernel_rfl) (by kernel_rfl))
    headMay_walk
theorem headMay_closed : joinedFacts Try.pinned.checked.prog 3 Try.f3 Rows.headMaySpec Rows.headMayRow = true := by
  unfold joinedFacts
  rw [io_enter, io_final, io_make]
  kernel_rfl
theorem headMay_holds : Rows.HeadMaySaid :=
  OpenClaim.holds_of_wide 3 Try.f3 rfl rfl rfl rfl rfl rfl rfl ⟨rfl, rfl, rfl, rfl, rfl⟩ rfl rfl rfl rfl rfl (by kernel_rfl) Try.func3 headMay_closed
    (of_decide_eq_true (by kernel_rfl)) (by unfold Func.isWrapper; first | (rw [if_pos (by decide +kernel)]; kernel_rfl) | (rw [if_neg (by decide +kernel)]; exact ⟨rfl, rfl⟩))
    (fun os started H enc _ => headMay_lifted os started H enc)
#print axioms headMay_holds
end Go.Proofs.Ytpamnknfccmgcaa
