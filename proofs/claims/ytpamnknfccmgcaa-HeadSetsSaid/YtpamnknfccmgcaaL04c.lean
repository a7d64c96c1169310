/- The law HeadSets returns true: for every input, no condition. -/
import Derived.Test.YtpamnknfccmgcaaV04
import Derived.Test.YtpamnknfccmgcaaU04
import Derived.Test.YtpamnknfccmgcaaRows
import Derived.Test.YtpamnknfccmgcaaIo
namespace Go.Proofs.Ytpamnknfccmgcaa
open Go.RowKit Go.Peri
theorem headSets_walk (W : World) (args : Array Value) (h : Args W W.heap.size [.slice 32 Hd.ty, .str, .str] args.toList) : Calls Try.prog 5 args W fun e W' => e = .returned (.bool true) ∧ Below W.heap.size W W' := by
  obtain ⟨v0, v1, v2, rfl, h0, h1, h2⟩ := args_three h
  obtain ⟨l, hl, hn, hw⟩ := heads_of_arg h0
  obtain ⟨s, rfl, hs⟩ := str_of_arg h1
  obtain ⟨u, rfl, hu⟩ := str_of_arg h2
  exact C04.sets_walk C04.known_any v0 l s u W hl hw (by omega)

set_option maxRecDepth 100000 in
theorem headSets_lifted (os : Os) (started : os.Started) (H : Type) (enc : TypeId × Value → H) :
    ReturnsInHanded {} Try.checked os 5 .any (Rows.headSetsSpec.pre6 enc Try.prog Try.f5 Rows.headSetsRow.domain false) (Rows.headSetsSpec.post enc Try.prog Try.f5 false true false false) :=
  law_lift (C := Try.checked) (tb := 4) [.slice 32 Hd.ty, .str, .str] (by kernel_rfl) started (by kernel_rfl) Try.func5 (by kernel_rfl) rfl (by kernel_rfl) rfl Try.underlying4
    (fun ds h => by match ds, h with | [_, _, _], _ => rfl)
    (ChangeSpec.witness6 (enc := enc) (C := Try.checked) false ⟨#[], #[.slice none 0 0, .string ⟨#[]⟩, .string ⟨#[]⟩], []⟩ 8 (by kernel_rfl) (by kernel_rfl) (by kernel_rfl) (by kernel_rfl))
    headSets_walk
theorem headSets_closed : joinedFacts Try.pinned.checked.prog 5 Try.f5 Rows.headSetsSpec Rows.headSetsRow = true := by
  unfold joinedFacts
  rw [io_enter, io_final, io_make]
  kernel_rfl
theorem headSets_holds : Rows.HeadSetsSaid :=
  OpenClaim.holds_of_wide 5 Try.f5 rfl rfl rfl rfl rfl rfl rfl ⟨rfl, rfl, rfl, rfl, rfl⟩ rfl rfl rfl rfl rfl (by kernel_rfl) Try.func5 headSets_closed
    (of_decide_eq_true (by kernel_rfl)) (by unfold Func.isWrapper; first | (rw [if_pos (by decide +kernel)]; kernel_rfl) | (rw [if_neg (by decide +kernel)]; exact ⟨rfl, rfl⟩))
    (fun os started H enc _ => headSets_lifted os started H enc)
#print axioms headSets_holds
end Go.Proofs.Ytpamnknfccmgcaa
