/- The law HeadLists returns true: for every input, no condition. -/
import Derived.Test.YtpamnknfccmgcaaV04
import Derived.Test.YtpamnknfccmgcaaU04
import Derived.Test.YtpamnknfccmgcaaA21
import Derived.Test.YtpamnknfccmgcaaRows
import Derived.Test.YtpamnknfccmgcaaIo
namespace Go.Proofs.Ytpamnknfccmgcaa
open Go.RowKit Go.Peri
theorem headLists_walk (W : World) (args : Array Value) (h : Args W W.heap.size [.slice 32 Hd.ty, .str, .str, .slice 16 .str] args.toList) : Calls Try.prog 4 args W fun e W' => e = .returned (.bool true) ∧ Below W.heap.size W W' := by
  obtain ⟨v0, v1, v2, v3, rfl, h0, h1, h2, h3⟩ := args_four h
  obtain ⟨l, hl, hn, hw⟩ := heads_of_arg h0
  obtain ⟨s, rfl, hs⟩ := str_of_arg h1
  obtain ⟨u, rfl, hu⟩ := str_of_arg h2
  obtain ⟨ss, hv, hn2, _⟩ := strs_of_arg h3
  exact C04.lists_walk C04.known_any v0 v3 l s u ss W hl hw (by omega) (rows_of_vals hv) (by omega)

set_option maxRecDepth 100000 in
theorem headLists_lifted (os : Os) (started : os.Started) (H : Type) (enc : TypeId × Value → H) :
    ReturnsInHanded {} Try.checked os 4 .any (Rows.headListsSpec.pre6 enc Try.prog Try.f4 Rows.headListsRow.domain false) (Rows.headListsSpec.post enc Try.prog Try.f4 false true false false) :=
  law_lift (C := Try.checked) (tb := 4) [.slice 32 Hd.ty, .str, .str, .slice 16 .str] (by kernel_rfl) started (by kernel_rfl) Try.func4 (by kernel_rfl) rfl (by kernel_rfl) rfl Try.underlying4
    (fun ds h => by match ds, h with | [_, _, _, _], _ => rfl)
    (ChangeSpec.witness6 (enc := enc) (C := Try.checked) false ⟨#[], #[.slice none 0 0, .string ⟨#[]⟩, .string ⟨#[]⟩, .slice none 0 0], []⟩ 8 (by kernel_rfl) (by kernel_rfl) (by kernel_rfl) (by kernel_rfl))
    headLists_walk
theorem headLists_closed : joinedFacts Try.pinned.checked.prog 4 Try.f4 Rows.headListsSpec Rows.headListsRow = true := by
  unfold joinedFacts
  rw [io_enter, io_final, io_make]
  kernel_rfl
theorem headLists_holds : Rows.HeadListsSaid :=
  OpenClaim.holds_of_wide 4 Try.f4 rfl rfl rfl rfl rfl rfl rfl ⟨rfl, rfl, rfl, rfl, rfl⟩ rfl rfl rfl rfl rfl (by kernel_rfl) Try.func4 headLists_closed
    (of_decide_eq_true (by kernel_rfl)) (by unfold Func.isWrapper; first | (rw [if_pos (by decide +kernel)]; kernel_rfl) | (rw [if_neg (by decide +kernel)]; exact ⟨rfl, rfl⟩))
    (fun os started H enc _ => headLists_lifted os started H enc)
#print axioms headLists_holds
end Go.Proofs.Ytpamnknfccmgcaa
