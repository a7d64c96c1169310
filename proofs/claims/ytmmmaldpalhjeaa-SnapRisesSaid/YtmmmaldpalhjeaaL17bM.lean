/- The law SnapRises returns true: for every input, no condition. -/
import Derived.Test.YtmmmaldpalhjeaaMg20
import Derived.Test.YtmmmaldpalhjeaaRows
import Derived.Test.YtmmmaldpalhjeaaMg14
namespace Go.Proofs.Ytmmmaldpalhjeaa
open Go.RowKit Go.Peri
theorem snapRises_walk (W : World) (args : Array Value) (h : Args W W.heap.size [.slice 16 .str, .slice 48 tabTy] args.toList) : Calls Try.prog 7 args W fun e W' => e = .returned (.bool true) ∧ Below W.heap.size W W' := by
  obtain ⟨v0, v1, rfl, h0, h1⟩ := args_two h
  obtain ⟨ns, hn, hl, _⟩ := names_of_arg h0
  obtain ⟨ts, ht, htl, hw⟩ := tabs_of_arg h1
  exact C17.rises_walk C17.known_any ns v0 ts v1 W hn hl ht htl hw

set_option maxRecDepth 100000 in
theorem snapRises_lifted (os : Os) (started : os.Started) (H : Type) (enc : TypeId × Value → H) :
    ReturnsInHanded {} Try.checked os 7 .any (Rows.snapRisesSpec.pre6 enc Try.prog Try.f7 Rows.snapRisesRow.domain false) (Rows.snapRisesSpec.post enc Try.prog Try.f7 false true false false) :=
  law_lift (C := Try.checked) (tb := 4) [.slice 16 .str, .slice 48 tabTy] (by kernel_rfl) started (by kernel_rfl) Try.func7 (by kernel_rfl) rfl (by kernel_rfl) rfl Try.underlying4
    (fun ds h => by match ds, h with | [_, _], _ => rfl)
    (ChangeSpec.witness6 (enc := enc) (C := Try.checked) false ⟨#[], #[.slice none 0 0, .slice none 0 0], []⟩ 8 (by kernel_rfl) (by kernel_rfl) (by kernel_rfl) (by kernel_rfl))
    snapRises_walk
theorem snapRises_closed : joinedFacts Try.pinned.checked.prog 7 Try.f7 Rows.snapRisesSpec Rows.snapRisesRow = true := by
  unfold joinedFacts
  rw [io_enter, io_final, io_make]
  kernel_rfl
theorem snapRises_holds : Rows.SnapRisesSaid :=
  OpenClaim.holds_of_wide 7 Try.f7 rfl rfl rfl rfl rfl rfl rfl ⟨rfl, rfl, rfl, rfl, rfl⟩ rfl rfl rfl rfl rfl (by kernel_rfl) Try.func7 snapRises_closed
    (of_decide_eq_true (by kernel_rfl)) (by unfold Func.isWrapper; first | (rw [if_pos (by decide +kernel)]; kernel_rfl) | (rw [if_neg (by decide +kernel)]; exact ⟨rfl, rfl⟩))
    (fun os started H enc _ => snapRises_lifted os started H enc)
#print axioms snapRises_holds
end Go.Proofs.Ytmmmaldpalhjeaa
