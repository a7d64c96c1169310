/- The law GraphMore returns true: for every input, no condition. -/
import Derived.Test.YtahakgmfkplidaaY35
import Derived.Test.YtahakgmfkplidaaRows
import Derived.Test.YtahakgmfkplidaaIo
namespace Go.Proofs.Ytahakgmfkplidaa
open Go.RowKit Go.Peri
theorem graphMore_walk (W : World) (args : Array Value) (h : Args W W.heap.size [.slice 40 Sv.ty, Sv.ty, .str] args.toList) : Calls Try.prog 5 args W fun e W' => e = .returned (.bool true) ∧ Below W.heap.size W W' := by
  obtain ⟨v0, v1, v2, rfl, h0, h1, h2⟩ := args_three h
  obtain ⟨l, hv, hl, hw⟩ := services_of_arg h0
  obtain ⟨m, rfl, hm⟩ := service_of_arg h1
  obtain ⟨p, rfl, _⟩ := str_of_arg h2
  exact C35.more_walk v0 l m p W hv hl hw hm

set_option maxRecDepth 100000 in
theorem graphMore_lifted (os : Os) (started : os.Started) (H : Type) (enc : TypeId × Value → H) :
    ReturnsInHanded {} Try.checked os 5 .any (Rows.graphMoreSpec.pre6 enc Try.prog Try.f5 Rows.graphMoreRow.domain false) (Rows.graphMoreSpec.post enc Try.prog Try.f5 false true false false) :=
  law_lift (C := Try.checked) (tb := 4) [.slice 40 Sv.ty, Sv.ty, .str] (by kernel_rfl) started (by kernel_rfl) Try.func5 (by kernel_rfl) rfl (by kernel_rfl) rfl Try.underlying4
    (fun ds h => by match ds, h with | [_, _, _], _ => rfl)
    (ChangeSpec.witness6 (enc := enc) (C := Try.checked) false ⟨#[], #[.slice none 0 0, .agg #[.string ⟨#[]⟩, .slice none 0 0], .string ⟨#[]⟩], []⟩ 8 (by kernel_rfl) (by kernel_rfl) (by kernel_rfl) (by kernel_rfl))
    graphMore_walk
theorem graphMore_closed : joinedFacts Try.pinned.checked.prog 5 Try.f5 Rows.graphMoreSpec Rows.graphMoreRow = true := by
  unfold joinedFacts
  rw [io_enter, io_final, io_make]
  kernel_rfl
theorem graphMore_holds : Rows.GraphMoreSaid :=
  OpenClaim.holds_of_wide 5 Try.f5 rfl rfl rfl rfl rfl rfl rfl ⟨rfl, rfl, rfl, rfl, rfl⟩ rfl rfl rfl rfl rfl (by kernel_rfl) Try.func5 graphMore_closed
    (of_decide_eq_true (by kernel_rfl)) (by unfold Func.isWrapper; first | (rw [if_pos (by decide +kernel)]; kernel_rfl) | (rw [if_neg (by decide +kernel)]; exact ⟨rfl, rfl⟩))
    (fun os started H enc _ => graphMore_lifted os started H enc)
#print axioms graphMore_holds
end Go.Proofs.Ytahakgmfkplidaa
