/- The law GraphFinds returns true: for every input, no condition. -/
import Derived.Test.YtahakgmfkplidaaX35
import Derived.Test.YtahakgmfkplidaaRows
import Derived.Test.YtahakgmfkplidaaIo
namespace Go.Proofs.Ytahakgmfkplidaa
open Go.RowKit Go.Peri
theorem graphFinds_walk (W : World) (args : Array Value) (h : Args W W.heap.size [.slice 40 Sv.ty, .str, .int .i64, .str] args.toList) : Calls Try.prog 4 args W fun e W' => e = .returned (.bool true) ∧ Below W.heap.size W W' := by
  obtain ⟨v0, v1, v2, v3, rfl, h0, h1, h2, h3⟩ := args_four h
  obtain ⟨l, hv, hl, hw⟩ := services_of_arg h0
  obtain ⟨nm, rfl, _⟩ := str_of_arg h1
  obtain ⟨n, rfl, _⟩ := int_of_arg h2
  obtain ⟨p, rfl, _⟩ := str_of_arg h3
  exact C35.finds_walk v0 l nm n p W hv hl hw

set_option maxRecDepth 100000 in
theorem graphFinds_lifted (os : Os) (started : os.Started) (H : Type) (enc : TypeId × Value → H) :
    ReturnsInHanded {} Try.checked os 4 .any (Rows.graphFindsSpec.pre6 enc Try.prog Try.f4 Rows.graphFindsRow.domain false) (Rows.graphFindsSpec.post enc Try.prog Try.f4 false true false false) :=
  law_lift (C := Try.checked) (tb := 4) [.slice 40 Sv.ty, .str, .int .i64, .str] (by kernel_rfl) started (by kernel_rfl) Try.func4 (by kernel_rfl) rfl (by kernel_rfl) rfl Try.underlying4
    (fun ds h => by match ds, h with | [_, _, _, _], _ => rfl)
    (ChangeSpec.witness6 (enc := enc) (C := Try.checked) false ⟨#[], #[.slice none 0 0, .string ⟨#[]⟩, .int .i64 0, .string ⟨#[]⟩], []⟩ 8 (by kernel_rfl) (by kernel_rfl) (by kernel_rfl) (by kernel_rfl))
    graphFinds_walk
theorem graphFinds_closed : joinedFacts Try.pinned.checked.prog 4 Try.f4 Rows.graphFindsSpec Rows.graphFindsRow = true := by
  unfold joinedFacts
  rw [io_enter, io_final, io_make]
  kernel_rfl
theorem graphFinds_holds : Rows.GraphFindsSaid :=
  OpenClaim.holds_of_wide 4 Try.f4 rfl rfl rfl rfl rfl rfl rfl ⟨rfl, rfl, rfl, rfl, rfl⟩ rfl rfl rfl rfl rfl (by kernel_rfl) Try.func4 graphFinds_closed
    (of_decide_eq_true (by kernel_rfl)) (by unfold Func.isWrapper; first | (rw [if_pos (by decide +kernel)]; kernel_rfl) | (rw [if_neg (by decide +kernel)]; exact ⟨rfl, rfl⟩))
    (fun os started H enc _ => graphFinds_lifted os started H enc)
#print axioms graphFinds_holds
end Go.Proofs.Ytahakgmfkplidaa
