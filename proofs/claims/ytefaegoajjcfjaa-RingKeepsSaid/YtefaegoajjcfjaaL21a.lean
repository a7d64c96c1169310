/- The law RingKeeps returns true: for every input, no condition. -/
import Derived.Test.YtefaegoajjcfjaaK21
import Derived.Test.YtefaegoajjcfjaaA21
import Derived.Test.YtefaegoajjcfjaaRows
namespace Go.Proofs.Ytefaegoajjcfjaa
open Go.RowKit Go.Peri
theorem ringKeeps_walk (W : World) (args : Array Value) (h : Args W W.heap.size [.int .i64, .slice 16 .str] args.toList) : Calls Try.prog 7 args W fun e W' => e = .returned (.bool true) ∧ Below W.heap.size W W' := by
  obtain ⟨v0, v1, rfl, h0, h1⟩ := args_two h
  obtain ⟨a0, rfl, _⟩ := int_of_arg h0
  obtain ⟨ss, hs, _⟩ := strs_of_arg h1
  exact C21.keeps_walk a0 v1 ss W hs

set_option maxRecDepth 100000 in
theorem ringKeeps_lifted (os : Os) (started : os.Started) (H : Type) (enc : TypeId × Value → H) :
    ReturnsInHanded {} Try.checked os 7 .any (Rows.ringKeepsSpec.pre6 enc Try.prog Try.f7 Rows.ringKeepsRow.domain false) (Rows.ringKeepsSpec.post enc Try.prog Try.f7 false true false false) :=
  law_lift (C := Try.checked) (tb := 4) [.int .i64, .slice 16 .str] (by kernel_rfl) started (by kernel_rfl) Try.func7 (by kernel_rfl) rfl (by kernel_rfl) rfl Try.underlying4
    (fun ds h => by match ds, h with | [_, _], _ => rfl)
    (ChangeSpec.witness6 (enc := enc) (C := Try.checked) false ⟨#[], #[.int .i64 0, .slice none 0 0], []⟩ 8 (by kernel_rfl) (by kernel_rfl) (by kernel_rfl) (by kernel_rfl))
    ringKeeps_walk
theorem ringKeeps_holds : Rows.RingKeepsSaid :=
  OpenClaim.holds_of_wide 7 Try.f7 rfl rfl rfl rfl rfl rfl rfl ⟨rfl, rfl, rfl, rfl, rfl⟩ rfl rfl rfl rfl rfl (by kernel_rfl) Try.func7 (by kernel_rfl)
    (of_decide_eq_true (by kernel_rfl)) (by unfold Func.isWrapper; first | (rw [if_pos (by decide +kernel)]; kernel_rfl) | (rw [if_neg (by decide +kernel)]; exact ⟨rfl, rfl⟩))
    (fun os started H enc _ => ringKeeps_lifted os started H enc)
#print axioms ringKeeps_holds
end Go.Proofs.Ytefaegoajjcfjaa
