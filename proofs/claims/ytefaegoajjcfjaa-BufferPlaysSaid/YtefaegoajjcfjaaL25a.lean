/- The law BufferPlays returns true: for every input, no condition. -/
import Derived.Test.YtefaegoajjcfjaaT25
import Derived.Test.YtefaegoajjcfjaaMv
import Derived.Test.YtefaegoajjcfjaaRows
namespace Go.Proofs.Ytefaegoajjcfjaa
open Go.RowKit Go.Peri
theorem bufferPlays_walk (W : World) (args : Array Value) (h : Args W W.heap.size [.int .i64, .slice 104 Mv.ty] args.toList) : Calls Try.prog 12 args W fun e W' => e = .returned (.bool true) ∧ Below W.heap.size W W' := by
  obtain ⟨v0, v1, rfl, h0, h1⟩ := args_two h
  obtain ⟨room, rfl, _⟩ := int64_of_arg h0
  obtain ⟨l, hl, _⟩ := moves_of_arg h1
  by_cases hg : l.length ≤ 300
  · exact C25.plays_good room v1 l W hl hg
  · exact C25.plays_bad room v1 l W hl (by omega)

set_option maxRecDepth 100000 in
theorem bufferPlays_lifted (os : Os) (started : os.Started) (H : Type) (enc : TypeId × Value → H) :
    ReturnsInHanded {} Try.checked os 12 .any (Rows.bufferPlaysSpec.pre6 enc Try.prog Try.f12 Rows.bufferPlaysRow.domain false) (Rows.bufferPlaysSpec.post enc Try.prog Try.f12 false true false false) :=
  law_lift (C := Try.checked) (tb := 4) [.int .i64, .slice 104 Mv.ty] (by kernel_rfl) started (by kernel_rfl) Try.func12 (by kernel_rfl) rfl (by kernel_rfl) rfl Try.underlying4
    (fun ds h => by match ds, h with | [_, _], _ => rfl)
    (ChangeSpec.witness6 (enc := enc) (C := Try.checked) false ⟨#[], #[.int .i64 0, .slice none 0 0], []⟩ 8 (by kernel_rfl) (by kernel_rfl) (by kernel_rfl) (by kernel_rfl))
    bufferPlays_walk
theorem bufferPlays_holds : Rows.BufferPlaysSaid :=
  OpenClaim.holds_of_wide 12 Try.f12 rfl rfl rfl rfl rfl rfl rfl ⟨rfl, rfl, rfl, rfl, rfl⟩ rfl rfl rfl rfl rfl (by kernel_rfl) Try.func12 (by kernel_rfl)
    (of_decide_eq_true (by kernel_rfl)) (by unfold Func.isWrapper; first | (rw [if_pos (by decide +kernel)]; kernel_rfl) | (rw [if_neg (by decide +kernel)]; exact ⟨rfl, rfl⟩))
    (fun os started H enc _ => bufferPlays_lifted os started H enc)
#print axioms bufferPlays_holds
end Go.Proofs.Ytefaegoajjcfjaa
