/- The law RingPlays returns true: for every input, no condition. -/
import Derived.Test.YtefaegoajjcfjaaN21
import Derived.Test.YtefaegoajjcfjaaA21
import Derived.Test.YtefaegoajjcfjaaRows
namespace Go.Proofs.Ytefaegoajjcfjaa
open Go.RowKit Go.Peri
theorem grid_of_arg {w : World} {B : Nat} {v : Value} (h : Arg w B (.slice 24 (.slice 16 .str)) v) : ∃ lls, C21.Grid B w v lls := by
  obtain ⟨vs, hv, _, hi⟩ := ones_of_arg (e := .slice 16 .str) rfl h
  have hi' : ∀ i, i < vs.length → ∃ ss : List ByteArray, Vals (· < B) w (vs.getD i undef) (C21.strs ss) := fun i hil => by
    obtain ⟨ss, h1, _⟩ := strs_of_rd (hi i hil)
    exact ⟨ss, h1⟩
  obtain ⟨F, hF⟩ := Deep.choose_lt hi'
  refine ⟨(List.range vs.length).map F, vs, hv, by simp, fun i hil => ?_⟩
  have hil' : i < vs.length := by simpa using hil
  have := hF i hil'
  simpa [List.getD, hil'] using this
theorem ringPlays_walk (W : World) (args : Array Value) (h : Args W W.heap.size [.int .i64, .slice 24 (.slice 16 .str)] args.toList) : Calls Try.prog 6 args W fun e W' => e = .returned (.bool true) ∧ Below W.heap.size W W' := by
  obtain ⟨v0, v1, rfl, h0, h1⟩ := args_two h
  obtain ⟨a0, rfl, _⟩ := int_of_arg h0
  obtain ⟨lls, hs⟩ := grid_of_arg h1
  exact C21.plays_walk a0 v1 lls W hs

set_option maxRecDepth 100000 in
theorem ringPlays_lifted (os : Os) (started : os.Started) (H : Type) (enc : TypeId × Value → H) :
    ReturnsInHanded {} Try.checked os 6 .any (Rows.ringPlaysSpec.pre6 enc Try.prog Try.f6 Rows.ringPlaysRow.domain false) (Rows.ringPlaysSpec.post enc Try.prog Try.f6 false true false false) :=
  law_lift (C := Try.checked) (tb := 4) [.int .i64, .slice 24 (.slice 16 .str)] (by kernel_rfl) started (by kernel_rfl) Try.func6 (by kernel_rfl) rfl (by kernel_rfl) rfl Try.underlying4
    (fun ds h => by match ds, h with | [_, _], _ => rfl)
    (ChangeSpec.witness6 (enc := enc) (C := Try.checked) false ⟨#[], #[.int .i64 0, .slice none 0 0], []⟩ 8 (by kernel_rfl) (by kernel_rfl) (by kernel_rfl) (by kernel_rfl))
    ringPlays_walk
theorem ringPlays_holds : Rows.RingPlaysSaid :=
  OpenClaim.holds_of_wide 6 Try.f6 rfl rfl rfl rfl rfl rfl rfl ⟨rfl, rfl, rfl, rfl, rfl⟩ rfl rfl rfl rfl rfl (by kernel_rfl) Try.func6 (by kernel_rfl)
    (of_decide_eq_true (by kernel_rfl)) (by unfold Func.isWrapper; first | (rw [if_pos (by decide +kernel)]; kernel_rfl) | (rw [if_neg (by decide +kernel)]; exact ⟨rfl, rfl⟩))
    (fun os started H enc _ => ringPlays_lifted os started H enc)
#print axioms ringPlays_holds
end Go.Proofs.Ytefaegoajjcfjaa
