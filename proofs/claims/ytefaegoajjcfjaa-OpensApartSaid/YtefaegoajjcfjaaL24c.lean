/- The law OpensApart returns true: for every input, no condition. -/
import Derived.Test.YtefaegoajjcfjaaN24
import Derived.Test.YtefaegoajjcfjaaA24
import Derived.Test.YtefaegoajjcfjaaRows
namespace Go.Proofs.Ytefaegoajjcfjaa
open Go.RowKit Go.Peri
theorem opensApart_walk (W : World) (args : Array Value) (h : Args W W.heap.size [.slice 104 Opn.ty, .cons (.int .i64) (.cons (.int .i64) .nil), .cons (.int .i64) (.cons (.int .i64) (.cons (.int .i64) .nil))] args.toList) : Calls Try.prog 17 args W fun e W' => e = .returned (.bool true) ∧ Below W.heap.size W W' := by
  obtain ⟨v0, v1, v2, rfl, h0, h1, h2⟩ := args_three h
  obtain ⟨l, hl, hn⟩ := opens_of_arg h0
  obtain ⟨m, n, rfl, _⟩ := i64s_two h1
  obtain ⟨x, y, z, rfl, _⟩ := i64s_three h2
  exact C24.apart_walk v0 l m n x y z W hl (by omega)

set_option maxRecDepth 100000 in
theorem opensApart_lifted (os : Os) (started : os.Started) (H : Type) (enc : TypeId × Value → H) :
    ReturnsInHanded {} Try.checked os 17 .any (Rows.opensApartSpec.pre6 enc Try.prog Try.f17 Rows.opensApartRow.domain false) (Rows.opensApartSpec.post enc Try.prog Try.f17 false true false false) :=
  law_lift (C := Try.checked) (tb := 4) [.slice 104 Opn.ty, .cons (.int .i64) (.cons (.int .i64) .nil), .cons (.int .i64) (.cons (.int .i64) (.cons (.int .i64) .nil))] (by kernel_rfl) started (by kernel_rfl) Try.func17 (by kernel_rfl) rfl (by kernel_rfl) rfl Try.underlying4
    (fun ds h => by match ds, h with | [_, _, _], _ => rfl)
    (ChangeSpec.witness6 (enc := enc) (C := Try.checked) false ⟨#[], #[.slice none 0 0, .agg #[.int .i64 0, .int .i64 0], .agg #[.int .i64 0, .int .i64 0, .int .i64 0]], []⟩ 8 (by kernel_rfl) (by kernel_rfl) (by kernel_rfl) (by kernel_rfl))
    opensApart_walk
theorem opensApart_holds : Rows.OpensApartSaid :=
  OpenClaim.holds_of_wide 17 Try.f17 rfl rfl rfl rfl rfl rfl rfl ⟨rfl, rfl, rfl, rfl, rfl⟩ rfl rfl rfl rfl rfl (by kernel_rfl) Try.func17 (by kernel_rfl)
    (of_decide_eq_true (by kernel_rfl)) (by unfold Func.isWrapper; first | (rw [if_pos (by decide +kernel)]; kernel_rfl) | (rw [if_neg (by decide +kernel)]; exact ⟨rfl, rfl⟩))
    (fun os started H enc _ => opensApart_lifted os started H enc)
#print axioms opensApart_holds
end Go.Proofs.Ytefaegoajjcfjaa
