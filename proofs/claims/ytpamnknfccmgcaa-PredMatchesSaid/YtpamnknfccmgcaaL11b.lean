/- The law PredMatches returns true: for every input, no condition. -/
import Derived.Test.YtpamnknfccmgcaaZ11b
import Derived.Test.YtpamnknfccmgcaaRows
import Derived.Test.YtpamnknfccmgcaaIo
namespace Go.Proofs.Ytpamnknfccmgcaa
open Go.RowKit Go.Peri
theorem predMatches_walk (W : World) (args : Array Value) (h : Args W W.heap.size [Prd.ty, .slice 40 Prd.ty, reqTy] args.toList) : Calls Try.prog 10 args W fun e W' => e = .returned (.bool true) ∧ Below W.heap.size W W' := by
  obtain ⟨v0, v1, v2, rfl, h0, h1, h2⟩ := args_three h
  obtain ⟨x, rfl, hx⟩ := pred_of_arg h0
  obtain ⟨l, hl, hn, hw⟩ := preds_of_arg h1
  obtain ⟨m, hh, p, b, hs, a, cap, rfl, hq⟩ := req_of_arg h2
  exact C11.matches_walk C11.known_any v1 l x.kind x.name x.value m hh p b hs a cap W hx.name hx.value hl hn hw hq

set_option maxRecDepth 100000 in
theorem predMatches_lifted (os : Os) (started : os.Started) (H : Type) (enc : TypeId × Value → H) :
    ReturnsInHanded {} Try.checked os 10 .any (Rows.predMatchesSpec.pre6 enc Try.prog Try.f10 Rows.predMatchesRow.domain false) (Rows.predMatchesSpec.post enc Try.prog Try.f10 false true false false) :=
  law_lift (C := Try.checked) (tb := 4) [Prd.ty, .slice 40 Prd.ty, reqTy] (by kernel_rfl) started (by kernel_rfl) Try.func10 (by kernel_rfl) rfl (by kernel_rfl) rfl Try.underlying4
    (fun ds h => by match ds, h with | [_, _, _], _ => rfl)
    (ChangeSpec.witness6 (enc := enc) (C := Try.checked) false ⟨#[], #[.agg #[.int .i64 0, .string ⟨#[]⟩, .string ⟨#[]⟩], .slice none 0 0, .agg #[.string ⟨#[]⟩, .string ⟨#[]⟩, .string ⟨#[]⟩, .slice none 0 0, .string ⟨#[]⟩]], []⟩ 8 (by kernel_rfl) (by kernel_rfl) (by kernel_rfl) (by kernel_rfl))
    predMatches_walk
theorem predMatches_closed : joinedFacts Try.pinned.checked.prog 10 Try.f10 Rows.predMatchesSpec Rows.predMatchesRow = true := by
  unfold joinedFacts
  rw [io_enter, io_final, io_make]
  kernel_rfl
theorem predMatches_holds : Rows.PredMatchesSaid :=
  OpenClaim.holds_of_wide 10 Try.f10 rfl rfl rfl rfl rfl rfl rfl ⟨rfl, rfl, rfl, rfl, rfl⟩ rfl rfl rfl rfl rfl (by kernel_rfl) Try.func10 predMatches_closed
    (of_decide_eq_true (by kernel_rfl)) (by unfold Func.isWrapper; first | (rw [if_pos (by decide +kernel)]; kernel_rfl) | (rw [if_neg (by decide +kernel)]; exact ⟨rfl, rfl⟩))
    (fun os started H enc _ => predMatches_lifted os started H enc)
#print axioms predMatches_holds
end Go.Proofs.Ytpamnknfccmgcaa
