/- The law PredMore returns true: for every input, no condition. -/
import Derived.Test.YtpamnknfccmgcaaZ11c
import Derived.Test.YtpamnknfccmgcaaRows
import Derived.Test.YtpamnknfccmgcaaIo
namespace Go.Proofs.Ytpamnknfccmgcaa
open Go.RowKit Go.Peri
theorem predMore_walk (W : World) (args : Array Value) (h : Args W W.heap.size [.slice 40 Prd.ty, Prd.ty, reqTy, .int .i64] args.toList) : Calls Try.prog 11 args W fun e W' => e = .returned (.bool true) ∧ Below W.heap.size W W' := by
  obtain ⟨v0, v1, v2, v3, rfl, h0, h1, h2, h3⟩ := args_four h
  obtain ⟨l, hl, hn, hw⟩ := preds_of_arg h0
  obtain ⟨x, rfl, hx⟩ := pred_of_arg h1
  obtain ⟨m, hh, p, b, hs, a, cap, rfl, hq⟩ := req_of_arg h2
  obtain ⟨j, rfl, _⟩ := int64_of_arg h3
  exact C11.more_walk C11.known_any v0 l x.kind x.name x.value m hh p b hs a cap j W hx.name hx.value hl hn hw hq

set_option maxRecDepth 100000 in
theorem predMore_lifted (os : Os) (started : os.Started) (H : Type) (enc : TypeId × Value → H) :
    ReturnsInHanded {} Try.checked os 11 .any (Rows.predMoreSpec.pre6 enc Try.prog Try.f11 Rows.predMoreRow.domain false) (Rows.predMoreSpec.post enc Try.prog Try.f11 false true false false) :=
  law_lift (C := Try.checked) (tb := 4) [.slice 40 Prd.ty, Prd.ty, reqTy, .int .i64] (by kernel_rfl) started (by kernel_rfl) Try.func11 (by kernel_rfl) rfl (by kernel_rfl) rfl Try.underlying4
    (fun ds h => by match ds, h with | [_, _, _, _], _ => rfl)
    (ChangeSpec.witness6 (enc := enc) (C := Try.checked) false ⟨#[], #[.slice none 0 0, .agg #[.int .i64 0, .string ⟨#[]⟩, .string ⟨#[]⟩], .agg #[.string ⟨#[]⟩, .string ⟨#[]⟩, .string ⟨#[]⟩, .slice none 0 0, .string ⟨#[]⟩], .int .i64 0], []⟩ 8 (by kernel_rfl) (by kernel_rfl) (by kernel_rfl) (by kernel_rfl))
    predMore_walk
theorem predMore_closed : joinedFacts Try.pinned.checked.prog 11 Try.f11 Rows.predMoreSpec Rows.predMoreRow = true := by
  unfold joinedFacts
  rw [io_enter, io_final, io_make]
  kernel_rfl
theorem predMore_holds : Rows.PredMoreSaid :=
  OpenClaim.holds_of_wide 11 Try.f11 rfl rfl rfl rfl rfl rfl rfl ⟨rfl, rfl, rfl, rfl, rfl⟩ rfl rfl rfl rfl rfl (by kernel_rfl) Try.func11 predMore_closed
    (of_decide_eq_true (by kernel_rfl)) (by unfold Func.isWrapper; first | (rw [if_pos (by decide +kernel)]; kernel_rfl) | (rw [if_neg (by decide +kernel)]; exact ⟨rfl, rfl⟩))
    (fun os started H enc _ => predMore_lifted os started H enc)
#print axioms predMore_holds
end Go.Proofs.Ytpamnknfccmgcaa
