/- The law IdsTexts returns true: for every input, no condition. -/
import Derived.Test.YtnmfdkkdnaeikaaN06
import Derived.Test.YtnmfdkkdnaeikaaB06
import Derived.Test.YtnmfdkkdnaeikaaRows
namespace Go.Proofs.Ytnmfdkkdnaeikaa
open Go.RowKit Go.Peri
theorem idsTexts_walk (W : World) (args : Array Value) (h : Args W W.heap.size [.cons (.int .u64) (.cons (.int .u64) .nil), .str] args.toList) : Calls Try.prog 14 args W fun e W' => e = .returned (.bool true) ∧ Below W.heap.size W W' := by
  obtain ⟨v0, v1, rfl, h0, h1⟩ := args_two h
  obtain ⟨a, b, rfl, ha, hb⟩ := pair_of_arg h0
  obtain ⟨s, rfl, hs⟩ := str_of_arg h1
  exact C06.texts_walk a b s W ha hb hs

set_option maxRecDepth 100000 in
theorem idsTexts_lifted (os : Os) (started : os.Started) (H : Type) (enc : TypeId × Value → H) :
    ReturnsInHanded {} Try.checked os 14 .any (Rows.idsTextsSpec.pre6 enc Try.prog Try.f14 Rows.idsTextsRow.domain false) (Rows.idsTextsSpec.post enc Try.prog Try.f14 false true false false) :=
  law_lift (C := Try.checked) (tb := 4) [.cons (.int .u64) (.cons (.int .u64) .nil), .str] (by kernel_rfl) started (by kernel_rfl) Try.func14 (by kernel_rfl) rfl (by kernel_rfl) rfl Try.underlying4
    (fun ds h => by match ds, h with | [_, _], _ => rfl)
    (ChangeSpec.witness6 (enc := enc) (C := Try.checked) false ⟨#[], #[.agg #[.int .u64 0, .int .u64 0], .string ⟨#[]⟩], []⟩ 8 (by kernel_rfl) (by kernel_rfl) (by kernel_rfl) (by kernel_rfl))
    idsTexts_walk
theorem idsTexts_holds : Rows.IdsTextsSaid :=
  OpenClaim.holds_of_wide 14 Try.f14 rfl rfl rfl rfl rfl rfl rfl ⟨rfl, rfl, rfl, rfl, rfl⟩ rfl rfl rfl rfl rfl (by kernel_rfl) Try.func14 (by kernel_rfl)
    (of_decide_eq_true (by kernel_rfl)) (by unfold Func.isWrapper; first | (rw [if_pos (by decide +kernel)]; kernel_rfl) | (rw [if_neg (by decide +kernel)]; exact ⟨rfl, rfl⟩))
    (fun os started H enc _ => idsTexts_lifted os started H enc)
#print axioms idsTexts_holds
end Go.Proofs.Ytnmfdkkdnaeikaa
