/- The law RuleOrders returns true: for every input, no condition. -/
import Derived.Test.YtmmmaldpalhjeaaMg13
import Derived.Test.YtmmmaldpalhjeaaRows
import Derived.Test.YtmmmaldpalhjeaaMg12
namespace Go.Proofs.Ytmmmaldpalhjeaa
open Go.RowKit Go.Peri
theorem ruleOrders_walk (W : World) (args : Array Value) (h : Args W W.heap.size [.slice 112 Rl.ty, reqTy] args.toList) : Calls Try.prog 11 args W fun e W' => e = .returned (.bool true) ∧ Below W.heap.size W W' := by
  obtain ⟨v0, v1, rfl, h0, h1⟩ := args_two h
  obtain ⟨l, hl, hll, hw⟩ := rules_of_arg h0
  obtain ⟨m, hh, p, b, hs, a0, cap0, rfl, hq⟩ := req_of_arg h1
  exact C12.orders_walk C12.known_any v0 l m hh p b hs a0 cap0 W hl hw hll hq

set_option maxRecDepth 100000 in
theorem ruleOrders_lifted (os : Os) (started : os.Started) (H : Type) (enc : TypeId × Value → H) :
    ReturnsInHanded {} Try.checked os 11 .any (Rows.ruleOrdersSpec.pre6 enc Try.prog Try.f11 Rows.ruleOrdersRow.domain false) (Rows.ruleOrdersSpec.post enc Try.prog Try.f11 false true false false) :=
  law_lift (C := Try.checked) (tb := 4) [.slice 112 Rl.ty, reqTy] (by kernel_rfl) started (by kernel_rfl) Try.func11 (by kernel_rfl) rfl (by kernel_rfl) rfl Try.underlying4
    (fun ds h => by match ds, h with | [_, _], _ => rfl)
    (ChangeSpec.witness6 (enc := enc) (C := Try.checked) false ⟨#[], #[.slice none 0 0, .agg #[.string ⟨#[]⟩, .string ⟨#[]⟩, .string ⟨#[]⟩, .slice none 0 0, .string ⟨#[]⟩]], []⟩ 8 (by kernel_rfl) (by kernel_rfl) (by kernel_rfl) (by kernel_rfl))
    ruleOrders_walk
theorem ruleOrders_closed : joinedFacts Try.pinned.checked.prog 11 Try.f11 Rows.ruleOrdersSpec Rows.ruleOrdersRow = true := by
  unfold joinedFacts
  rw [io_enter, io_final, io_make]
  kernel_rfl
theorem ruleOrders_holds : Rows.RuleOrdersSaid :=
  OpenClaim.holds_of_wide 11 Try.f11 rfl rfl rfl rfl rfl rfl rfl ⟨rfl, rfl, rfl, rfl, rfl⟩ rfl rfl rfl rfl rfl (by kernel_rfl) Try.func11 ruleOrders_closed
    (of_decide_eq_true (by kernel_rfl)) (by unfold Func.isWrapper; first | (rw [if_pos (by decide +kernel)]; kernel_rfl) | (rw [if_neg (by decide +kernel)]; exact ⟨rfl, rfl⟩))
    (fun os started H enc _ => ruleOrders_lifted os started H enc)
#print axioms ruleOrders_holds
end Go.Proofs.Ytmmmaldpalhjeaa
