/- The law RuleChecks returns true: for every input, no condition. -/
import Derived.Test.YtmmmaldpalhjeaaMg09
import Derived.Test.YtmmmaldpalhjeaaRows
import Derived.Test.YtmmmaldpalhjeaaMg10
namespace Go.Proofs.Ytmmmaldpalhjeaa
open Go.RowKit Go.Peri
theorem ruleChecks_walk (W : World) (args : Array Value) (h : Args W W.heap.size [Rl.ty, .slice 16 .str] args.toList) : Calls Try.prog 9 args W fun e W' => e = .returned (.bool true) ∧ Below W.heap.size W W' := by
  obtain ⟨v0, v1, rfl, h0, h1⟩ := args_two h
  obtain ⟨r, rfl, hr⟩ := rule_of_arg h0
  obtain ⟨ns, hn, hl, _⟩ := names_of_arg h1
  exact C12.checks_walk C12.known_any r ns v1 W hr hn hl

set_option maxRecDepth 100000 in
theorem ruleChecks_lifted (os : Os) (started : os.Started) (H : Type) (enc : TypeId × Value → H) :
    ReturnsInHanded {} Try.checked os 9 .any (Rows.ruleChecksSpec.pre6 enc Try.prog Try.f9 Rows.ruleChecksRow.domain false) (Rows.ruleChecksSpec.post enc Try.prog Try.f9 false true false false) :=
  law_lift (C := Try.checked) (tb := 4) [Rl.ty, .slice 16 .str] (by kernel_rfl) started (by kernel_rfl) Try.func9 (by kernel_rfl) rfl (by kernel_rfl) rfl Try.underlying4
    (fun ds h => by match ds, h with | [_, _], _ => rfl)
    (ChangeSpec.witness6 (enc := enc) (C := Try.checked) false ⟨#[], #[.agg #[.int .i64 0, .slice none 0 0, .string ⟨#[]⟩, .int .i64 0, .int .i64 0, .int .i64 0, .int .i64 0, .int .i64 0, .string ⟨#[]⟩, .int .i64 0], .slice none 0 0], []⟩ 8 (by kernel_rfl) (by kernel_rfl) (by kernel_rfl) (by kernel_rfl))
    ruleChecks_walk
theorem ruleChecks_closed : joinedFacts Try.pinned.checked.prog 9 Try.f9 Rows.ruleChecksSpec Rows.ruleChecksRow = true := by
  unfold joinedFacts
  rw [io_enter, io_final, io_make]
  kernel_rfl
theorem ruleChecks_holds : Rows.RuleChecksSaid :=
  OpenClaim.holds_of_wide 9 Try.f9 rfl rfl rfl rfl rfl rfl rfl ⟨rfl, rfl, rfl, rfl, rfl⟩ rfl rfl rfl rfl rfl (by kernel_rfl) Try.func9 ruleChecks_closed
    (of_decide_eq_true (by kernel_rfl)) (by unfold Func.isWrapper; first | (rw [if_pos (by decide +kernel)]; kernel_rfl) | (rw [if_neg (by decide +kernel)]; exact ⟨rfl, rfl⟩))
    (fun os started H enc _ => ruleChecks_lifted os started H enc)
#print axioms ruleChecks_holds
end Go.Proofs.Ytmmmaldpalhjeaa
