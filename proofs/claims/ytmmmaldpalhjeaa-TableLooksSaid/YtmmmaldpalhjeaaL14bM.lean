/- The law TableLooks returns true: for every input, no condition. -/
import Derived.Test.YtmmmaldpalhjeaaMg15
import Derived.Test.YtmmmaldpalhjeaaMg13
import Derived.Test.YtmmmaldpalhjeaaRows
import Derived.Test.YtmmmaldpalhjeaaMg14
namespace Go.Proofs.Ytmmmaldpalhjeaa
open Go.RowKit Go.Peri
theorem tableLooks_walk (W : World) (args : Array Value) (h : Args W W.heap.size [tabTy, .slice 16 .str, reqTy] args.toList) : Calls Try.prog 15 args W fun e W' => e = .returned (.bool true) ∧ Below W.heap.size W W' := by
  obtain ⟨v0, v1, v2, rfl, h0, h1, h2⟩ := args_three h
  obtain ⟨n, l, a, cap, f, rfl, ht⟩ := tab_of_arg h0
  obtain ⟨ns, hn, hl, _⟩ := names_of_arg h1
  obtain ⟨m, hh, p, b, hs, a0, cap0, rfl, hq⟩ := req_of_arg h2
  exact C14.looks_walk C14.known_any n l a cap f ns v1 m hh p b hs a0 cap0 W ht hn hl hq

set_option maxRecDepth 100000 in
theorem tableLooks_lifted (os : Os) (started : os.Started) (H : Type) (enc : TypeId × Value → H) :
    ReturnsInHanded {} Try.checked os 15 .any (Rows.tableLooksSpec.pre6 enc Try.prog Try.f15 Rows.tableLooksRow.domain false) (Rows.tableLooksSpec.post enc Try.prog Try.f15 false true false false) :=
  law_lift (C := Try.checked) (tb := 4) [tabTy, .slice 16 .str, reqTy] (by kernel_rfl) started (by kernel_rfl) Try.func15 (by kernel_rfl) rfl (by kernel_rfl) rfl Try.underlying4
    (fun ds h => by match ds, h with | [_, _, _], _ => rfl)
    (ChangeSpec.witness6 (enc := enc) (C := Try.checked) false ⟨#[], #[.agg #[.int .i64 0, .slice none 0 0, .string ⟨#[]⟩], .slice none 0 0, .agg #[.string ⟨#[]⟩, .string ⟨#[]⟩, .string ⟨#[]⟩, .slice none 0 0, .string ⟨#[]⟩]], []⟩ 8 (by kernel_rfl) (by kernel_rfl) (by kernel_rfl) (by kernel_rfl))
    tableLooks_walk
theorem tableLooks_closed : joinedFacts Try.pinned.checked.prog 15 Try.f15 Rows.tableLooksSpec Rows.tableLooksRow = true := by
  unfold joinedFacts
  rw [io_enter, io_final, io_make]
  kernel_rfl
theorem tableLooks_holds : Rows.TableLooksSaid :=
  OpenClaim.holds_of_wide 15 Try.f15 rfl rfl rfl rfl rfl rfl rfl ⟨rfl, rfl, rfl, rfl, rfl⟩ rfl rfl rfl rfl rfl (by kernel_rfl) Try.func15 tableLooks_closed
    (of_decide_eq_true (by kernel_rfl)) (by unfold Func.isWrapper; first | (rw [if_pos (by decide +kernel)]; kernel_rfl) | (rw [if_neg (by decide +kernel)]; exact ⟨rfl, rfl⟩))
    (fun os started H enc _ => tableLooks_lifted os started H enc)
#print axioms tableLooks_holds
end Go.Proofs.Ytmmmaldpalhjeaa
