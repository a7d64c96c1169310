/- The law TableFirst returns true: for every input, no condition. -/
import Derived.Test.YtmmmaldpalhjeaaMg16
import Derived.Test.YtmmmaldpalhjeaaMg13
import Derived.Test.YtmmmaldpalhjeaaRows
import Derived.Test.YtmmmaldpalhjeaaMg14
namespace Go.Proofs.Ytmmmaldpalhjeaa
open Go.RowKit Go.Peri
theorem tableFirst_walk (W : World) (args : Array Value) (h : Args W W.heap.size [cfgTy, .slice 16 .str, reqTy] args.toList) : Calls Try.prog 16 args W fun e W' => e = .returned (.bool true) ∧ Below W.heap.size W W' := by
  obtain ⟨v0, v1, v2, rfl, h0, h1, h2⟩ := args_three h
  obtain ⟨l, a, cap, f, rfl, ht⟩ := cfg_of_arg h0
  obtain ⟨ns, hn, hl, _⟩ := names_of_arg h1
  obtain ⟨m, hh, p, b, hs, a0, cap0, rfl, hq⟩ := req_of_arg h2
  exact C14.first_walk C14.known_any l a cap f ns v1 m hh p b hs a0 cap0 W ht.rows ht.wf ht.len ht.f hn hl hq

set_option maxRecDepth 100000 in
theorem tableFirst_lifted (os : Os) (started : os.Started) (H : Type) (enc : TypeId × Value → H) :
    ReturnsInHanded {} Try.checked os 16 .any (Rows.tableFirstSpec.pre6 enc Try.prog Try.f16 Rows.tableFirstRow.domain false) (Rows.tableFirstSpec.post enc Try.prog Try.f16 false true false false) :=
  law_lift (C := Try.checked) (tb := 4) [cfgTy, .slice 16 .str, reqTy] (by kernel_rfl) started (by kernel_rfl) Try.func16 (by kernel_rfl) rfl (by kernel_rfl) rfl Try.underlying4
    (fun ds h => by match ds, h with | [_, _, _], _ => rfl)
    (ChangeSpec.witness6 (enc := enc) (C := Try.checked) false ⟨#[], #[.agg #[.slice none 0 0, .string ⟨#[]⟩], .slice none 0 0, .agg #[.string ⟨#[]⟩, .string ⟨#[]⟩, .string ⟨#[]⟩, .slice none 0 0, .string ⟨#[]⟩]], []⟩ 8 (by kernel_rfl) (by kernel_rfl) (by kernel_rfl) (by kernel_rfl))
    tableFirst_walk
theorem tableFirst_closed : joinedFacts Try.pinned.checked.prog 16 Try.f16 Rows.tableFirstSpec Rows.tableFirstRow = true := by
  unfold joinedFacts
  rw [io_enter, io_final, io_make]
  kernel_rfl
theorem tableFirst_holds : Rows.TableFirstSaid :=
  OpenClaim.holds_of_wide 16 Try.f16 rfl rfl rfl rfl rfl rfl rfl ⟨rfl, rfl, rfl, rfl, rfl⟩ rfl rfl rfl rfl rfl (by kernel_rfl) Try.func16 tableFirst_closed
    (of_decide_eq_true (by kernel_rfl)) (by unfold Func.isWrapper; first | (rw [if_pos (by decide +kernel)]; kernel_rfl) | (rw [if_neg (by decide +kernel)]; exact ⟨rfl, rfl⟩))
    (fun os started H enc _ => tableFirst_lifted os started H enc)
#print axioms tableFirst_holds
end Go.Proofs.Ytmmmaldpalhjeaa
