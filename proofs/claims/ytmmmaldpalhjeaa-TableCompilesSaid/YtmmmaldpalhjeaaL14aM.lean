/- The law TableCompiles returns true: for every input, no condition. -/
import Derived.Test.YtmmmaldpalhjeaaMg13
import Derived.Test.YtmmmaldpalhjeaaRows
import Derived.Test.YtmmmaldpalhjeaaMg14
namespace Go.Proofs.Ytmmmaldpalhjeaa
open Go.RowKit Go.Peri
theorem tableCompiles_walk (W : World) (args : Array Value) (h : Args W W.heap.size [cfgTy, .int .i64, .slice 16 .str] args.toList) : Calls Try.prog 14 args W fun e W' => e = .returned (.bool true) ∧ Below W.heap.size W W' := by
  obtain ⟨v0, v1, v2, rfl, h0, h1, h2⟩ := args_three h
  obtain ⟨l, a, cap, f, rfl, ht⟩ := cfg_of_arg h0
  obtain ⟨n, rfl, _⟩ := int_of_arg h1
  obtain ⟨ns, hn, hl, _⟩ := names_of_arg h2
  exact C14.compiles_walk C14.known_any n l a cap f ns v2 W ht.rows ht.wf ht.len ht.f hn hl

set_option maxRecDepth 100000 in
theorem tableCompiles_lifted (os : Os) (started : os.Started) (H : Type) (enc : TypeId × Value → H) :
    ReturnsInHanded {} Try.checked os 14 .any (Rows.tableCompilesSpec.pre6 enc Try.prog Try.f14 Rows.tableCompilesRow.domain false) (Rows.tableCompilesSpec.post enc Try.prog Try.f14 false true false false) :=
  law_lift (C := Try.checked) (tb := 4) [cfgTy, .int .i64, .slice 16 .str] (by kernel_rfl) started (by kernel_rfl) Try.func14 (by kernel_rfl) rfl (by kernel_rfl) rfl Try.underlying4
    (fun ds h => by match ds, h with | [_, _, _], _ => rfl)
    (ChangeSpec.witness6 (enc := enc) (C := Try.checked) false ⟨#[], #[.agg #[.slice none 0 0, .string ⟨#[]⟩], .int .i64 0, .slice none 0 0], []⟩ 8 (by kernel_rfl) (by kernel_rfl) (by kernel_rfl) (by kernel_rfl))
    tableCompiles_walk
theorem tableCompiles_closed : joinedFacts Try.pinned.checked.prog 14 Try.f14 Rows.tableCompilesSpec Rows.tableCompilesRow = true := by
  unfold joinedFacts
  rw [io_enter, io_final, io_make]
  kernel_rfl
theorem tableCompiles_holds : Rows.TableCompilesSaid :=
  OpenClaim.holds_of_wide 14 Try.f14 rfl rfl rfl rfl rfl rfl rfl ⟨rfl, rfl, rfl, rfl, rfl⟩ rfl rfl rfl rfl rfl (by kernel_rfl) Try.func14 tableCompiles_closed
    (of_decide_eq_true (by kernel_rfl)) (by unfold Func.isWrapper; first | (rw [if_pos (by decide +kernel)]; kernel_rfl) | (rw [if_neg (by decide +kernel)]; exact ⟨rfl, rfl⟩))
    (fun os started H enc _ => tableCompiles_lifted os started H enc)
#print axioms tableCompiles_holds
end Go.Proofs.Ytmmmaldpalhjeaa
