/- The law DecideOnce returns true: for every input, no condition. -/
import Derived.Test.YthmopkaecbebpaaX16
import Derived.Test.YthmopkaecbebpaaRows
import Derived.Test.YthmopkaecbebpaaIo
namespace Go.Proofs.Ythmopkaecbebpaa
open Go.RowKit Go.Peri
theorem decideOnce_walk (W : World) (args : Array Value) (h : Args W W.heap.size [tabTy, reqTy, .cons (.int .i64) (.cons (.int .i64) (.cons (.int .i64) .nil))] args.toList) : Calls Try.prog 16 args W fun e W' => e = .returned (.bool true) ∧ Below W.heap.size W W' := by
  obtain ⟨v0, v1, v2, rfl, h0, h1, h2⟩ := args_three h
  obtain ⟨n, l, a, cap, f, rfl, ht⟩ := tab_of_arg h0
  obtain ⟨m, hh, p, b, hs, a0, cap0, rfl, hq⟩ := req_of_arg h1
  obtain ⟨x0, x1, x2, rfl, _, _, _⟩ := i64s_three h2
  exact C16.once_walk C16.known_any n l a cap f m hh p b hs a0 cap0 x0 x1 x2 W ht hq

set_option maxRecDepth 100000 in
theorem decideOnce_lifted (os : Os) (started : os.Started) (H : Type) (enc : TypeId × Value → H) :
    ReturnsInHanded {} Try.checked os 16 .any (Rows.decideOnceSpec.pre6 enc Try.prog Try.f16 Rows.decideOnceRow.domain false) (Rows.decideOnceSpec.post enc Try.prog Try.f16 false true false false) :=
  law_lift (C := Try.checked) (tb := 4) [tabTy, reqTy, .cons (.int .i64) (.cons (.int .i64) (.cons (.int .i64) .nil))] (by kernel_rfl) started (by kernel_rfl) Try.func16 (by kernel_rfl) rfl (by kernel_rfl) rfl Try.underlying4
    (fun ds h => by match ds, h with | [_, _, _], _ => rfl)
    (ChangeSpec.witness6 (enc := enc) (C := Try.checked) false ⟨#[], #[.agg #[.int .i64 0, .slice none 0 0, .string ⟨#[]⟩], .agg #[.string ⟨#[]⟩, .string ⟨#[]⟩, .string ⟨#[]⟩, .slice none 0 0, .string ⟨#[]⟩], .agg #[.int .i64 0, .int .i64 0, .int .i64 0]], []⟩ 8 (by kernel_rfl) (by kernel_rfl) (by kernel_rfl) (by kernel_rfl))
    decideOnce_walk
theorem decideOnce_closed : joinedFacts Try.pinned.checked.prog 16 Try.f16 Rows.decideOnceSpec Rows.decideOnceRow = true := by
  unfold joinedFacts
  rw [io_enter, io_final, io_make]
  kernel_rfl
theorem decideOnce_holds : Rows.DecideOnceSaid :=
  OpenClaim.holds_of_wide 16 Try.f16 rfl rfl rfl rfl rfl rfl rfl ⟨rfl, rfl, rfl, rfl, rfl⟩ rfl rfl rfl rfl rfl (by kernel_rfl) Try.func16 decideOnce_closed
    (of_decide_eq_true (by kernel_rfl)) (by unfold Func.isWrapper; first | (rw [if_pos (by decide +kernel)]; kernel_rfl) | (rw [if_neg (by decide +kernel)]; exact ⟨rfl, rfl⟩))
    (fun os started H enc _ => decideOnce_lifted os started H enc)
#print axioms decideOnce_holds
end Go.Proofs.Ythmopkaecbebpaa
