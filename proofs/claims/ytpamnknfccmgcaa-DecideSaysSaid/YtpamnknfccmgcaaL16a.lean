/- The law DecideSays returns true: for every input, no condition. -/
import Derived.Test.YtpamnknfccmgcaaK16
import Derived.Test.YtpamnknfccmgcaaRows
import Derived.Test.YtpamnknfccmgcaaIo
namespace Go.Proofs.Ytpamnknfccmgcaa
open Go.RowKit Go.Peri
theorem decideSays_walk (W : World) (args : Array Value) (h : Args W W.heap.size [tabTy, reqTy, .cons (.int .i64) (.cons (.int .i64) (.cons (.int .i64) .nil)), .bool] args.toList) : Calls Try.prog 18 args W fun e W' => e = .returned (.bool true) ∧ Below W.heap.size W W' := by
  obtain ⟨v0, v1, v2, v3, rfl, h0, h1, h2, h3⟩ := args_four h
  obtain ⟨n, l, a, cap, f, rfl, ht⟩ := tab_of_arg h0
  obtain ⟨m, hh, p, b, hs, a0, cap0, rfl, hq⟩ := req_of_arg h1
  obtain ⟨x0, x1, x2, rfl, _, _, _⟩ := i64s_three h2
  obtain ⟨sh, e3⟩ : ∃ sh, [v3] = [Value.bool sh] := h3
  obtain rfl : v3 = .bool sh := by simpa using e3
  exact C16.says_walk C16.known_any n l a cap f m hh p b hs a0 cap0 x0 x1 x2 sh W ht hq

set_option maxRecDepth 100000 in
theorem decideSays_lifted (os : Os) (started : os.Started) (H : Type) (enc : TypeId × Value → H) :
    ReturnsInHanded {} Try.checked os 18 .any (Rows.decideSaysSpec.pre6 enc Try.prog Try.f18 Rows.decideSaysRow.domain false) (Rows.decideSaysSpec.post enc Try.prog Try.f18 false true false false) :=
  law_lift (C := Try.checked) (tb := 4) [tabTy, reqTy, .cons (.int .i64) (.cons (.int .i64) (.cons (.int .i64) .nil)), .bool] (by kernel_rfl) started (by kernel_rfl) Try.func18 (by kernel_rfl) rfl (by kernel_rfl) rfl Try.underlying4
    (fun ds h => by match ds, h with | [_, _, _, _], _ => rfl)
    (ChangeSpec.witness6 (enc := enc) (C := Try.checked) false ⟨#[], #[.agg #[.int .i64 0, .slice none 0 0, .string ⟨#[]⟩], .agg #[.string ⟨#[]⟩, .string ⟨#[]⟩, .string ⟨#[]⟩, .slice none 0 0, .string ⟨#[]⟩], .agg #[.int .i64 0, .int .i64 0, .int .i64 0], .bool false], []⟩ 8 (by kernel_rfl) (by kernel_rfl) (by kernel_rfl) (by kernel_rfl))
    decideSays_walk
theorem decideSays_closed : joinedFacts Try.pinned.checked.prog 18 Try.f18 Rows.decideSaysSpec Rows.decideSaysRow = true := by
  unfold joinedFacts
  rw [io_enter, io_final, io_make]
  kernel_rfl
theorem decideSays_holds : Rows.DecideSaysSaid :=
  OpenClaim.holds_of_wide 18 Try.f18 rfl rfl rfl rfl rfl rfl rfl ⟨rfl, rfl, rfl, rfl, rfl⟩ rfl rfl rfl rfl rfl (by kernel_rfl) Try.func18 decideSays_closed
    (of_decide_eq_true (by kernel_rfl)) (by unfold Func.isWrapper; first | (rw [if_pos (by decide +kernel)]; kernel_rfl) | (rw [if_neg (by decide +kernel)]; exact ⟨rfl, rfl⟩))
    (fun os started H enc _ => decideSays_lifted os started H enc)
#print axioms decideSays_holds
end Go.Proofs.Ytpamnknfccmgcaa
