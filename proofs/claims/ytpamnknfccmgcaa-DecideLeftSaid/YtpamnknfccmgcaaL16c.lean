/- The law DecideLeft returns true: for every input, no condition. -/
import Derived.Test.YtpamnknfccmgcaaM16
import Derived.Test.YtpamnknfccmgcaaRows
import Derived.Test.YtpamnknfccmgcaaIo
namespace Go.Proofs.Ytpamnknfccmgcaa
open Go.RowKit Go.Peri
theorem decideLeft_walk (W : World) (args : Array Value) (h : Args W W.heap.size [tabTy, reqTy, .cons (.int .i64) (.cons (.int .i64) (.cons (.int .i64) .nil)), .cons (.int .i8) (.cons (.int .i8) (.cons (.int .i8) .nil))] args.toList) : Calls Try.prog 20 args W fun e W' => e = .returned (.bool true) ∧ Below W.heap.size W W' := by
  obtain ⟨v0, v1, v2, v3, rfl, h0, h1, h2, h3⟩ := args_four h
  obtain ⟨n, l, a, cap, f, rfl, ht⟩ := tab_of_arg h0
  obtain ⟨m, hh, p, b, hs, a0, cap0, rfl, hq⟩ := req_of_arg h1
  obtain ⟨x0, x1, x2, rfl, _, _, _⟩ := i64s_three h2
  obtain ⟨b0, b1, b2, rfl, g0, g1, g2⟩ := i8s_three h3
  exact C16.left_walk C16.known_any n l a cap f m hh p b hs a0 cap0 x0 x1 x2 b0 b1 b2 W ht hq g0 g1 g2

set_option maxRecDepth 100000 in
theorem decideLeft_lifted (os : Os) (started : os.Started) (H : Type) (enc : TypeId × Value → H) :
    ReturnsInHanded {} Try.checked os 20 .any (Rows.decideLeftSpec.pre6 enc Try.prog Try.f20 Rows.decideLeftRow.domain false) (Rows.decideLeftSpec.post enc Try.prog Try.f20 false true false false) :=
  law_lift (C := Try.checked) (tb := 4) [tabTy, reqTy, .cons (.int .i64) (.cons (.int .i64) (.cons (.int .i64) .nil)), .cons (.int .i8) (.cons (.int .i8) (.cons (.int .i8) .nil))] (by kernel_rfl) started (by kernel_rfl) Try.func20 (by kernel_rfl) rfl (by kernel_rfl) rfl Try.underlying4
    (fun ds h => by match ds, h with | [_, _, _, _], _ => rfl)
    (ChangeSpec.witness6 (enc := enc) (C := Try.checked) false ⟨#[], #[.agg #[.int .i64 0, .slice none 0 0, .string ⟨#[]⟩], .agg #[.string ⟨#[]⟩, .string ⟨#[]⟩, .string ⟨#[]⟩, .slice none 0 0, .string ⟨#[]⟩], .agg #[.int .i64 0, .int .i64 0, .int .i64 0], .agg #[.int .i8 0, .int .i8 0, .int .i8 0]], []⟩ 8 (by kernel_rfl) (by kernel_rfl) (by kernel_rfl) (by kernel_rfl))
    decideLeft_walk
theorem decideLeft_closed : joinedFacts Try.pinned.checked.prog 20 Try.f20 Rows.decideLeftSpec Rows.decideLeftRow = true := by
  unfold joinedFacts
  rw [io_enter, io_final, io_make]
  kernel_rfl
theorem decideLeft_holds : Rows.DecideLeftSaid :=
  OpenClaim.holds_of_wide 20 Try.f20 rfl rfl rfl rfl rfl rfl rfl ⟨rfl, rfl, rfl, rfl, rfl⟩ rfl rfl rfl rfl rfl (by kernel_rfl) Try.func20 decideLeft_closed
    (of_decide_eq_true (by kernel_rfl)) (by unfold Func.isWrapper; first | (rw [if_pos (by decide +kernel)]; kernel_rfl) | (rw [if_neg (by decide +kernel)]; exact ⟨rfl, rfl⟩))
    (fun os started H enc _ => decideLeft_lifted os started H enc)
#print axioms decideLeft_holds
end Go.Proofs.Ytpamnknfccmgcaa
