/- The law ExportQuiet returns true: for every input, no condition. -/
import Derived.Test.YtcohcanakicmpaaT27
import Derived.Test.YtcohcanakicmpaaRows
import Derived.Test.YtcohcanakicmpaaMg11
namespace Go.Proofs.Ytcohcanakicmpaa
open Go.RowKit Go.Peri
theorem exportQuiet_walk (W : World) (args : Array Value) (h : Args W W.heap.size [Lim.ty, .slice 96 Sp.ty, .int .i64] args.toList) : Calls Try.prog 4 args W fun e W' => e = .returned (.bool true) ∧ Below W.heap.size W W' := by
  obtain ⟨v0, v1, v2, rfl, h0, h1, h2⟩ := args_three h
  obtain ⟨c, rfl⟩ := lim_of_arg h0
  obtain ⟨l, hv, _, hw⟩ := spans_of_arg h1
  obtain ⟨n, rfl, _⟩ := int_of_arg h2
  exact C27.quiet_walk c v1 l n W hv hw

set_option maxRecDepth 100000 in
theorem exportQuiet_lifted (os : Os) (started : os.Started) (H : Type) (enc : TypeId × Value → H) :
    ReturnsInHanded {} Try.checked os 4 .any (Rows.exportQuietSpec.pre6 enc Try.prog Try.f4 Rows.exportQuietRow.domain false) (Rows.exportQuietSpec.post enc Try.prog Try.f4 false true false false) :=
  law_lift (C := Try.checked) (tb := 4) [Lim.ty, .slice 96 Sp.ty, .int .i64] (by kernel_rfl) started (by kernel_rfl) Try.func4 (by kernel_rfl) rfl (by kernel_rfl) rfl Try.underlying4
    (fun ds h => by match ds, h with | [_, _, _], _ => rfl)
    (ChangeSpec.witness6 (enc := enc) (C := Try.checked) false ⟨#[], #[.agg #[.int .i64 0, .int .i64 0, .int .i64 0, .int .i64 0, .int .i64 0, .int .i64 0, .int .i64 0, .int .i64 0, .int .i64 0, .int .i64 0, .int .i64 0, .slice none 0 0], .slice none 0 0, .int .i64 0], []⟩ 8 (by kernel_rfl) (by kernel_rfl) (by kernel_rfl) (by kernel_rfl))
    exportQuiet_walk
theorem exportQuiet_closed : joinedFacts Try.pinned.checked.prog 4 Try.f4 Rows.exportQuietSpec Rows.exportQuietRow = true := by
  unfold joinedFacts
  rw [io_enter, io_final, io_make]
  kernel_rfl
theorem exportQuiet_holds : Rows.ExportQuietSaid :=
  OpenClaim.holds_of_wide 4 Try.f4 rfl rfl rfl rfl rfl rfl rfl ⟨rfl, rfl, rfl, rfl, rfl⟩ rfl rfl rfl rfl rfl (by kernel_rfl) Try.func4 exportQuiet_closed
    (of_decide_eq_true (by kernel_rfl)) (by unfold Func.isWrapper; first | (rw [if_pos (by decide +kernel)]; kernel_rfl) | (rw [if_neg (by decide +kernel)]; exact ⟨rfl, rfl⟩))
    (fun os started H enc _ => exportQuiet_lifted os started H enc)
#print axioms exportQuiet_holds
end Go.Proofs.Ytcohcanakicmpaa
