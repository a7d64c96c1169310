/- The law ExportKeeps returns true: for every input, no condition. -/
import Derived.Test.YtcohcanakicmpaaMg11
import Derived.Test.YtcohcanakicmpaaRows
namespace Go.Proofs.Ytcohcanakicmpaa
open Go.RowKit Go.Peri
theorem exportKeeps_walk (W : World) (args : Array Value) (h : Args W W.heap.size [Lim.ty, .slice 112 Mv.ty] args.toList) : Calls Try.prog 3 args W fun e W' => e = .returned (.bool true) ∧ Below W.heap.size W W' := by
  obtain ⟨v0, v1, rfl, h0, h1⟩ := args_two h
  obtain ⟨c, rfl⟩ := lim_of_arg h0
  obtain ⟨l, hv, _, hw⟩ := moves_of_arg h1
  exact C27.keeps_walk c v1 l W hv hw

set_option maxRecDepth 100000 in
theorem exportKeeps_lifted (os : Os) (started : os.Started) (H : Type) (enc : TypeId × Value → H) :
    ReturnsInHanded {} Try.checked os 3 .any (Rows.exportKeepsSpec.pre6 enc Try.prog Try.f3 Rows.exportKeepsRow.domain false) (Rows.exportKeepsSpec.post enc Try.prog Try.f3 false true false false) :=
  law_lift (C := Try.checked) (tb := 4) [Lim.ty, .slice 112 Mv.ty] (by kernel_rfl) started (by kernel_rfl) Try.func3 (by kernel_rfl) rfl (by kernel_rfl) rfl Try.underlying4
    (fun ds h => by match ds, h with | [_, _], _ => rfl)
    (ChangeSpec.witness6 (enc := enc) (C := Try.checked) false ⟨#[], #[.agg #[.int .i64 0, .int .i64 0, .int .i64 0, .int .i64 0, .int .i64 0, .int .i64 0, .int .i64 0, .int .i64 0, .int .i64 0, .int .i64 0, .int .i64 0, .slice none 0 0], .slice none 0 0], []⟩ 8 (by kernel_rfl) (by kernel_rfl) (by kernel_rfl) (by kernel_rfl))
    exportKeeps_walk
theorem exportKeeps_closed : joinedFacts Try.pinned.checked.prog 3 Try.f3 Rows.exportKeepsSpec Rows.exportKeepsRow = true := by
  unfold joinedFacts
  rw [io_enter, io_final, io_make]
  kernel_rfl
theorem exportKeeps_holds : Rows.ExportKeepsSaid :=
  OpenClaim.holds_of_wide 3 Try.f3 rfl rfl rfl rfl rfl rfl rfl ⟨rfl, rfl, rfl, rfl, rfl⟩ rfl rfl rfl rfl rfl (by kernel_rfl) Try.func3 exportKeeps_closed
    (of_decide_eq_true (by kernel_rfl)) (by unfold Func.isWrapper; first | (rw [if_pos (by decide +kernel)]; kernel_rfl) | (rw [if_neg (by decide +kernel)]; exact ⟨rfl, rfl⟩))
    (fun os started H enc _ => exportKeeps_lifted os started H enc)
#print axioms exportKeeps_holds
end Go.Proofs.Ytcohcanakicmpaa
