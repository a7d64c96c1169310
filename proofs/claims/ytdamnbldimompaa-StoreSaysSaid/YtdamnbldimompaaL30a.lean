/- The law StoreSays returns true: for every input, no condition. -/
import Derived.Test.YtdamnbldimompaaS30
import Derived.Test.YtdamnbldimompaaA30
import Derived.Test.YtdamnbldimompaaRows
namespace Go.Proofs.Ytdamnbldimompaa
open Go.RowKit Go.Peri
theorem storeSays_walk (W : World) (args : Array Value) (h : Args W W.heap.size [.slice 48 Kq.ty, .int .i64, Sp.ty, trTy] args.toList) : Calls Try.prog 3 args W fun e W' => e = .returned (.bool true) ∧ Below W.heap.size W W' := by
  obtain ⟨v0, v1, v2, v3, rfl, h0, h1, h2, h3⟩ := args_four h
  obtain ⟨l, hl, hll, hw⟩ := kepts_of_arg h0
  obtain ⟨room, rfl, _⟩ := int64_of_arg h1
  obtain ⟨s, rfl, _⟩ := span_of_arg h2
  obtain ⟨hi, lo, rfl⟩ := trace_of_arg h3
  exact C30.says_walk C30.known_any v0 l room s hi lo W hl hw hll

set_option maxRecDepth 100000 in
theorem storeSays_lifted (os : Os) (started : os.Started) (H : Type) (enc : TypeId × Value → H) :
    ReturnsInHanded {} Try.checked os 3 .any (Rows.storeSaysSpec.pre6 enc Try.prog Try.f3 Rows.storeSaysRow.domain false) (Rows.storeSaysSpec.post enc Try.prog Try.f3 false true false false) :=
  law_lift (C := Try.checked) (tb := 4) [.slice 48 Kq.ty, .int .i64, Sp.ty, trTy] (by kernel_rfl) started (by kernel_rfl) Try.func3 (by kernel_rfl) rfl (by kernel_rfl) rfl Try.underlying4
    (fun ds h => by match ds, h with | [_, _, _, _], _ => rfl)
    (ChangeSpec.witness6 (enc := enc) (C := Try.checked) false ⟨#[], #[.slice none 0 0, .int .i64 0, .agg #[.int .u64 0, .int .u64 0, .int .u64 0, .int .u64 0, .string ⟨#[]⟩, .int .i64 0, .int .i64 0, .int .i64 0, .bool false, .int .i64 0, .int .i64 0], .agg #[.int .u64 0, .int .u64 0]], []⟩ 8 (by kernel_rfl) (by kernel_rfl) (by kernel_rfl) (by kernel_rfl))
    storeSays_walk
theorem storeSays_holds : Rows.StoreSaysSaid :=
  OpenClaim.holds_of_wide 3 Try.f3 rfl rfl rfl rfl rfl rfl rfl ⟨rfl, rfl, rfl, rfl, rfl⟩ rfl rfl rfl rfl rfl (by kernel_rfl) Try.func3 (by kernel_rfl)
    (of_decide_eq_true (by kernel_rfl)) (by unfold Func.isWrapper; first | (rw [if_pos (by decide +kernel)]; kernel_rfl) | (rw [if_neg (by decide +kernel)]; exact ⟨rfl, rfl⟩))
    (fun os started H enc _ => storeSays_lifted os started H enc)
#print axioms storeSays_holds
end Go.Proofs.Ytdamnbldimompaa
