/- The law StoreApart returns true: for every input, no condition. -/
import Derived.Test.YtdamnbldimompaaS30
import Derived.Test.YtdamnbldimompaaA30
import Derived.Test.YtdamnbldimompaaT30
import Derived.Test.YtdamnbldimompaaRows
namespace Go.Proofs.Ytdamnbldimompaa
open Go.RowKit Go.Peri
theorem storeApart_walk (W : World) (args : Array Value) (h : Args W W.heap.size [.slice 96 Sp.ty, trTy] args.toList) : Calls Try.prog 5 args W fun e W' => e = .returned (.bool true) ∧ Below W.heap.size W W' := by
  obtain ⟨v0, v1, rfl, h0, h1⟩ := args_two h
  obtain ⟨l, hl, hll⟩ := spans_of_arg' h0
  obtain ⟨hi, lo, rfl⟩ := trace_of_arg h1
  exact C30.apart_walk C30.known_any v0 l hi lo W hl hll

set_option maxRecDepth 100000 in
theorem storeApart_lifted (os : Os) (started : os.Started) (H : Type) (enc : TypeId × Value → H) :
    ReturnsInHanded {} Try.checked os 5 .any (Rows.storeApartSpec.pre6 enc Try.prog Try.f5 Rows.storeApartRow.domain false) (Rows.storeApartSpec.post enc Try.prog Try.f5 false true false false) :=
  law_lift (C := Try.checked) (tb := 4) [.slice 96 Sp.ty, trTy] (by kernel_rfl) started (by kernel_rfl) Try.func5 (by kernel_rfl) rfl (by kernel_rfl) rfl Try.underlying4
    (fun ds h => by match ds, h with | [_, _], _ => rfl)
    (ChangeSpec.witness6 (enc := enc) (C := Try.checked) false ⟨#[], #[.slice none 0 0, .agg #[.int .u64 0, .int .u64 0]], []⟩ 8 (by kernel_rfl) (by kernel_rfl) (by kernel_rfl) (by kernel_rfl))
    storeApart_walk
theorem storeApart_holds : Rows.StoreApartSaid :=
  OpenClaim.holds_of_wide 5 Try.f5 rfl rfl rfl rfl rfl rfl rfl ⟨rfl, rfl, rfl, rfl, rfl⟩ rfl rfl rfl rfl rfl (by kernel_rfl) Try.func5 (by kernel_rfl)
    (of_decide_eq_true (by kernel_rfl)) (by unfold Func.isWrapper; first | (rw [if_pos (by decide +kernel)]; kernel_rfl) | (rw [if_neg (by decide +kernel)]; exact ⟨rfl, rfl⟩))
    (fun os started H enc _ => storeApart_lifted os started H enc)
#print axioms storeApart_holds
end Go.Proofs.Ytdamnbldimompaa
