/- The law OctetPuts returns true: for every input, no condition. -/
import Derived.Test.YtnmfdkkdnaeikaaK01
import Derived.Test.YtnmfdkkdnaeikaaA01
import Derived.Test.YtnmfdkkdnaeikaaRows
namespace Go.Proofs.Ytnmfdkkdnaeikaa
open Go.RowKit Go.Peri
theorem octetPuts_walk (W : World) (args : Array Value) (h : Args W W.heap.size [.int .u64, .int .i64] args.toList) : Calls Try.prog 3 args W fun e W' => e = .returned (.bool true) ∧ Below W.heap.size W W' := by
  obtain ⟨v0, v1, rfl, h0, h1⟩ := args_two h
  obtain ⟨n, rfl, hn⟩ := u64_of_arg h0
  obtain ⟨a, rfl, _⟩ := int_of_arg h1
  exact C01.puts_walk n a W hn

set_option maxRecDepth 100000 in
theorem octetPuts_lifted (os : Os) (started : os.Started) (H : Type) (enc : TypeId × Value → H) :
    ReturnsInHanded {} Try.checked os 3 .any (Rows.octetPutsSpec.pre6 enc Try.prog Try.f3 Rows.octetPutsRow.domain false) (Rows.octetPutsSpec.post enc Try.prog Try.f3 false true false false) :=
  law_lift (C := Try.checked) (tb := 4) [.int .u64, .int .i64] (by kernel_rfl) started (by kernel_rfl) Try.func3 (by kernel_rfl) rfl (by kernel_rfl) rfl Try.underlying4
    (fun ds h => by match ds, h with | [_, _], _ => rfl)
    (ChangeSpec.witness6 (enc := enc) (C := Try.checked) false ⟨#[], #[.int .u64 0, .int .i64 0], []⟩ 8 (by kernel_rfl) (by kernel_rfl) (by kernel_rfl) (by kernel_rfl))
    octetPuts_walk
theorem octetPuts_holds : Rows.OctetPutsSaid :=
  OpenClaim.holds_of_wide 3 Try.f3 rfl rfl rfl rfl rfl rfl rfl ⟨rfl, rfl, rfl, rfl, rfl⟩ rfl rfl rfl rfl rfl (by kernel_rfl) Try.func3 (by kernel_rfl)
    (of_decide_eq_true (by kernel_rfl)) (by unfold Func.isWrapper; first | (rw [if_pos (by decide +kernel)]; kernel_rfl) | (rw [if_neg (by decide +kernel)]; exact ⟨rfl, rfl⟩))
    (fun os started H enc _ => octetPuts_lifted os started H enc)
#print axioms octetPuts_holds
end Go.Proofs.Ytnmfdkkdnaeikaa
