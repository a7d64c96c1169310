/- The law OctetGets returns true: for every input, no condition. -/
import Derived.Test.YtnmfdkkdnaeikaaK01
import Derived.Test.YtnmfdkkdnaeikaaA01
import Derived.Test.YtnmfdkkdnaeikaaRows
namespace Go.Proofs.Ytnmfdkkdnaeikaa
open Go.RowKit Go.Peri
theorem octetGets_walk (W : World) (args : Array Value) (h : Args W W.heap.size [.str, .int .i64, .int .i64] args.toList) : Calls Try.prog 4 args W fun e W' => e = .returned (.bool true) ∧ Below W.heap.size W W' := by
  obtain ⟨v0, v1, v2, rfl, h0, h1, h2⟩ := args_three h
  obtain ⟨s, rfl, hs⟩ := str_of_arg h0
  obtain ⟨a, rfl, ha⟩ := i64_of_arg h1
  obtain ⟨b, rfl, _⟩ := int_of_arg h2
  exact C01.gets_walk s a b W (by omega) ha

set_option maxRecDepth 100000 in
theorem octetGets_lifted (os : Os) (started : os.Started) (H : Type) (enc : TypeId × Value → H) :
    ReturnsInHanded {} Try.checked os 4 .any (Rows.octetGetsSpec.pre6 enc Try.prog Try.f4 Rows.octetGetsRow.domain false) (Rows.octetGetsSpec.post enc Try.prog Try.f4 false true false false) :=
  law_lift (C := Try.checked) (tb := 4) [.str, .int .i64, .int .i64] (by kernel_rfl) started (by kernel_rfl) Try.func4 (by kernel_rfl) rfl (by kernel_rfl) rfl Try.underlying4
    (fun ds h => by match ds, h with | [_, _, _], _ => rfl)
    (ChangeSpec.witness6 (enc := enc) (C := Try.checked) false ⟨#[], #[.string ⟨#[]⟩, .int .i64 0, .int .i64 0], []⟩ 8 (by kernel_rfl) (by kernel_rfl) (by kernel_rfl) (by kernel_rfl))
    octetGets_walk
theorem octetGets_holds : Rows.OctetGetsSaid :=
  OpenClaim.holds_of_wide 4 Try.f4 rfl rfl rfl rfl rfl rfl rfl ⟨rfl, rfl, rfl, rfl, rfl⟩ rfl rfl rfl rfl rfl (by kernel_rfl) Try.func4 (by kernel_rfl)
    (of_decide_eq_true (by kernel_rfl)) (by unfold Func.isWrapper; first | (rw [if_pos (by decide +kernel)]; kernel_rfl) | (rw [if_neg (by decide +kernel)]; exact ⟨rfl, rfl⟩))
    (fun os started H enc _ => octetGets_lifted os started H enc)
#print axioms octetGets_holds
end Go.Proofs.Ytnmfdkkdnaeikaa
