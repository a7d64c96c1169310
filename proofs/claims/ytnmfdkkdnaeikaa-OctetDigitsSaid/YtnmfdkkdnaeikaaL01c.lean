/- The law OctetDigits returns true: for every input, no condition. -/
import Derived.Test.YtnmfdkkdnaeikaaK01
import Derived.Test.YtnmfdkkdnaeikaaA01
import Derived.Test.YtnmfdkkdnaeikaaRows
namespace Go.Proofs.Ytnmfdkkdnaeikaa
open Go.RowKit Go.Peri
theorem octetDigits_walk (W : World) (args : Array Value) (h : Args W W.heap.size [.int .u64, .int .i64, .str] args.toList) : Calls Try.prog 5 args W fun e W' => e = .returned (.bool true) ∧ Below W.heap.size W W' := by
  obtain ⟨v0, v1, v2, rfl, h0, h1, h2⟩ := args_three h
  obtain ⟨n, rfl, hn⟩ := u64_of_arg h0
  obtain ⟨a, rfl, _⟩ := int_of_arg h1
  obtain ⟨s, rfl, hs⟩ := str_of_arg h2
  exact C01.digits_walk n a s W hn (by omega)

set_option maxRecDepth 100000 in
theorem octetDigits_lifted (os : Os) (started : os.Started) (H : Type) (enc : TypeId × Value → H) :
    ReturnsInHanded {} Try.checked os 5 .any (Rows.octetDigitsSpec.pre6 enc Try.prog Try.f5 Rows.octetDigitsRow.domain false) (Rows.octetDigitsSpec.post enc Try.prog Try.f5 false true false false) :=
  law_lift (C := Try.checked) (tb := 4) [.int .u64, .int .i64, .str] (by kernel_rfl) started (by kernel_rfl) Try.func5 (by kernel_rfl) rfl (by kernel_rfl) rfl Try.underlying4
    (fun ds h => by match ds, h with | [_, _, _], _ => rfl)
    (ChangeSpec.witness6 (enc := enc) (C := Try.checked) false ⟨#[], #[.int .u64 0, .int .i64 0, .string ⟨#[]⟩], []⟩ 8 (by kernel_rfl) (by kernel_rfl) (by kernel_rfl) (by kernel_rfl))
    octetDigits_walk
theorem octetDigits_holds : Rows.OctetDigitsSaid :=
  OpenClaim.holds_of_wide 5 Try.f5 rfl rfl rfl rfl rfl rfl rfl ⟨rfl, rfl, rfl, rfl, rfl⟩ rfl rfl rfl rfl rfl (by kernel_rfl) Try.func5 (by kernel_rfl)
    (of_decide_eq_true (by kernel_rfl)) (by unfold Func.isWrapper; first | (rw [if_pos (by decide +kernel)]; kernel_rfl) | (rw [if_neg (by decide +kernel)]; exact ⟨rfl, rfl⟩))
    (fun os started H enc _ => octetDigits_lifted os started H enc)
#print axioms octetDigits_holds
end Go.Proofs.Ytnmfdkkdnaeikaa
