/- The law OctetBack returns true: for every input, no condition. -/
import Derived.Test.YtnmfdkkdnaeikaaM01
import Derived.Test.YtnmfdkkdnaeikaaA01
import Derived.Test.YtnmfdkkdnaeikaaRows
namespace Go.Proofs.Ytnmfdkkdnaeikaa
open Go.RowKit Go.Peri
theorem octetBack_walk (W : World) (args : Array Value) (h : Args W W.heap.size [.int .u64, .int .i64, .str, .str] args.toList) : Calls Try.prog 6 args W fun e W' => e = .returned (.bool true) ∧ Below W.heap.size W W' := by
  obtain ⟨v0, v1, v2, v3, rfl, h0, h1, h2, h3⟩ := args_four h
  obtain ⟨n, rfl, hn⟩ := u64_of_arg h0
  obtain ⟨a, rfl, _⟩ := int_of_arg h1
  obtain ⟨s, rfl, hs⟩ := str_of_arg h2
  obtain ⟨t, rfl, ht⟩ := str_of_arg h3
  exact C01.back_walk n a s t W hn hs ht

set_option maxRecDepth 100000 in
theorem octetBack_lifted (os : Os) (started : os.Started) (H : Type) (enc : TypeId × Value → H) :
    ReturnsInHanded {} Try.checked os 6 .any (Rows.octetBackSpec.pre6 enc Try.prog Try.f6 Rows.octetBackRow.domain false) (Rows.octetBackSpec.post enc Try.prog Try.f6 false true false false) :=
  law_lift (C := Try.checked) (tb := 4) [.int .u64, .int .i64, .str, .str] (by kernel_rfl) started (by kernel_rfl) Try.func6 (by kernel_rfl) rfl (by kernel_rfl) rfl Try.underlying4
    (fun ds h => by match ds, h with | [_, _, _, _], _ => rfl)
    (ChangeSpec.witness6 (enc := enc) (C := Try.checked) false ⟨#[], #[.int .u64 0, .int .i64 0, .string ⟨#[]⟩, .string ⟨#[]⟩], []⟩ 8 (by kernel_rfl) (by kernel_rfl) (by kernel_rfl) (by kernel_rfl))
    octetBack_walk
theorem octetBack_holds : Rows.OctetBackSaid :=
  OpenClaim.holds_of_wide 6 Try.f6 rfl rfl rfl rfl rfl rfl rfl ⟨rfl, rfl, rfl, rfl, rfl⟩ rfl rfl rfl rfl rfl (by kernel_rfl) Try.func6 (by kernel_rfl)
    (of_decide_eq_true (by kernel_rfl)) (by unfold Func.isWrapper; first | (rw [if_pos (by decide +kernel)]; kernel_rfl) | (rw [if_neg (by decide +kernel)]; exact ⟨rfl, rfl⟩))
    (fun os started H enc _ => octetBack_lifted os started H enc)
#print axioms octetBack_holds
end Go.Proofs.Ytnmfdkkdnaeikaa
