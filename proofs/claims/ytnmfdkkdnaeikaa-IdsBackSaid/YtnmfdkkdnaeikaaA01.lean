/- What single arguments read as. -/
import Derived.Test.YtnmfdkkdnaeikaaBase
namespace Go.Peri
open Go.RowKit
theorem u64_of_arg {w : World} {B : Nat} {v : Value} (h : Arg w B (.int .u64) v) : ∃ n : Nat, v = .int .u64 n ∧ n < 18446744073709551616 := by
  obtain ⟨n, rfl, hw⟩ := int_of_arg h
  have h : IntKind.u64.min ≤ n ∧ n ≤ IntKind.u64.max := by simpa [Lit.wf] using hw
  obtain ⟨h1, h2⟩ : 0 ≤ n ∧ n ≤ 18446744073709551615 := h
  exact ⟨n.toNat, by rw [Int.toNat_of_nonneg h1], by omega⟩
theorem i64_of_arg {w : World} {B : Nat} {v : Value} (h : Arg w B (.int .i64) v) : ∃ n : Int, v = .int .i64 n ∧ -9223372036854775808 ≤ n ∧ n ≤ 9223372036854775807 := by
  obtain ⟨n, rfl, hw⟩ := int_of_arg h
  have h : IntKind.i64.min ≤ n ∧ n ≤ IntKind.i64.max := by simpa [Lit.wf] using hw
  exact ⟨n, rfl, h⟩
theorem str_of_arg {w : World} {B : Nat} {v : Value} (h : Arg w B .str v) : ∃ s : ByteArray, v = .string s ∧ s.size ≤ 140737488351232 := by
  obtain ⟨s, e, _, h2⟩ := h
  cases e
  exact ⟨s, rfl, h2⟩
end Go.Peri
