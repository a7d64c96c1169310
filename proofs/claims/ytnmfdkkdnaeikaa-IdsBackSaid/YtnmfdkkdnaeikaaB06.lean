/- What a struct of two numbers reads as. -/
import Derived.Test.YtnmfdkkdnaeikaaA01
namespace Go.Peri
open Go.RowKit
theorem pair_of_arg {w : World} {B : Nat} {v : Value} (h : Arg w B (.cons (.int .u64) (.cons (.int .u64) .nil)) v) : ∃ a b : Nat, v = .agg #[.int .u64 a, .int .u64 b] ∧ a < 18446744073709551616 ∧ b < 18446744073709551616 := by
  obtain ⟨cs, rfl, c1, c2, e, _, h1, c3, c4, e2, _, h2, h3⟩ := h
  obtain ⟨x, rfl, hx⟩ := h1
  obtain ⟨y, rfl, hy⟩ := h2
  obtain ⟨n, ex, hn⟩ := u64_of_arg (w := w) (B := B) (v := .int .u64 x) ⟨x, rfl, hx⟩
  obtain ⟨m, ey, hm⟩ := u64_of_arg (w := w) (B := B) (v := .int .u64 y) ⟨y, rfl, hy⟩
  have h4 : c4 = [] := h3
  subst h4
  refine ⟨n, m, ?_, hn, hm⟩
  congr 1
  apply Array.toList_inj.1
  rw [e, e2, ex, ey]
  rfl
end Go.Peri
