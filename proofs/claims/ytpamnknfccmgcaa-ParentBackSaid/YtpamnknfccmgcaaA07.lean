/- Arguments of layer 7. No program in sight. -/
import Derived.Test.YtpamnknfccmgcaaA24
import Derived.Test.YtpamnknfccmgcaaHd
namespace Go.Peri
open Go.RowKit
def Prt.ty : Ty := .cons (.cons (.int .u64) (.cons (.int .u64) .nil)) (.cons (.int .u64) (.cons (.int .i64) .nil))
theorem prt_of_arg {w : World} {B : Nat} {v : Value} (h : Arg w B Prt.ty v) : ∃ (hi lo sp : Nat) (f : Int), v = .agg #[.int .u64 hi, .int .u64 lo, .int .u64 sp, .int .i64 f] ∧ Sp.U64 hi ∧ Sp.U64 lo ∧ Sp.U64 sp ∧ Sp.I64 f := by
  obtain ⟨cs, rfl, h⟩ : ∃ cs, v = .agg cs ∧ Rd w B Prt.ty cs.toList := h
  obtain ⟨_, _, e, _, h1, h⟩ := h
  obtain ⟨_, _, rfl, _, a1, h1⟩ := h1
  obtain ⟨_, _, rfl, _, a2, h1⟩ := h1
  obtain ⟨_, _, rfl, _, a3, h⟩ := h
  obtain ⟨_, _, rfl, _, a4, h⟩ := h
  obtain ⟨hi, rfl, g1⟩ := Sp.rd_u64 a1
  obtain ⟨lo, rfl, g2⟩ := Sp.rd_u64 a2
  obtain ⟨sp, rfl, g3⟩ := Sp.rd_u64 a3
  obtain ⟨f, rfl, g4⟩ := Sp.rd_i64 a4
  have e1 : (_ : List Value) = [] := h1
  subst e1
  have e2 : (_ : List Value) = [] := h
  subst e2
  refine ⟨hi, lo, sp, f, ?_, g1, g2, g3, g4⟩
  congr 1
  apply Array.toList_inj.1
  rw [e]
  rfl
theorem uint64_of_arg {w : World} {B : Nat} {v : Value} (h : Arg w B (.int .u64) v) : ∃ n : Nat, v = .int .u64 n ∧ Sp.U64 n := by
  obtain ⟨n, e, hn⟩ := Sp.rd_u64 (w := w) (B := B) (cs := [v]) h
  exact ⟨n, by simpa using e, hn⟩
end Go.Peri
