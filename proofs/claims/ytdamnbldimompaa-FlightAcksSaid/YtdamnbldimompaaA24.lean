/- What arguments of spans, open spans and small arrays read as. No program in sight. -/
import Derived.Test.YtdamnbldimompaaSp
namespace Go.Peri
open Go.RowKit
theorem span_of_arg {w : World} {B : Nat} {v : Value} (h : Arg w B Sp.ty v) : ∃ s : Sp, v = .agg #[.int .u64 s.hi, .int .u64 s.lo, .int .u64 s.id, .int .u64 s.up, .string s.name, .int .i64 s.status, .int .i64 s.seq, .int .i64 s.kids, .bool s.shadow, .int .i64 s.start, .int .i64 s.stop] ∧ s.Wf := by
  obtain ⟨cs, rfl, h⟩ : ∃ cs, v = .agg cs ∧ Rd w B Sp.ty cs.toList := h
  obtain ⟨s, e, hw⟩ := Sp.of_rd h
  refine ⟨s, ?_, hw⟩
  congr 1
  exact Array.toList_inj.1 e
theorem i64s_two {w : World} {B : Nat} {v : Value} (h : Arg w B (.cons (.int .i64) (.cons (.int .i64) .nil)) v) : ∃ a b : Int, v = .agg #[.int .i64 a, .int .i64 b] ∧ Sp.I64 a ∧ Sp.I64 b := by
  obtain ⟨cs, rfl, c1, c2, e, _, h1, c3, c4, e2, _, h2, h3⟩ := h
  obtain ⟨x, rfl, hx⟩ := Sp.rd_i64 h1
  obtain ⟨y, rfl, hy⟩ := Sp.rd_i64 h2
  have h4 : c4 = [] := h3
  subst h4
  refine ⟨x, y, ?_, hx, hy⟩
  congr 1
  apply Array.toList_inj.1
  rw [e, e2]
  rfl
theorem i64s_three {w : World} {B : Nat} {v : Value} (h : Arg w B (.cons (.int .i64) (.cons (.int .i64) (.cons (.int .i64) .nil))) v) : ∃ a b c : Int, v = .agg #[.int .i64 a, .int .i64 b, .int .i64 c] ∧ Sp.I64 a ∧ Sp.I64 b ∧ Sp.I64 c := by
  obtain ⟨cs, rfl, c1, c2, e, _, h1, c3, c4, e2, _, h2, c5, c6, e3, _, h3, h4⟩ := h
  obtain ⟨x, rfl, hx⟩ := Sp.rd_i64 h1
  obtain ⟨y, rfl, hy⟩ := Sp.rd_i64 h2
  obtain ⟨z, rfl, hz⟩ := Sp.rd_i64 h3
  have h5 : c6 = [] := h4
  subst h5
  refine ⟨x, y, z, ?_, hx, hy, hz⟩
  congr 1
  apply Array.toList_inj.1
  rw [e, e2, e3]
  rfl
theorem opens_of_arg {w : World} {B : Nat} {v : Value} (h : Arg w B (.slice 104 Opn.ty) v) : ∃ l : List Opn, RowsOf (· < B) Opn.enc 12 w v l ∧ l.length * 104 ≤ 140737488351232 := by
  obtain ⟨l, h1, h2, _⟩ := rows_of_arg (enc := Opn.enc) (wf := Opn.Wf) (e := Opn.ty) (fun _ => rfl) (fun cs hc => Opn.of_rd hc) h
  exact ⟨l, h1, h2⟩
theorem int64_of_arg {w : World} {B : Nat} {v : Value} (h : Arg w B (.int .i64) v) : ∃ n : Int, v = .int .i64 n ∧ Sp.I64 n := by
  obtain ⟨n, rfl, hw⟩ := int_of_arg h
  have h : IntKind.i64.min ≤ n ∧ n ≤ IntKind.i64.max := by simpa [Lit.wf] using hw
  exact ⟨n, rfl, h⟩
end Go.Peri
