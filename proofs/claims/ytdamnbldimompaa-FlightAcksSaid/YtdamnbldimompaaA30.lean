/- Arguments of layer 30 (store). No program in sight. -/
import Derived.Test.YtdamnbldimompaaA24
import Derived.Test.YtdamnbldimompaaKq
namespace Go.Peri
open Go.RowKit
def trTy : Ty := .cons (.int .u64) (.cons (.int .u64) .nil)
theorem trace_of_arg {w : World} {B : Nat} {v : Value} (h : Arg w B trTy v) : ∃ hi lo : Nat, v = .agg #[.int .u64 hi, .int .u64 lo] := by
  obtain ⟨cs, rfl, c1, c2, e, _, h1, c3, c4, e2, _, h2, h3⟩ := h
  obtain ⟨x, rfl, hx⟩ := Sp.rd_u64 h1
  obtain ⟨y, rfl, hy⟩ := Sp.rd_u64 h2
  have h4 : c4 = [] := h3
  subst h4
  refine ⟨x, y, ?_⟩
  congr 1
  apply Array.toList_inj.1
  rw [e, e2]
  rfl
theorem spans_of_arg' {w : World} {B : Nat} {v : Value} (h : Arg w B (.slice 96 Sp.ty) v) : ∃ l : List Sp, RowsOf (· < B) Sp.enc 11 w v l ∧ l.length * 96 ≤ 140737488351232 := by
  obtain ⟨l, h1, h2, _⟩ := rows_of_arg (enc := Sp.enc) (wf := fun _ => True) (e := Sp.ty) (fun _ => rfl) (fun cs hc => (Sp.of_rd hc).imp fun _ h => ⟨h.1, trivial⟩) h
  exact ⟨l, h1, h2⟩
end Go.Peri
