/- What arguments of spans read as. No program in sight. -/
import Derived.Test.YtefaegoajjcfjaaA24
namespace Go.Peri
open Go.RowKit
theorem spans_of_arg {w : World} {B : Nat} {v : Value} (h : Arg w B (.slice 96 Sp.ty) v) : ∃ l : List Sp, RowsOf (· < B) Sp.enc 11 w v l ∧ l.length * 96 ≤ 140737488351232 := by
  obtain ⟨l, h1, h2, _⟩ := rows_of_arg (enc := Sp.enc) (wf := Sp.Wf) (e := Sp.ty) (fun _ => rfl) (fun cs hc => Sp.of_rd hc) h
  exact ⟨l, h1, h2⟩
end Go.Peri
