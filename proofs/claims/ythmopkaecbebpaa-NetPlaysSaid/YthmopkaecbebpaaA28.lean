/- Arguments of layer 28 (net): moves as plain data. No program in sight. -/
import Derived.Test.YthmopkaecbebpaaRw
namespace Go.Peri
open Go.RowKit
/-- A move: what is done, from whom, to whom, which bytes, at which place. -/
structure Nm where
  kind : Int
  from_ : Int
  to : Int
  bytes : ByteArray
  k : Int
namespace Nm
def enc (m : Nm) : List Value := [.int .i64 m.kind, .int .i64 m.from_, .int .i64 m.to, .string m.bytes, .int .i64 m.k]
theorem enc_length (m : Nm) : m.enc.length = 5 := rfl
def ty : Ty := .cons (.int .i64) (.cons (.int .i64) (.cons (.int .i64) (.cons .str (.cons (.int .i64) .nil))))
def Wf (m : Nm) : Prop := m.bytes.size ≤ 140737488351232
theorem of_rd {w : World} {B : Nat} {cs : List Value} (h : Rd w B ty cs) : ∃ m : Nm, cs = m.enc ∧ Wf m := by
  obtain ⟨_, _, rfl, _, h0, h⟩ := h
  obtain ⟨_, _, rfl, _, h1, h⟩ := h
  obtain ⟨_, _, rfl, _, h2, h⟩ := h
  obtain ⟨_, _, rfl, _, h3, h⟩ := h
  obtain ⟨_, _, rfl, _, h4, h⟩ := h
  obtain rfl : _ = [] := h
  obtain ⟨a, rfl, _⟩ := h0
  obtain ⟨b, rfl, _⟩ := h1
  obtain ⟨c, rfl, _⟩ := h2
  obtain ⟨d, rfl, _, hd⟩ := h3
  obtain ⟨e, rfl, _⟩ := h4
  exact ⟨⟨a, b, c, d, e⟩, rfl, hd⟩
theorem cells {y : Nm} {w : World} {b o : Nat} (h : ∀ j u, y.enc[j]? = some u → w.cell? ⟨b, o + j, none⟩ = some u) :
    w.cell? ⟨b, o, none⟩ = some (.int .i64 y.kind) ∧ w.cell? ⟨b, o + 1, none⟩ = some (.int .i64 y.from_) ∧ w.cell? ⟨b, o + 2, none⟩ = some (.int .i64 y.to) ∧ w.cell? ⟨b, o + 3, none⟩ = some (.string y.bytes) ∧ w.cell? ⟨b, o + 4, none⟩ = some (.int .i64 y.k) :=
  ⟨h 0 _ rfl, h 1 _ rfl, h 2 _ rfl, h 3 _ rfl, h 4 _ rfl⟩
end Nm
theorem nmoves_of_arg {w : World} {B : Nat} {v : Value} (h : Arg w B (.slice 48 Nm.ty) v) : ∃ l : List Nm, RowsOf (· < B) Nm.enc 5 w v l ∧ (∀ m ∈ l, m.Wf) := by
  obtain ⟨l, h1, h2, h3⟩ := rows_of_arg (enc := Nm.enc) (wf := Nm.Wf) (e := Nm.ty) (fun _ => rfl) (fun cs hc => Nm.of_rd hc) h
  exact ⟨l, h1, h3⟩
end Go.Peri
